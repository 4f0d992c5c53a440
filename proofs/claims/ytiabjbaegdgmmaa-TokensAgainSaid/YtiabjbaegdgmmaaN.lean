/-
  Walks. Written by program out of specs of mine.
-/
import Derived.Test.YtiabjbaegdgmmaaL
set_option linter.unusedSimpArgs false
set_option linter.unusedVariables false
namespace Go.Proofs.Ytiabjbaegdgmmaa
open Go Go.Vc Go.RowKit Go.Proofs

theorem take_get {xs zs : List UInt8} {a k : Nat} (hp : zs.take a = xs.take a) (hk : k < a) (hx : k < xs.length) (hz : k < zs.length) : zs[k] = xs[k] := by
  have h1 : (zs.take a)[k]? = (xs.take a)[k]? := by rw [hp]
  simpa [List.getElem?_take, hk, hx, hz] using h1
theorem runL_stopped {p : UInt8 → Bool} {xs : List UInt8} (k : Nat) (hk : k ≤ xs.length) (h : runL p xs k < xs.length) : p xs[runL p xs k] = false := by
  rcases runL_cases p xs k hk with ⟨h1, h2⟩ | ⟨h1, h2⟩ | h1
  · have hg := runL_go h1 h2
    have := runL_stopped (p := p) (xs := xs) (k + 1) (by omega) (by omega)
    simpa [hg] using this
  · have hs := runL_stop h1 h2
    simpa [hs] using h2
  · rw [runL_end (by omega)] at h; omega
termination_by xs.length - k
theorem runL_front {p : UInt8 → Bool} {xs zs : List UInt8} {a : Nat} (hp : zs.take a = xs.take a) (hx : a ≤ xs.length) (hz : a ≤ zs.length) (k : Nat) (hk : k ≤ a) (hr : runL p xs k ≤ a)
    (hs : zs.length = a ∨ (∃ h : a < zs.length, p zs[a] = false) ∨ runL p xs k < a) : runL p zs k = runL p xs k := by
  by_cases hka : k < a
  · have he := take_get hp hka (by omega) (by omega)
    cases hc : p xs[k] with
    | true =>
      rw [runL_go (by omega) hc] at hr hs ⊢
      rw [runL_go (xs := zs) (by omega) (by rw [he]; exact hc)]
      exact runL_front hp hx hz (k + 1) (by omega) hr hs
    | false => rw [runL_stop (xs := xs) (by omega) hc, runL_stop (xs := zs) (by omega) (by rw [he]; exact hc)]
  · have hka : k = a := by omega
    subst hka
    have h1 := (runL_le (p := p) hx).1
    have h2 : runL p xs k = k := by omega
    rw [h2]
    rcases hs with hs | ⟨h, hs⟩ | hs
    · exact runL_end (by omega)
    · exact runL_stop h hs
    · omega
termination_by a - k
theorem sub_front {xs zs : List UInt8} {a : Nat} (hp : zs.take a = xs.take a) (l h : Nat) (hh : h ≤ a) : sub zs l h = sub xs l h := by
  unfold sub
  have : ∀ ys : List UInt8, ys.take h = (ys.take a).take h := fun ys => by rw [List.take_take, Nat.min_eq_left hh]
  rw [this zs, this xs, hp]
theorem oneL_front {xs zs : List UInt8} {a : Nat} (hp : zs.take a = xs.take a) (hx : a ≤ xs.length) (hz : a ≤ zs.length) (hs : zs.length = a ∨ ∃ h : a < zs.length, goeB zs[a] = false) (k : Nat) (hk : k < a) (hk1 : k < xs.length) (hk2 : k < zs.length)
    (h0 : (oneL xs k hk1).1 = 0) (hf : (oneL xs k hk1).2.fin ≤ a) : oneL zs k hk2 = oneL xs k hk1 := by
  have he := take_get hp hk hk1 hk2
  have st : ∀ p : UInt8 → Bool, (∀ c : UInt8, goeB c = false → p c = false) → runL p xs k ≤ a → runL p zs k = runL p xs k := fun p hp32 hr =>
    runL_front hp hx hz k (by omega) hr (by rcases hs with hs | ⟨h, hs⟩; exact .inl hs; exact .inr (.inl ⟨h, hp32 _ hs⟩))
  unfold oneL at h0 hf ⊢
  rw [he]
  by_cases h1 : letB xs[k] = true
  · rw [if_pos h1] at h0 hf ⊢
    rw [if_pos h1]
    have hr : runL goeB xs k ≤ a := by split at hf <;> exact hf
    have hg := st goeB (fun _ h => h) hr
    rw [hg, sub_front hp _ _ hr]
  · rw [if_neg h1] at h0 hf ⊢
    rw [if_neg h1]
    by_cases h2 : digB xs[k] = true
    · rw [if_pos h2] at h0 hf ⊢
      rw [if_pos h2]
      have hr : runL digB xs k ≤ a := hf
      have hg := st digB (by intro c hc; simp [goeB] at hc; exact hc.1.2) hr
      rw [hg, sub_front hp _ _ hr]
    · rw [if_neg h2] at h0 hf ⊢
      rw [if_neg h2]
      by_cases h3 : markB xs[k] = true
      · rw [if_pos h3] at h0 hf ⊢
        rw [if_pos h3]
        have hr : k + 1 ≤ a := hf
        rw [sub_front hp _ _ hr]
      · rw [if_neg h3] at h0; simp at h0
theorem cutL_zero (xs : List UInt8) (k : Nat) (hk : k ≤ xs.length) (h : (cutL xs k).2.1 = 0) : (cutL xs k).2.2 = 0 := by
  rw [cutL_eq] at h ⊢
  split
  · rename_i hl
    rw [dif_pos hl] at h
    split
    · rename_i h1; rw [if_pos h1] at h
      have := runL_le (p := nnlB) (k := k + 1) (xs := xs) (by omega)
      exact cutL_zero xs _ (by omega) h
    · rename_i h1; rw [if_neg h1] at h
      split
      · rename_i h2; rw [if_pos h2] at h
        exact cutL_zero xs _ (by omega) h
      · rename_i h2; rw [if_neg h2] at h
        split
        · rename_i he
          rw [dif_pos he] at h
          have := oneL_fin xs k hl he
          exact cutL_zero xs _ (by omega) h
        · rename_i he; rw [dif_neg he] at h; exact absurd h he
  · rfl
termination_by xs.length - k
theorem oneL_err (xs : List UInt8) (k : Nat) (h : k < xs.length) : (oneL xs k h).1 = 0 ∨ 50 ≤ (oneL xs k h).1 := by
  have hn : ∀ ys, (numL ys).2 = 0 ∨ 50 ≤ (numL ys).2 := by
    intro ys
    have hf : ∀ ys n, (numF n ys).2 = 0 ∨ 50 ≤ (numF n ys).2 := by
      intro ys
      induction ys with
      | nil => intro n; exact .inl rfl
      | cons c cs ih => intro n; unfold numF; split; exact .inr (by decide); exact ih _
    unfold numL; split; exact .inr (by decide); exact hf _ _
  unfold oneL
  split
  · split; exact .inr (by show 50 ≤ 52; decide); exact .inl rfl
  · split
    · exact hn _
    · split; exact .inl rfl; exact .inr (by show 50 ≤ 50; decide)
theorem cutL_place (xs : List UInt8) (k : Nat) (hk : k ≤ xs.length) (h : (cutL xs k).2.1 ≠ 0) : k ≤ (cutL xs k).2.2 ∧ 50 ≤ (cutL xs k).2.1 ∧ ∃ hl : (cutL xs k).2.2 < xs.length, blankB xs[(cutL xs k).2.2] = false := by
  have hc := cutL_eq xs k
  by_cases hl : k < xs.length
  · rw [dif_pos hl] at hc
    by_cases h1 : (xs[k]).toNat = 35
    · rw [if_pos h1] at hc
      have := runL_le (p := nnlB) (k := k + 1) (xs := xs) (by omega)
      have ih := cutL_place xs (runL nnlB xs (k + 1)) (by omega) (by rw [← hc]; exact h)
      rw [← hc] at ih
      exact ⟨by omega, ih.2⟩
    · rw [if_neg h1] at hc
      by_cases h2 : blankB xs[k] = true
      · rw [if_pos h2] at hc
        have ih := cutL_place xs (k + 1) (by omega) (by rw [← hc]; exact h)
        rw [← hc] at ih
        exact ⟨by omega, ih.2⟩
      · rw [if_neg h2] at hc
        by_cases he : (oneL xs k hl).1 = 0
        · rw [dif_pos he] at hc
          have := oneL_fin xs k hl he
          have hc2 : (cutL xs k).2 = (cutL xs (oneL xs k hl).2.fin).2 := by rw [hc]
          have ih := cutL_place xs (oneL xs k hl).2.fin (by omega) (by rw [← hc2]; exact h)
          rw [← hc2] at ih
          exact ⟨by omega, ih.2⟩
        · rw [dif_neg he] at hc
          have e1 : (cutL xs k).2.2 = k := by rw [hc]
          have e2 : (cutL xs k).2.1 = (oneL xs k hl).1 := by rw [hc]
          refine ⟨by omega, ?_, by omega, by simpa [e1] using h2⟩
          rcases oneL_err xs k hl with h3 | h3 <;> omega
  · rw [dif_neg hl] at hc; rw [hc] at h; simp at h
termination_by xs.length - k
theorem cutL_front {xs zs : List UInt8} {a e : Nat} (hp : zs.take a = xs.take a) (hx : a ≤ xs.length) (hz : a ≤ zs.length) (hs : zs.length = a ∨ ∃ h : a < zs.length, goeB zs[a] = false) (he0 : e ≠ 0) (k : Nat) (hk : k ≤ a) (ts : List Tk) (hc : cutL xs k = (ts, e, a)) :
    cutL zs k = (ts ++ (cutL zs a).1, (cutL zs a).2) := by
  have pl : ∀ j us, j ≤ xs.length → cutL xs j = (us, e, a) → j ≤ a ∧ ∃ hl : a < xs.length, blankB xs[a] = false := fun j us hj h => by
    have := cutL_place xs j hj (by rw [h]; exact he0)
    simp only [h] at this
    exact ⟨this.1, this.2.2⟩
  have hpa := pl k ts (by omega) hc
  obtain ⟨-, ha, hb⟩ := hpa
  have hc1 := cutL_eq xs k
  have hc2 := cutL_eq zs k
  by_cases hl : k < xs.length
  · rw [dif_pos hl, hc] at hc1
    by_cases h1 : (xs[k]).toNat = 35
    · rw [if_pos h1] at hc1
      have hle := runL_le (p := nnlB) (k := k + 1) (xs := xs) (by omega)
      have hr := (pl _ ts hle.2 hc1.symm).1
      have hst := runL_stopped (p := nnlB) (xs := xs) (k + 1) (by omega) (by omega)
      have hne : runL nnlB xs (k + 1) ≠ a := by
        intro h
        have : nnlB xs[a] = false := by simpa [h] using hst
        simp [nnlB] at this
        simp [blankB, this] at hb
      have hg := take_get hp (show k < a by omega) hl (by omega)
      have hrz := runL_front (p := nnlB) hp hx hz (k + 1) (by omega) hr (.inr (.inr (by omega)))
      rw [dif_pos (by omega), if_pos (by rw [hg]; exact h1), hrz] at hc2
      rw [hc2]
      exact cutL_front hp hx hz hs he0 _ hr ts hc1.symm
    · rw [if_neg h1] at hc1
      by_cases h2 : blankB xs[k] = true
      · rw [if_pos h2] at hc1
        have hr := (pl _ ts (by omega) hc1.symm).1
        have hg := take_get hp (show k < a by omega) hl (by omega)
        rw [dif_pos (by omega), if_neg (by rw [hg]; exact h1), if_pos (by rw [hg]; exact h2)] at hc2
        rw [hc2]
        exact cutL_front hp hx hz hs he0 _ hr ts hc1.symm
      · rw [if_neg h2] at hc1
        by_cases he : (oneL xs k hl).1 = 0
        · rw [dif_pos he] at hc1
          have hf := oneL_fin xs k hl he
          obtain ⟨e1, e2⟩ := Prod.mk.inj hc1
          have hcf : cutL xs (oneL xs k hl).2.fin = ((cutL xs (oneL xs k hl).2.fin).1, e, a) := by rw [e2]
          have hr := (pl _ _ hf.2 hcf).1
          have hg := take_get hp (show k < a by omega) hl (by omega)
          have ho := oneL_front hp hx hz hs k (by omega) hl (by omega) he hr
          rw [dif_pos (by omega), if_neg (by rw [hg]; exact h1), if_neg (by rw [hg]; exact h2), dif_pos (by rw [ho]; exact he), ho] at hc2
          rw [hc2, cutL_front hp hx hz hs he0 _ hr _ hcf, e1]
          rfl
        · rw [dif_neg he] at hc1
          obtain ⟨e1, e2⟩ := Prod.mk.inj hc1
          obtain ⟨e3, e4⟩ := Prod.mk.inj e2
          subst e1; subst e4; rfl
  · rw [dif_neg hl, hc] at hc1
    simp at hc1; exact absurd hc1.2.1 he0
termination_by xs.length - k
theorem goe32 {c : UInt8} (h : c.toNat = 32) : goeB c = false := by simp [goeB, letB, digB]; omega
/-- the three cases of a text's answer -/
theorem cutA_cases (xs : List UInt8) : (cutA xs = ([], 4, 0) ∧ 65536 < xs.length) ∨ (xs.length ≤ 65536 ∧ (cutL xs 0).2 = (0, 0) ∧ cutA xs = cutL xs 0) ∨ (xs.length ≤ 65536 ∧ 50 ≤ (cutL xs 0).2.1 ∧ cutA xs = ([], (cutL xs 0).2)) := by
  unfold cutA
  split
  · rename_i h; exact .inl ⟨rfl, h⟩
  · rename_i h
    split
    · rename_i h0
      exact .inr (.inl ⟨by omega, Prod.ext h0 (cutL_zero xs 0 (Nat.zero_le _) h0), rfl⟩)
    · rename_i h0
      exact .inr (.inr ⟨by omega, (cutL_place xs 0 (Nat.zero_le _) h0).2.1, rfl⟩)
/-- the answers that stand ahead of a fault, and with more behind -/
theorem cutA_fault {xs : List UInt8} (h : 50 ≤ (cutL xs 0).2.1) (hl : xs.length ≤ 65536) : (cutL xs 0).2.2 < xs.length ∧ cutA (xs.take (cutL xs 0).2.2) = ((cutL xs 0).1, 0, 0) ∧
    ∀ more, ∃ ms e b, cutA (xs.take (cutL xs 0).2.2 ++ [32] ++ more) = (ms, e, b) ∧ (e = 4 → 65536 < (xs.take (cutL xs 0).2.2 ++ [32] ++ more).length) ∧ (e ≠ 0 → e ≠ 4 → (cutL xs 0).2.2 < b) ∧ (e = 0 → ∃ rest, ms = (cutL xs 0).1 ++ rest) := by
  have hp := cutL_place xs 0 (Nat.zero_le _) (by omega)
  obtain ⟨-, -, ha, hb⟩ := hp
  generalize hcu : cutL xs 0 = r at *
  obtain ⟨ts, e, a⟩ := r
  replace ha : a < xs.length := ha
  replace h : 50 ≤ e := h
  show a < xs.length ∧ cutA (xs.take a) = (ts, 0, 0) ∧ ∀ more, ∃ ms e b, cutA (xs.take a ++ [32] ++ more) = (ms, e, b) ∧ (e = 4 → 65536 < (xs.take a ++ [32] ++ more).length) ∧ (e ≠ 0 → e ≠ 4 → a < b) ∧ (e = 0 → ∃ rest, ms = ts ++ rest)
  have hta : (xs.take a).length = a := by simp; omega
  refine ⟨ha, ?_, fun more => ?_⟩
  · have := cutL_front (xs := xs) (zs := xs.take a) (a := a) (e := e) (by rw [List.take_take, Nat.min_self]) (by omega) (by omega) (.inl hta) (by omega) 0 (Nat.zero_le _) ts hcu
    have he : cutL (xs.take a) a = ([], 0, 0) := by rw [cutL_eq, dif_neg (by omega)]
    rw [he] at this
    unfold cutA
    rw [if_neg (by omega), this]; simp
  · have hl2 : (xs.take a ++ [32] ++ more).length = a + 1 + more.length := by simp; omega
    have hge : ∃ h : a < (xs.take a ++ [32] ++ more).length, (xs.take a ++ [32] ++ more)[a].toNat = 32 := ⟨by omega, by
      rw [List.getElem_append_left (by simp; omega), List.getElem_append_right (by omega)]
      simp [hta]⟩
    have hf := cutL_front (xs := xs) (zs := xs.take a ++ [32] ++ more) (a := a) (e := e) (by rw [List.append_assoc, List.take_append_of_le_length (by omega), List.take_take, Nat.min_self]) (by omega) (by omega) (.inr ⟨hge.1, goe32 hge.2⟩) (by omega) 0 (Nat.zero_le _) ts hcu
    obtain ⟨hg1, hg2⟩ := hge
    have hn := cutL_eq (xs.take a ++ [32] ++ more) a
    rw [dif_pos hg1, if_neg (by omega), if_pos (by simp only [blankB, hg2]; rfl)] at hn
    have hf2 : (cutL (xs.take a ++ [32] ++ more) 0).2 = (cutL (xs.take a ++ [32] ++ more) a).2 := by rw [hf]
    rcases cutA_cases (xs.take a ++ [32] ++ more) with ⟨h1, h2⟩ | ⟨h1, h2, h3⟩ | ⟨h1, h2, h3⟩
    · exact ⟨[], 4, 0, h1, fun _ => h2, fun _ h => absurd rfl h, fun h => absurd h (by decide)⟩
    · rw [hf] at h3
      rw [hf2] at h2
      have h4 : (cutL (xs.take a ++ [32] ++ more) a).2.1 = 0 := by rw [h2]
      exact ⟨ts ++ (cutL (xs.take a ++ [32] ++ more) a).1, (cutL (xs.take a ++ [32] ++ more) a).2.1, (cutL (xs.take a ++ [32] ++ more) a).2.2, h3, fun _ => by omega, fun _ _ => by omega, fun _ => ⟨_, rfl⟩⟩
    · rw [hf2] at h2 h3
      refine ⟨[], (cutL (xs.take a ++ [32] ++ more) a).2.1, (cutL (xs.take a ++ [32] ++ more) a).2.2, h3, fun _ => by omega, fun _ _ => ?_, fun _ => by omega⟩
      rw [hn] at h2 ⊢
      have := cutL_place (xs.take a ++ [32] ++ more) (a + 1) (by omega) (by omega)
      omega


theorem flat_take (ts rest : List Tk) : ((flat (ts ++ rest)).drop (0 * 5)).take ((ts.length - 0) * 5) = flat ts := by
  have h : flat (ts ++ rest) = flat ts ++ flat rest := by simp [flat]
  rw [Nat.zero_mul, List.drop_zero, Nat.sub_zero, h, ← flat_len, List.take_left]

set_option maxHeartbeats 1000000 in
theorem front_walk0 (w0 : World) (xs ys : List UInt8) (hlen : xs.length ≤ 140737488355328) (hlen2 : ys.length ≤ 140737488355328) : Ca Try.prog 7 #[st xs, st ys] w0 (fun v w' => v = .bool true ∧ Ext w0 w') := by
  refine Ca.of Try.func7 Try.ntmps7 rfl rfl ?_
  refine W.seq ?_
  refine W.region ?_
  refine WL.c rfl (o_as ?_)
  refine WL.nil ?_
  refine W.seq ?_
  refine W.seq ?_
  refine W.region ?_
  refine WL.c rfl (o_call Try.call9 ln ((first_spec _).mono ?_))
  rintro v12 w12 ⟨rfl, hx⟩
  refine WL.c rfl (o_not' rfl ?_)
  refine WL.nil ?_
  refine W.condF' rfl (rfl) ?_
  refine W.skip ?_
  refine W.seq ?_
  refine W.region ?_
  refine WL.c rfl (o_mv ?_)
  refine WL.c rfl (o_call Try.call15 (lc rfl ln) ((cut_spec (xs) _ (by omega)).mono ?_))
  rintro v16 w16 ⟨vA, rfl, ownA, hx16⟩
  replace hx := hx.tr hx16
  have hzA := hx.size
  have ownA_lt := ownA.lt
  refine WL.c rfl (o_mv ?_)
  refine WL.c rfl (o_ext rfl rfl ?_)
  refine WL.c rfl (o_ext rfl rfl ?_)
  refine WL.c rfl (o_alB TI29 ?_)
  intro wa6 hFA hxa hsa
  replace ownA := own_ext ownA hxa
  replace hx := hx.tr hxa
  refine WL.c rfl (o_as ?_)
  refine WL.u (o_stA TI29 rfl rfl rfl rfl hFA rfl ?_)
  intro wb6 hFA hob hsb
  replace ownA := own_only ownA hob (fun j hj he => by have := (ownA_lt j hj).2; omega)
  replace hx := Ext.own hx hzA hob
  clear hob hsb hxa hsa
  refine WL.nil ?_
  refine W.seq ?_
  refine W.seq ?_
  rcases cutA_cases xs with ⟨hA, hl⟩ | ⟨hl, h0, hA⟩ | ⟨hl, h50, hA⟩
  · skip
    rw [hA] at hFA
    refine W.region ?_
    refine WL.c rfl (o_fa 0 TI29 rfl TI27 rfl rfl ?_)
    refine WL.c rfl (o_ld TI27 rfl rfl (cell_of hFA rfl) ?_)
    refine WL.c rfl (o_eq rfl rfl ?_)
    refine WL.c rfl (o_mv ?_)
    refine WL.g rfl (by simp) rfl (o_fa 0 TI29 rfl TI27 rfl rfl ?_)
    refine WL.g rfl (by simp) rfl (o_ld TI27 rfl rfl (cell_of hFA rfl) ?_)
    refine WL.g rfl (by simp) rfl (o_eq rfl rfl ?_)
    refine WL.c rfl (o_pickO rfl rfl ?_)
    refine WL.nil ?_
    refine W.condT' rfl (by simp) ?_
    refine W.seq ?_
    refine W.region ?_
    refine WL.c rfl (o_fa 1 TI29 rfl TI3 rfl rfl ?_)
    refine WL.c rfl (o_ld TI3 rfl rfl (cell_of hFA rfl) ?_)
    refine WL.c rfl (o_eq rfl rfl ?_)
    refine WL.c rfl (o_as ?_)
    refine WL.nil ?_
    refine W.ret ?_
    refine ret1v rfl (show _ = Value.bool _ from rfl) ?_
    exact ⟨congrArg Value.bool (by simp), hx⟩
  · skip
    rw [hA, show cutL xs 0 = ((cutL xs 0).1, 0, 0) from by rw [← h0]] at hFA
    refine W.region ?_
    refine WL.c rfl (o_fa 0 TI29 rfl TI27 rfl rfl ?_)
    refine WL.c rfl (o_ld TI27 rfl rfl (cell_of hFA rfl) ?_)
    refine WL.c rfl (o_eq rfl rfl ?_)
    refine WL.c rfl (o_mv ?_)
    refine WL.s rfl (by simp) rfl ?_
    refine WL.s rfl (by simp) rfl ?_
    refine WL.s rfl (by simp) rfl ?_
    refine WL.c rfl (o_pickT rfl (by simp) ?_)
    refine WL.nil ?_
    refine W.condT' rfl (by simp) ?_
    refine W.seq ?_
    refine W.region ?_
    refine WL.c rfl (o_fa 1 TI29 rfl TI3 rfl rfl ?_)
    refine WL.c rfl (o_ld TI3 rfl rfl (cell_of hFA rfl) ?_)
    refine WL.c rfl (o_eq rfl rfl ?_)
    refine WL.c rfl (o_as ?_)
    refine WL.nil ?_
    refine W.ret ?_
    refine ret1v rfl (show _ = Value.bool _ from rfl) ?_
    exact ⟨congrArg Value.bool (by simp), hx⟩
  · skip
    obtain ⟨ha, hcf, hmore⟩ := cutA_fault h50 hl
    obtain ⟨ms, e3, b3, hcm, hm4, hmb, hm0⟩ := hmore ys
    rw [hA] at hFA
    generalize hts : (cutL xs 0).1 = ts at *
    generalize hea : (cutL xs 0).2 = ea at *
    obtain ⟨e, a⟩ := ea
    replace ha : a < xs.length := ha
    replace h50 : 50 ≤ e := h50
    replace hcf : cutA (xs.take a) = (ts, 0, 0) := hcf
    replace hcm : cutA (xs.take a ++ [32] ++ ys) = (ms, e3, b3) := hcm
    replace hmb : e3 ≠ 0 → e3 ≠ 4 → a < b3 := hmb
    replace hm4 : e3 = 4 → 65536 < (xs.take a ++ [32] ++ ys).length := hm4
    replace hFA : _ = some (Obj.cells (faultV e a) 29 (0, 0)) := hFA
    have hld : (xs.take a).drop 0 = xs.take a := rfl
    refine W.region ?_
    refine WL.c rfl (o_fa 0 TI29 rfl TI27 rfl rfl ?_)
    refine WL.c rfl (o_ld TI27 rfl rfl (cell_of hFA rfl) ?_)
    refine WL.c rfl (o_eq rfl rfl ?_)
    refine WL.c rfl (o_mv ?_)
    refine WL.g rfl (by simp <;> omega) rfl (o_fa 0 TI29 rfl TI27 rfl rfl ?_)
    refine WL.g rfl (by simp <;> omega) rfl (o_ld TI27 rfl rfl (cell_of hFA rfl) ?_)
    refine WL.g rfl (by simp <;> omega) rfl (o_eq rfl rfl ?_)
    refine WL.c rfl (o_pickO rfl rfl ?_)
    refine WL.nil ?_
    refine W.condF' rfl (by simp <;> omega) ?_
    refine W.skip ?_
    refine W.seq ?_
    refine W.seq ?_
    refine W.region ?_
    refine WL.c rfl (o_fa 1 TI29 rfl TI3 rfl rfl ?_)
    refine WL.c rfl (o_ld TI3 rfl rfl (cell_of hFA rfl) ?_)
    refine WL.c rfl (o_lt rfl rfl ?_)
    refine WL.c rfl (o_mv ?_)
    refine WL.g rfl (by simp <;> omega) rfl (o_fa 1 TI29 rfl TI3 rfl rfl ?_)
    refine WL.g rfl (by simp <;> omega) rfl (o_ld TI3 rfl rfl (cell_of hFA rfl) ?_)
    refine WL.g rfl (by simp <;> omega) rfl (o_mv ?_)
    refine WL.g rfl (by simp <;> omega) rfl (o_lenT TI9 rfl ?_)
    refine WL.g rfl (by simp <;> omega) rfl (o_ge rfl rfl ?_)
    refine WL.c rfl (o_pickO rfl rfl ?_)
    refine WL.nil ?_
    refine W.condF' rfl (by simp <;> omega) ?_
    refine W.skip ?_
    refine W.seq ?_
    refine W.region ?_
    refine WL.c rfl (o_mv ?_)
    refine WL.c rfl (o_fa 1 TI29 rfl TI3 rfl rfl ?_)
    refine WL.c rfl (o_ld TI3 rfl rfl (cell_of hFA rfl) ?_)
    refine WL.c rfl (o_ssT TI9 rfl Lo.n (Hi.s rfl) (Nat.zero_le _) (by omega) ?_)
    refine WL.c rfl (o_call Try.call15 (lc rfl ln) ((cut_spec ((xs.take a).drop 0) _ (by simp <;> omega)).mono ?_))
    rintro v45 w45 ⟨vB, rfl, ownB, hx45⟩
    replace hFA := hx45.blk hFA (fun h => h)
    replace hx := hx.tr hx45
    have hzB := hx.size
    have ownB_lt := ownB.lt
    have hFA_lt := (Array.getElem?_eq_some_iff.1 hFA).1
    refine WL.c rfl (o_mv ?_)
    refine WL.c rfl (o_ext rfl rfl ?_)
    refine WL.c rfl (o_ext rfl rfl ?_)
    refine WL.c rfl (o_alB TI29 ?_)
    intro wa8 hFB hxa hsa
    replace hFA := hxa.blk hFA (fun h => h)
    replace ownB := own_ext ownB hxa
    replace hx := hx.tr hxa
    refine WL.c rfl (o_as ?_)
    refine WL.u (o_stA TI29 rfl rfl rfl rfl hFB rfl ?_)
    intro wb8 hFB hob hsb
    replace hFA := hob.blk hFA (by show ¬ _ = _; omega)
    replace ownB := own_only ownB hob (fun j hj he => by have := (ownB_lt j hj).2; omega)
    replace hx := Ext.own hx hzB hob
    clear hob hsb hxa hsa
    refine WL.nil ?_
    refine W.seq ?_
    refine W.seq ?_
    rw [hld, hcf] at ownB hFB
    refine W.region ?_
    refine WL.c rfl (o_ldA TI29 rfl rfl (cells_all hFB) rfl ?_)
    refine WL.c rfl (o_bldC (cs := [(.int .i64 0), (.int .i64 0)]) TI29 (Sizes.cons TI27 (Sizes.cons TI3 Sizes.nil)) rfl lnp rfl rfl ?_)
    refine WL.c rfl (o_neR TI29 (by kernel_rfl) (by kernel_rfl) rfl rfl (.int TI27 (by decide) rfl rfl (.int TI3 (by decide) rfl rfl .nil)) ?_)
    refine WL.nil ?_
    refine W.condF' rfl (by simp) ?_
    refine W.skip ?_
    refine W.seq ?_
    refine W.region ?_
    refine WL.c rfl (o_mv ?_)
    refine WL.c rfl (o_fa 1 TI29 rfl TI3 rfl rfl ?_)
    refine WL.c rfl (o_ld TI3 rfl rfl (cell_of hFA rfl) ?_)
    refine WL.c rfl (o_ssT TI9 rfl Lo.n (Hi.s rfl) (Nat.zero_le _) (by omega) ?_)
    refine WL.c rfl (o_addT rfl rfl (by simp <;> omega) ?_)
    refine WL.c rfl (o_mv ?_)
    refine WL.c rfl (o_addT rfl rfl (by simp <;> omega) ?_)
    refine WL.c rfl (o_as ?_)
    refine WL.nil ?_
    refine W.seq ?_
    refine W.region ?_
    refine WL.c rfl (o_mv ?_)
    refine WL.c rfl (o_call Try.call15 (lc rfl ln) ((cut_spec ((xs.take a).drop 0 ++ [32] ++ ys) _ (by simp <;> omega)).mono ?_))
    rintro v60 w60 ⟨vC, rfl, ownC, hx60⟩
    replace hFA := hx60.blk hFA (fun h => h)
    replace ownB := own_ext ownB hx60
    replace hx := hx.tr hx60
    have hzC := hx.size
    have ownC_lt := ownC.lt
    have hFA_lt := (Array.getElem?_eq_some_iff.1 hFA).1
    have ownB_lt := ownB.lt
    refine WL.c rfl (o_mv ?_)
    refine WL.c rfl (o_ext rfl rfl ?_)
    refine WL.c rfl (o_ext rfl rfl ?_)
    refine WL.c rfl (o_alB TI29 ?_)
    intro wa11 hFC hxa hsa
    replace hFA := hxa.blk hFA (fun h => h)
    replace ownB := own_ext ownB hxa
    replace ownC := own_ext ownC hxa
    replace hx := hx.tr hxa
    refine WL.c rfl (o_as ?_)
    refine WL.u (o_stA TI29 rfl rfl rfl rfl hFC rfl ?_)
    intro wb11 hFC hob hsb
    replace hFA := hob.blk hFA (by show ¬ _ = _; omega)
    replace ownB := own_only ownB hob (fun j hj he => by have := (ownB_lt j hj).2; omega)
    replace ownC := own_only ownC hob (fun j hj he => by have := (ownC_lt j hj).2; omega)
    replace hx := Ext.own hx hzC hob
    clear hob hsb hxa hsa
    refine WL.nil ?_
    refine W.seq ?_
    refine W.seq ?_
    rw [hld, hcm] at ownC hFC
    refine W.region ?_
    refine WL.c rfl (o_fa 0 TI29 rfl TI27 rfl rfl ?_)
    refine WL.c rfl (o_ld TI27 rfl rfl (cell_of hFC rfl) ?_)
    refine WL.c rfl (o_ne rfl rfl ?_)
    refine WL.nil ?_
    refine W.cond rfl (fun c65 => ?_) (fun c65 => ?_)
    · try simp only [decide_eq_true_eq, decide_eq_false_iff_not, Bool.not_eq_true', Bool.not_eq_false', Bool.and_eq_true, Bool.or_eq_true, Bool.and_eq_false_iff, Bool.or_eq_false_iff] at c65
      have he3 : e3 ≠ 0 := by omega
      refine W.seq ?_
      by_cases he4 : e3 = 4
      · skip
        have h65 := hm4 he4
        refine W.region ?_
        refine WL.c rfl (o_fa 0 TI29 rfl TI27 rfl rfl ?_)
        refine WL.c rfl (o_ld TI27 rfl rfl (cell_of hFC rfl) ?_)
        refine WL.c rfl (o_eq rfl rfl ?_)
        refine WL.c rfl (o_mv ?_)
        refine WL.g rfl (by simp <;> omega) rfl (o_mv ?_)
        refine WL.g rfl (by simp <;> omega) rfl (o_lenT TI9 rfl ?_)
        refine WL.g rfl (by simp <;> omega) rfl (o_gt rfl rfl ?_)
        refine WL.c rfl (o_pickA rfl rfl ?_)
        refine WL.c rfl (o_mv ?_)
        refine WL.s rfl (by simp only [Bool.and_eq_true, Bool.not_false, decide_eq_true_eq]; exact ⟨by show (e3 : Int) = 4; omega, by show (65536 : Int) < ((xs.take a ++ [32] ++ ys).length : Nat); omega⟩) rfl ?_
        refine WL.s rfl (by simp only [Bool.and_eq_true, Bool.not_false, decide_eq_true_eq]; exact ⟨by show (e3 : Int) = 4; omega, by show (65536 : Int) < ((xs.take a ++ [32] ++ ys).length : Nat); omega⟩) rfl ?_
        refine WL.s rfl (by simp only [Bool.and_eq_true, Bool.not_false, decide_eq_true_eq]; exact ⟨by show (e3 : Int) = 4; omega, by show (65536 : Int) < ((xs.take a ++ [32] ++ ys).length : Nat); omega⟩) rfl ?_
        refine WL.s rfl (by simp only [Bool.and_eq_true, Bool.not_false, decide_eq_true_eq]; exact ⟨by show (e3 : Int) = 4; omega, by show (65536 : Int) < ((xs.take a ++ [32] ++ ys).length : Nat); omega⟩) rfl ?_
        refine WL.s rfl (by simp only [Bool.and_eq_true, Bool.not_false, decide_eq_true_eq]; exact ⟨by show (e3 : Int) = 4; omega, by show (65536 : Int) < ((xs.take a ++ [32] ++ ys).length : Nat); omega⟩) rfl ?_
        refine WL.c rfl (o_pickT rfl (by simp only [Bool.and_eq_true, Bool.not_false, decide_eq_true_eq]; exact ⟨by show (e3 : Int) = 4; omega, by show (65536 : Int) < ((xs.take a ++ [32] ++ ys).length : Nat); omega⟩) ?_)
        refine WL.c rfl (o_as ?_)
        refine WL.nil ?_
        refine W.ret ?_
        refine ret1v rfl (show _ = Value.bool _ from rfl) ?_
        exact ⟨rfl, hx⟩
      · skip
        have hab := hmb (by omega) he4
        refine W.region ?_
        refine WL.c rfl (o_fa 0 TI29 rfl TI27 rfl rfl ?_)
        refine WL.c rfl (o_ld TI27 rfl rfl (cell_of hFC rfl) ?_)
        refine WL.c rfl (o_eq rfl rfl ?_)
        refine WL.c rfl (o_mv ?_)
        refine WL.s rfl (by simp <;> omega) rfl ?_
        refine WL.s rfl (by simp <;> omega) rfl ?_
        refine WL.s rfl (by simp <;> omega) rfl ?_
        refine WL.c rfl (o_pickF rfl (by simp <;> omega) ?_)
        refine WL.c rfl (o_mv ?_)
        refine WL.g rfl (rfl) rfl (o_fa 1 TI29 rfl TI3 rfl rfl ?_)
        refine WL.g rfl (rfl) rfl (o_ld TI3 rfl rfl (cell_of hFC rfl) ?_)
        refine WL.g rfl (rfl) rfl (o_fa 1 TI29 rfl TI3 rfl rfl ?_)
        refine WL.g rfl (rfl) rfl (o_ld TI3 rfl rfl (cell_of hFA rfl) ?_)
        refine WL.g rfl (rfl) rfl (o_gt rfl rfl ?_)
        refine WL.c rfl (o_pickO rfl rfl ?_)
        refine WL.c rfl (o_as ?_)
        refine WL.nil ?_
        refine W.ret ?_
        refine ret1v rfl (show _ = Value.bool _ from rfl) ?_
        exact ⟨congrArg Value.bool (by simp <;> omega), hx⟩
    · try simp only [decide_eq_true_eq, decide_eq_false_iff_not, Bool.not_eq_true', Bool.not_eq_false', Bool.and_eq_true, Bool.or_eq_true, Bool.and_eq_false_iff, Bool.or_eq_false_iff] at c65
      obtain ⟨rest, hrest⟩ := hm0 (by omega)
      have hSC := Sl.own ownC
      have hSB := Sl.own ownB
      refine W.skip ?_
      refine W.seq ?_
      refine W.seq ?_
      refine W.region ?_
      refine WL.c rfl (o_mv ?_)
      refine WL.c rfl (o_lenR TI26 rfl hSC ?_)
      refine WL.c rfl (o_mv ?_)
      refine WL.c rfl (o_lenR TI26 rfl hSB ?_)
      refine WL.c rfl (o_lt rfl rfl ?_)
      refine WL.nil ?_
      refine W.condF' rfl (by simp [hrest] <;> omega) ?_
      refine W.skip ?_
      refine W.seq ?_
      refine W.region ?_
      refine WL.c rfl (o_mv ?_)
      refine WL.c rfl (o_mv ?_)
      refine WL.c rfl (o_lenR TI26 rfl hSB ?_)
      refine WL.c rfl (o_sl TI26 TI33 rfl hSC Lo.n (Hi.s rfl) (Nat.zero_le _) (by simp [hrest]) ?_)
      intro v89 hb89 hS89
      have hS89' : Sl wb11 5 v89 ts.length (flat ts) := by rw [hrest, flat_take] at hS89; exact hS89
      refine WL.c rfl (o_mv ?_)
      refine WL.c rfl (o_call Try.call19 (lc rfl (lc rfl ln)) ((same_spec v89 vB ts ts _ hS89' hSB (by have := cutL_count xs 0 (Nat.zero_le _); rw [hts] at this; omega)).mono ?_))
      rintro v91 w91 ⟨rfl, m91, rfl⟩
      refine WL.c rfl (o_as ?_)
      refine WL.nil ?_
      refine W.ret ?_
      refine ret1v rfl (show _ = Value.bool _ from rfl) ?_
      exact ⟨congrArg Value.bool (by simp), hx.tr (Only.drewN _ _)⟩

theorem front_walk (w0 : World) (s : ByteArray) (hs : s.size ≤ 140737488355328) (t : ByteArray) (ht : t.size ≤ 140737488355328) : Ca Try.prog 7 #[.string s, .string t] w0 (fun v w' => v = .bool true ∧ Ext w0 w') := by
  obtain ⟨⟨xs⟩⟩ := s
  obtain ⟨⟨ys⟩⟩ := t
  exact front_walk0 w0 xs ys hs ht

end Go.Proofs.Ytiabjbaegdgmmaa
