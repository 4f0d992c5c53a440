/-
  Walks. Written by program out of specs of mine.
-/
import Derived.Test.YtcljkkfpcomdcaaI
set_option linter.unusedSimpArgs false
set_option linter.unusedVariables false
set_option maxRecDepth 100000
namespace Go.Proofs.Ytcljkkfpcomdcaa
open Go Go.Vc Go.RowKit Go.Proofs

/-! ### the tokens of a text -/
theorem sub_length {xs : List UInt8} {l h : Nat} (hh : h ≤ xs.length) : (sub xs l h).length = h - l := by unfold sub; simp; omega
def Asc (lo : Nat) : List Tk → Prop
  | [] => True
  | t :: ts => lo ≤ t.at_ ∧ t.at_ < t.fin ∧ Asc t.fin ts
theorem oneL_at {xs : List UInt8} {k : Nat} {h : k < xs.length} (he : (oneL xs k h).1 = 0) : (oneL xs k h).2.at_ = k := by
  unfold oneL at he ⊢
  repeat' split
  all_goals first | rfl | skip
theorem cutL_asc (xs : List UInt8) : ∀ k, Asc k (cutL xs k).1 ∧ ∀ t ∈ (cutL xs k).1, ∃ h : t.at_ < xs.length, oneL xs t.at_ h = (0, t) := by
  intro k
  induction hn : xs.length - k using Nat.strongRecOn generalizing k with
  | _ n ih =>
    have asc_le : ∀ {a b : Nat} {l : List Tk}, a ≤ b → Asc b l → Asc a l := fun {a b l} hab h => by
      cases l with
      | nil => trivial
      | cons t ts => exact ⟨Nat.le_trans hab h.1, h.2⟩
    rw [cutL_eq]
    split
    · rename_i hk
      split
      · have h1 := (runL_le (p := nnlB) (k := k + 1) (xs := xs) (by omega)).1
        have h2 := ih (xs.length - runL nnlB xs (k + 1)) (by omega) _ rfl
        exact ⟨asc_le (by omega) h2.1, h2.2⟩
      · split
        · have h2 := ih (xs.length - (k + 1)) (by omega) _ rfl
          exact ⟨asc_le (by omega) h2.1, h2.2⟩
        · split
          · rename_i he
            have h1 := oneL_fin xs k hk he
            have h3 := oneL_at he
            have h2 := ih (xs.length - (oneL xs k hk).2.fin) (by omega) _ rfl
            refine ⟨⟨by omega, by omega, h2.1⟩, fun t ht => ?_⟩
            rcases List.mem_cons.1 ht with rfl | ht
            · refine ⟨by omega, ?_⟩
              simp only [h3]
              exact Prod.ext he rfl
            · exact h2.2 t ht
          · exact ⟨trivial, fun t ht => by cases ht⟩
    · exact ⟨trivial, fun t ht => by cases ht⟩
theorem asc_lt : ∀ {T : List Tk} {lo : Nat}, Asc lo T → ∀ {i j : Nat} (hij : i < j) (hj : j < T.length), (T[i]'(Nat.lt_trans hij hj)).fin ≤ T[j].at_ ∧ (T[i]'(Nat.lt_trans hij hj)).at_ < T[j].at_
  | [], _, _, i, j, h, hj => by simp at hj
  | t :: ts, lo, ha, i, j, h, hj => by
    obtain ⟨h1, h2, h3⟩ := ha
    have low : ∀ {ts : List Tk} {lo : Nat}, Asc lo ts → ∀ k (hk : k < ts.length), lo ≤ ts[k].at_ := by
      intro ts
      induction ts with
      | nil => intro lo _ k hk; simp at hk
      | cons a l ih =>
        intro lo ha k hk
        obtain ⟨g1, g2, g3⟩ := ha
        cases k with
        | zero => exact g1
        | succ k => have := ih g3 k (by simpa using hk); show lo ≤ (l[k]'(by simpa using hk)).at_; omega
    cases j with
    | zero => omega
    | succ j =>
      cases i with
      | zero => have := low h3 j (by simpa using hj); exact ⟨this, by show t.at_ < (ts[j]'(by simpa using hj)).at_; omega⟩
      | succ i => exact asc_lt h3 (by omega) (by simpa using hj)
/-- a token that stands in a text -/
structure TokIn (xs : List UInt8) (t : Tk) : Prop where
  lt : t.at_ < t.fin
  le : t.fin ≤ xs.length
  kind : t.kind = 1 ∨ t.kind = 2 ∨ t.kind = 3
  text : t.kind ≠ 2 → t.text = sub xs t.at_ t.fin
  num : t.kind = 2 → t.text = []
  zero : t.kind ≠ 2 → t.n = 0
  small : t.n ≤ 2147483647
theorem numF_le : ∀ (xs : List UInt8) (n : Nat), (numF n xs).1 ≤ 2147483647 ∨ (numF n xs).2 ≠ 0 ∨ (numF n xs).1 = n := by
  intro xs
  induction xs with
  | nil => intro n; exact .inr (.inr rfl)
  | cons c cs ih =>
    intro n
    unfold numF
    split
    · exact .inl (Nat.zero_le _)
    · rename_i hh
      rcases ih (10 * n + (c.toNat - 48)) with h1 | h1 | h1
      · exact .inl h1
      · exact .inr (.inl h1)
      · exact .inl (by rw [h1]; omega)


theorem tok_in {xs : List UInt8} {t : Tk} (h : t.at_ < xs.length) (ho : oneL xs t.at_ h = (0, t)) : TokIn xs t := by
  have hf := oneL_fin xs t.at_ h (by rw [ho])
  rw [ho] at hf
  obtain ⟨k, tx, n, a, f⟩ := t
  simp only at h ho hf
  unfold oneL at ho
  split at ho
  · split at ho
    · cases ho
    · simp only [Prod.mk.injEq, Tk.mk.injEq] at ho
      obtain ⟨-, rfl, rfl, rfl, -, rfl⟩ := ho
      exact ⟨hf.1, hf.2, .inl rfl, fun _ => rfl, fun h => (by cases h), fun _ => rfl, Nat.zero_le _⟩
  · split at ho
    · simp only [Prod.mk.injEq, Tk.mk.injEq] at ho
      obtain ⟨h0, rfl, rfl, rfl, -, rfl⟩ := ho
      refine ⟨hf.1, hf.2, .inr (.inl rfl), fun h => absurd rfl h, fun _ => rfl, fun h => absurd rfl h, ?_⟩
      show (numL _).1 ≤ _
      unfold numL at h0 ⊢
      split
      · exact Nat.zero_le _
      · rename_i hl
        rw [if_neg hl] at h0
        rcases numF_le (sub xs a (runL digB xs a)) 0 with g | g | g
        · exact g
        · exact absurd h0 g
        · rw [g]; exact Nat.zero_le _
    · split at ho
      · simp only [Prod.mk.injEq, Tk.mk.injEq] at ho
        obtain ⟨-, rfl, rfl, rfl, -, rfl⟩ := ho
        exact ⟨hf.1, hf.2, .inr (.inr rfl), fun _ => rfl, fun h => (by cases h), fun _ => rfl, Nat.zero_le _⟩
      · cases ho
theorem cutA_toks (xs : List UInt8) : Asc 0 (cutA xs).1 ∧ ∀ t ∈ (cutA xs).1, TokIn xs t := by
  unfold cutA
  split
  · exact ⟨trivial, fun t ht => by cases ht⟩
  · split
    · have h := cutL_asc xs 0
      exact ⟨h.1, fun t ht => by obtain ⟨h1, h2⟩ := h.2 t ht; exact tok_in h1 h2⟩
    · exact ⟨trivial, fun t ht => by cases ht⟩
theorem cut_lt {xs : List UInt8} {i j : Nat} (h : i < j) (hj : j < (cutA xs).1.length) : (tkA (cutA xs).1 i).fin ≤ (tkA (cutA xs).1 j).at_ ∧ (tkA (cutA xs).1 i).at_ < (tkA (cutA xs).1 j).at_ := by
  have := asc_lt (cutA_toks xs).1 h hj
  rw [tkA_lt (show i < (cutA xs).1.length by omega), tkA_lt hj]
  exact this
theorem cut_in {xs : List UInt8} {i : Nat} (h : i < (cutA xs).1.length) : TokIn xs (tkA (cutA xs).1 i) := by
  rw [tkA_lt h]; exact (cutA_toks xs).2 _ (List.getElem_mem h)
theorem cutL_fault_le (xs : List UInt8) : ∀ k, (cutL xs k).2.2 ≤ xs.length := by
  intro k
  induction hn : xs.length - k using Nat.strongRecOn generalizing k with
  | _ n ih =>
    rw [cutL_eq]
    split
    · rename_i hk
      split
      · have h1 := (runL_le (p := nnlB) (k := k + 1) (xs := xs) (by omega)).1
        exact ih (xs.length - runL nnlB xs (k + 1)) (by omega) _ rfl
      · split
        · exact ih (xs.length - (k + 1)) (by omega) _ rfl
        · split
          · rename_i he
            have h1 := oneL_fin xs k hk he
            exact ih (xs.length - (oneL xs k hk).2.fin) (by omega) _ rfl
          · exact Nat.le_of_lt hk
    · exact Nat.zero_le _
theorem cutA_fault_le (xs : List UInt8) : (cutA xs).2.2 ≤ xs.length := by
  unfold cutA
  split
  · exact Nat.zero_le _
  · split <;> exact cutL_fault_le xs 0
theorem plc_le (xs : List UInt8) (i : Nat) : plc (cutA xs).1 xs.length i ≤ xs.length := by
  unfold plc
  split
  · rename_i h; have := cut_in h; have := this.lt; have := (cut_in h).le; omega
  · exact Nat.le_refl _
theorem parseA_le (xs : List UInt8) : (parseA xs).2.2 ≤ xs.length := by
  unfold parseA
  split
  · split
    · exact Nat.zero_le _
    · exact plc_le _ _
  · exact cutA_fault_le xs
theorem parseA_bad {xs : List UInt8} (h : (parseA xs).2.1 ≠ 0) : (parseA xs).1 = [] := by
  unfold parseA at h ⊢
  split
  · rename_i h1
    rw [if_pos h1] at h
    split
    · rename_i D j h2; rw [h2] at h; exact absurd rfl h
    · rfl
  · rfl
/-! ### parses as derivations -/
def hdOk (T : List Tk) (u : Bool) (i : Nat) : Prop := if u then (tkA T i).kind = 2 else nmT (tkA T i) = true
def hdE (T : List Tk) (u : Bool) (i : Nat) : Ex := if u then { ex0 with at_ := i, tag := (tkA T i).n } else { ex0 with at_ := i, label := (tkA T i).text }
/-- a type (none) or rows behind their bracket, of which k were ahead -/
inductive PX (T : List Tk) : Option (Bool × Nat) → Nat → Nat → Ex → List Ex → Nat → Nat → Prop
  | leaf {deep i : Nat} {x : Ex} {kn : Int × Int} (hb : bgnT (tkA T i) = true) (hd : deep ≤ 16) (hl : leafE (tkA T i).text = some kn) : PX T none deep i x [(atE i x).lf kn.1 kn.2] 0 (i + 1)
  | nm {deep i : Nat} {x : Ex} (hb : bgnT (tkA T i) = true) (hd : deep ≤ 16) (hl : leafE (tkA T i).text = none) (hv : ¬ ((tkA T i).text = [118, 101, 99, 116, 111, 114] ∨ (tkA T i).text = [108, 105, 115, 116])) (ho : ¬ (tkA T i).text = [111, 112, 116, 105, 111, 110]) (hu : ¬ (tkA T i).text = [117, 110, 105, 111, 110]) (hs : ¬ (tkA T i).text = [115, 116, 114, 117, 99, 116]) : PX T none deep i x [(atE i x).nm (tkA T i).text] 0 (i + 1)
  | vec {deep i : Nat} {x : Ex} {N : List Ex} {j : Nat} (hb : bgnT (tkA T i) = true) (hd : deep ≤ 16) (hl : leafE (tkA T i).text = none) (hv : (tkA T i).text = [118, 101, 99, 116, 111, 114] ∨ (tkA T i).text = [108, 105, 115, 116]) (h1 : isT (tkA T (i + 1)) 3 [60] = true) (hN : PX T none (deep + 1) (i + 2) exM N 0 j) (h2 : isT (tkA T j) 3 [44] = true) (h3 : (tkA T (j + 1)).kind = 2) (h4 : isT (tkA T (j + 2)) 3 [62] = true) : PX T none deep i x ((atE i x).vec (decide ((tkA T i).text = [108, 105, 115, 116])) (tkA T (j + 1)).n :: N) 0 (j + 3)
  | opt {deep i : Nat} {x : Ex} {N : List Ex} {j : Nat} (hb : bgnT (tkA T i) = true) (hd : deep ≤ 16) (hl : leafE (tkA T i).text = none) (ho : (tkA T i).text = [111, 112, 116, 105, 111, 110]) (h1 : isT (tkA T (i + 1)) 3 [60] = true) (hN : PX T none (deep + 1) (i + 2) exM N 0 j) (h2 : isT (tkA T j) 3 [62] = true) : PX T none deep i x ((atE i x).opt :: N) 0 (j + 1)
  | br {deep i : Nat} {x : Ex} (u : Bool) {M : List Ex} {n j : Nat} (hb : bgnT (tkA T i) = true) (hd : deep ≤ 16) (hl : leafE (tkA T i).text = none) (hw : (tkA T i).text = if u then [117, 110, 105, 111, 110] else [115, 116, 114, 117, 99, 116]) (h1 : isT (tkA T (i + 1)) 3 [123] = true) (hM : PX T (some (u, 0)) deep (i + 2) ex0 M n j) : PX T none deep i x ((atE i x).br u (n : Nat) :: M) 0 j
  | last {deep i : Nat} {u : Bool} {k : Nat} {N : List Ex} {j : Nat} (hk : k < 64) (hh : hdOk T u i) (hc : isT (tkA T (i + 1)) 3 [58] = true) (hN : PX T none (deep + 1) (i + 2) (hdE T u i) N 0 j) (hm : isT (tkA T j) 3 [44] = false) (hr : isT (tkA T j) 3 [125] = true) : PX T (some (u, k)) deep i ex0 N (k + 1) (j + 1)
  | more {deep i : Nat} {u : Bool} {k : Nat} {N M : List Ex} {j n e : Nat} (hk : k < 64) (hh : hdOk T u i) (hc : isT (tkA T (i + 1)) 3 [58] = true) (hN : PX T none (deep + 1) (i + 2) (hdE T u i) N 0 j) (hm : isT (tkA T j) 3 [44] = true) (hR : PX T (some (u, k + 1)) deep (j + 1) ex0 M n e) : PX T (some (u, k)) deep i ex0 (N ++ M) n e
theorem bind_ok {α β : Type} {r : Pr α} {f : α → Nat → Pr β} {b : β} {j : Nat} (h : r.bind f = .ok b j) : ∃ a i, r = .ok a i ∧ f a i = .ok b j := by
  cases r with
  | ok a i => exact ⟨a, i, rfl, h⟩
  | bad e i => cases h
theorem wantT_ok {T : List Tk} {i k j : Nat} {s : List UInt8} {a : Unit} (h : wantT T i k s = .ok a j) : isT (tkA T i) k s = true ∧ j = i + 1 := by
  unfold wantT at h
  split at h
  · rename_i h1; cases h; exact ⟨h1, rfl⟩
  · cases h
theorem numT_ok {T : List Tk} {i j n : Nat} (h : numT T i = .ok n j) : (tkA T i).kind = 2 ∧ n = (tkA T i).n ∧ j = i + 1 := by
  unfold numT at h
  split at h
  · rename_i h1; cases h; exact ⟨h1, rfl, rfl⟩
  · cases h
theorem nameT_ok {T : List Tk} {i j : Nat} {s : List UInt8} (h : nameT T i = .ok s j) : nmT (tkA T i) = true ∧ s = (tkA T i).text ∧ j = i + 1 := by
  unfold nameT at h
  split at h
  · rename_i h1; cases h; exact ⟨h1, rfl, rfl⟩
  · cases h
theorem headT_ok {T : List Tk} {u full : Bool} {i j : Nat} {y : Ex} (h : headT T u full i { ex0 with at_ := i } = .ok y j) : hdOk T u i ∧ y = hdE T u i ∧ j = i + 1 ∧ full = false := by
  cases u
  · rw [headT_s] at h
    split at h
    · cases h
    · rename_i hn
      obtain ⟨s, i2, h1, h2⟩ := bind_ok h
      obtain ⟨g1, rfl, rfl⟩ := nameT_ok h1
      cases h2
      refine ⟨g1, rfl, rfl, ?_⟩
      cases full
      · rfl
      · exact absurd ⟨rfl, g1⟩ hn
  · rw [headT_u] at h
    split at h
    · cases h
    · rename_i hn
      obtain ⟨s, i2, h1, h2⟩ := bind_ok h
      obtain ⟨g1, rfl, rfl⟩ := numT_ok h1
      cases h2
      refine ⟨g1, rfl, rfl, ?_⟩
      cases full
      · rfl
      · exact absurd ⟨rfl, g1⟩ hn
theorem rows_px {T : List Tk} {E : Nat → Ex → Pr (List Ex)} {u : Bool} {deep : Nat} (hE : ∀ i x N j, E i x = .ok N j → PX T none (deep + 1) i x N 0 j) : ∀ (g i k : Nat) (M : List Ex) (n e : Nat), k ≤ 64 → rowsT E T u g i k = .ok (M, n) e → PX T (some (u, k)) deep i ex0 M n e
  | 0, i, k, M, n, e, hk, h => by cases h
  | g + 1, i, k, M, n, e, hk, h => by
    rw [rowsT_s] at h
    obtain ⟨y, i1, h1, h⟩ := bind_ok h
    obtain ⟨hh, rfl, rfl, hf⟩ := headT_ok h1
    obtain ⟨_, i2, h2, h⟩ := bind_ok h
    obtain ⟨hc, rfl⟩ := wantT_ok h2
    obtain ⟨N, j, h3, h⟩ := bind_ok h
    have hk2 : k < 64 := by simp at hf; omega
    split at h
    · rename_i hm
      obtain ⟨⟨M', n'⟩, e', h4, h⟩ := bind_ok h
      cases h
      exact .more hk2 hh hc (hE _ _ _ _ h3) hm (rows_px hE g _ _ _ _ _ (by omega) h4)
    · rename_i hm
      obtain ⟨_, e', h4, h⟩ := bind_ok h
      obtain ⟨hr, rfl⟩ := wantT_ok h4
      cases h
      exact .last hk2 hh hc (hE _ _ _ _ h3) (by simpa using hm) hr
theorem expr_px {T : List Tk} : ∀ (f i : Nat) (x : Ex) (deep : Nat) (N : List Ex) (j : Nat), exprT T f i x deep = .ok N j → PX T none deep i x N 0 j
  | 0, i, x, deep, N, j, h => by cases h
  | f + 1, i, x, deep, N, j, h => by
    rw [exprT_s] at h
    split at h
    · cases h
    · rename_i hb
      have hb : bgnT (tkA T i) = true := by simpa using hb
      split at h
      · cases h
      · rename_i hd
        have hd : deep ≤ 16 := by omega
        split at h
        · rename_i kn hl
          cases h
          exact .leaf hb hd hl
        · rename_i hl
          split at h
          · rename_i hv
            obtain ⟨_, i1, h1, h⟩ := bind_ok h
            obtain ⟨g1, rfl⟩ := wantT_ok h1
            obtain ⟨M, j1, h2, h⟩ := bind_ok h
            obtain ⟨_, j2, h3, h⟩ := bind_ok h
            obtain ⟨g3, rfl⟩ := wantT_ok h3
            obtain ⟨n, j3, h4, h⟩ := bind_ok h
            obtain ⟨g4, rfl, rfl⟩ := numT_ok h4
            obtain ⟨_, j4, h5, h⟩ := bind_ok h
            obtain ⟨g5, rfl⟩ := wantT_ok h5
            cases h
            exact .vec hb hd hl hv g1 (expr_px f _ _ _ _ _ h2) g3 g4 g5
          · rename_i hv
            split at h
            · rename_i ho
              obtain ⟨_, i1, h1, h⟩ := bind_ok h
              obtain ⟨g1, rfl⟩ := wantT_ok h1
              obtain ⟨M, j1, h2, h⟩ := bind_ok h
              obtain ⟨_, j2, h3, h⟩ := bind_ok h
              obtain ⟨g3, rfl⟩ := wantT_ok h3
              cases h
              exact .opt hb hd hl ho g1 (expr_px f _ _ _ _ _ h2) g3
            · rename_i ho
              split at h
              · rename_i hu
                obtain ⟨⟨M, n⟩, j1, h2, h⟩ := bind_ok h
                obtain ⟨_, i1, h1, h2⟩ := bind_ok h2
                obtain ⟨g1, rfl⟩ := wantT_ok h1
                cases h
                exact .br true hb hd hl hu g1 (rows_px (fun i x N j hh => expr_px f i x _ N j hh) _ _ _ _ _ _ (by omega) h2)
              · rename_i hu
                split at h
                · rename_i hs
                  obtain ⟨⟨M, n⟩, j1, h2, h⟩ := bind_ok h
                  obtain ⟨_, i1, h1, h2⟩ := bind_ok h2
                  obtain ⟨g1, rfl⟩ := wantT_ok h1
                  cases h
                  exact .br false hb hd hl hs g1 (rows_px (fun i x N j hh => expr_px f i x _ N j hh) _ _ _ _ _ _ (by omega) h2)
                · rename_i hs
                  cases h
                  exact .nm hb hd hl hv ho hu hs

end Go.Proofs.Ytcljkkfpcomdcaa
