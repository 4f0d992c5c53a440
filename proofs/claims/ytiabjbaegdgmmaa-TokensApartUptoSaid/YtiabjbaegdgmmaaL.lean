/-
  Walks. Written by program out of specs of mine.
-/
import Derived.Test.YtiabjbaegdgmmaaK
set_option linter.unusedSimpArgs false
set_option linter.unusedVariables false
namespace Go.Proofs.Ytiabjbaegdgmmaa
open Go Go.Vc Go.RowKit Go.Proofs

theorem flat_len (ts : List Tk) : (flat ts).length = ts.length * 5 := by
  induction ts with
  | nil => rfl
  | cons t ts ih => simp only [flat, List.flatMap_cons, List.length_append, List.length_cons] at ih ⊢; rw [ih]; simp [tokV]; omega
theorem flat_at : ∀ (ts : List Tk) (k : Nat) (h : k < ts.length), ((flat ts).drop (k * 5)).take 5 = (tokV ts[k]).toList
  | t :: ts, 0, h => by simp [flat, tokV]
  | t :: ts, k + 1, h => by
    have ih := flat_at ts k (by simpa using h)
    have : flat (t :: ts) = (tokV t).toList ++ flat ts := by simp [flat]
    rw [this, List.drop_append]
    have h5 : (tokV t).toList.length = 5 := rfl
    rw [List.drop_eq_nil_of_le (by omega), h5, show (k + 1) * 5 - 5 = k * 5 by omega, List.nil_append, ih]
    rfl
theorem Sl.tok {w : World} {v : Value} {ts : List Tk} (h : Sl w 5 v ts.length (flat ts)) {k : Nat} (hk : k < ts.length) : ∃ b o c, v = .slice (some ⟨b, o, none⟩) ts.length c ∧ Cells w b (o + k * 5) (tokV ts[k]).toList := by
  rcases h.val with ⟨hz, h0⟩ | ⟨b, o, c, rfl, hnc, hc⟩
  · omega
  · exact ⟨b, o, c, rfl, by rw [← flat_at ts k hk]; exact hc.sub _ _⟩
theorem tk_of {a b : Tk} (h : (a.kind : Int) = b.kind ∧ a.text = b.text ∧ (a.n : Int) = b.n ∧ (a.at_ : Int) = b.at_ ∧ (a.fin : Int) = b.fin) : a = b := by
  obtain ⟨h1, h2, h3, h4, h5⟩ := h
  cases a; cases b
  simp only [Tk.mk.injEq] at h1 h2 h3 h4 h5 ⊢
  exact ⟨by omega, h2, by omega, by omega, by omega⟩
theorem take_more {α : Type} {xs ys : List α} {k : Nat} (hx : k < xs.length) (hy : k < ys.length) (h : xs.take k = ys.take k) (he : xs[k] = ys[k]) : xs.take (k + 1) = ys.take (k + 1) := by
  rw [List.take_succ_eq_append_getElem hx, List.take_succ_eq_append_getElem hy, h, he]

theorem same_spec (u v : Value) (ts us : List Tk) (w0 : World) (hu : Sl w0 5 u ts.length (flat ts)) (hv : Sl w0 5 v us.length (flat us)) (hlen : ts.length ≤ 9223372036854775807) : Ca Try.prog 19 #[u, v] w0 (fun r w' => r = .bool (decide (ts = us)) ∧ ∃ m, w' = w0.drewN m) := by
  refine Ca.of Try.func19 Try.ntmps19 rfl rfl ?_
  refine W.seq ?_
  refine W.region ?_
  refine WL.c rfl (o_as ?_)
  refine WL.nil ?_
  refine W.seq ?_
  refine W.seq ?_
  refine W.region ?_
  refine WL.c rfl (o_mv ?_)
  refine WL.c rfl (o_lenR TI26 rfl hu ?_)
  refine WL.c rfl (o_mv ?_)
  refine WL.c rfl (o_lenR TI26 rfl hv ?_)
  refine WL.c rfl (o_ne rfl rfl ?_)
  refine WL.nil ?_
  refine W.cond rfl (fun c10 => ?_) (fun c10 => ?_)
  · try simp only [decide_eq_true_eq, decide_eq_false_iff_not, Bool.not_eq_true', Bool.not_eq_false', Bool.and_eq_true, Bool.or_eq_true, Bool.and_eq_false_iff, Bool.or_eq_false_iff] at c10
    refine W.seq ?_
    refine W.region ?_
    refine WL.c rfl (o_as ?_)
    refine WL.nil ?_
    refine W.ret ?_
    refine ret1v rfl (show _ = Value.bool _ from rfl) ?_
    exact ⟨congrArg Value.bool (by symm; apply decide_eq_false; intro h; subst h; omega), 0, rfl⟩
  · try simp only [decide_eq_true_eq, decide_eq_false_iff_not, Bool.not_eq_true', Bool.not_eq_false', Bool.and_eq_true, Bool.or_eq_true, Bool.and_eq_false_iff, Bool.or_eq_false_iff] at c10
    refine W.skip ?_
    refine W.seq ?_
    refine W.seq ?_
    refine W.region ?_
    refine WL.c rfl (o_as ?_)
    refine WL.nil ?_
    refine W.block ?_
    refine W.loop (fun e w => ∃ (k m : Nat), k ≤ ts.length ∧ ts.length = us.length ∧ e 0 = u ∧ e 1 = v ∧ e 5 = .int .i64 (k : Int) ∧ ts.take k = us.take k ∧ w = w0.drewN m) (fun e w => ts.length - (intOf (e 5)).toNat) ?_ ?_
    · exact ⟨0, 0, Nat.zero_le _, by omega, rfl, rfl, rfl, rfl, rfl⟩
    rintro e w ⟨k, m, hk, hl, h0, h1, h5, htk, rfl⟩
    have h0u := h0
    have h1v := h1
    refine W.seq ?_
    refine W.seq ?_
    refine W.region ?_
    refine WL.c rfl (o_mvh h5 ?_)
    refine WL.c rfl (o_mvh h0 ?_)
    refine WL.c rfl (o_lenR TI26 rfl (hu.ext (Only.drewN _ _)) ?_)
    refine WL.c rfl (o_lt rfl rfl ?_)
    refine WL.nil ?_
    refine W.cond rfl (fun c14 => ?_) (fun c14 => ?_)
    · try simp only [decide_eq_true_eq, decide_eq_false_iff_not, Bool.not_eq_true', Bool.not_eq_false', Bool.and_eq_true, Bool.or_eq_true, Bool.and_eq_false_iff, Bool.or_eq_false_iff] at c14
      refine W.skip ?_
      refine W.seq ?_
      refine W.block ?_
      refine W.seq ?_
      have hk1 : k < ts.length := by omega
      have hk2 : k < us.length := by omega
      obtain ⟨b1, o1, c1, hu1, hc1⟩ := Sl.tok hu hk1
      obtain ⟨b2, o2, c2, hv1, hc2⟩ := Sl.tok hv hk2
      rw [hu1] at h0
      rw [hv1] at h1
      refine W.quiet rfl (by kernel_rfl) ?_
      refine WQ.c rfl ((QO.o rfl fun _ => o_mvh h0 ⟨rfl, rfl⟩)) ?_
      refine WQ.c rfl ((QO.o rfl fun _ => o_mvh h5 ⟨rfl, rfl⟩)) ?_
      refine WQ.c rfl ((QO.o rfl fun _ => o_ixB TI26 TI33 rfl rfl (by omega) ⟨rfl, rfl⟩)) ?_
      refine WQ.c rfl ((QO.o rfl fun _ => o_ldA TI33 rfl rfl hc1 rfl ⟨rfl, rfl⟩)) ?_
      refine WQ.c rfl ((QO.o rfl fun _ => o_mvh h1 ⟨rfl, rfl⟩)) ?_
      refine WQ.c rfl ((QO.o rfl fun _ => o_mvh h5 ⟨rfl, rfl⟩)) ?_
      refine WQ.c rfl ((QO.o rfl fun _ => o_ixB TI26 TI33 rfl rfl (by omega) ⟨rfl, rfl⟩)) ?_
      refine WQ.c rfl ((QO.o rfl fun _ => o_ldA TI33 rfl rfl hc2 rfl ⟨rfl, rfl⟩)) ?_
      refine WQ.c rfl ((QO.o rfl fun _ => o_neR TI33 (by kernel_rfl) (by kernel_rfl) rfl rfl (.int TI3 (by decide) rfl rfl (.str TI9 (by decide) rfl rfl (.int TI3 (by decide) rfl rfl (.int TI3 (by decide) rfl rfl (.int TI3 (by decide) rfl rfl .nil))))) ⟨rfl, rfl⟩)) ?_
      refine WQ.nil ?_
      intro nq
      refine W.cond rfl (fun c25 => ?_) (fun c25 => ?_)
      · try simp only [decide_eq_true_eq, decide_eq_false_iff_not, Bool.not_eq_true', Bool.not_eq_false', Bool.and_eq_true, Bool.or_eq_true, Bool.and_eq_false_iff, Bool.or_eq_false_iff] at c25
        refine W.seq ?_
        refine W.region ?_
        refine WL.c rfl (o_as ?_)
        refine WL.nil ?_
        refine W.ret ?_
        refine ret1v rfl (show _ = Value.bool _ from rfl) ?_
        exact ⟨congrArg Value.bool (by symm; apply decide_eq_false; intro h; subst h; simp at c25), m + nq, by rw [World.drewN_drewN]⟩
      · try simp only [decide_eq_true_eq, decide_eq_false_iff_not, Bool.not_eq_true', Bool.not_eq_false', Bool.and_eq_true, Bool.or_eq_true, Bool.and_eq_false_iff, Bool.or_eq_false_iff] at c25
        have heq : ts[k] = us[k] := tk_of (by simpa using c25)
        refine W.skip ?_
        refine W.region ?_
        refine WL.c rfl (o_mvh h5 ?_)
        refine WL.c rfl (o_addi rfl rfl (by omega) ?_)
        refine WL.c rfl (o_as ?_)
        refine WL.nil ?_
        refine ⟨⟨k + 1, m + nq, by omega, hl, h0u, h1v, rfl, take_more hk1 hk2 htk heq, by rw [World.drewN_drewN]⟩, ?_⟩
        show ts.length - ((k : Int) + 1).toNat < _
        rw [h5]; simp [intOf]; omega
    · try simp only [decide_eq_true_eq, decide_eq_false_iff_not, Bool.not_eq_true', Bool.not_eq_false', Bool.and_eq_true, Bool.or_eq_true, Bool.and_eq_false_iff, Bool.or_eq_false_iff] at c14
      refine W.exit ?_
      refine W.seq ?_
      refine W.region ?_
      refine WL.c rfl (o_as ?_)
      refine WL.nil ?_
      refine W.ret ?_
      refine ret1v rfl (show _ = Value.bool _ from rfl) ?_
      have h1 : ts.take k = ts := List.take_of_length_le (by omega)
      have h2 : us.take k = us := List.take_of_length_le (by omega)
      exact ⟨congrArg Value.bool (by rw [h1, h2] at htk; simp [htk]), m, rfl⟩

theorem cutL_count (xs : List UInt8) (k : Nat) (hk : k ≤ xs.length) : (cutL xs k).1.length ≤ xs.length - k := by
  rw [cutL_eq]
  split
  · rename_i h
    split
    · have := runL_le (p := nnlB) (k := k + 1) (xs := xs) (by omega)
      have ih := cutL_count xs (runL nnlB xs (k + 1)) (by omega)
      omega
    · split
      · have ih := cutL_count xs (k + 1) (by omega)
        omega
      · split
        · rename_i he
          have := oneL_fin xs k h he
          have ih := cutL_count xs (oneL xs k h).2.fin (by omega)
          simp only [List.length_cons]
          omega
        · simp
  · simp
termination_by xs.length - k
theorem cutA_len (xs : List UInt8) (hlen : xs.length ≤ 9223372036854775807) : (cutA xs).1.length ≤ 9223372036854775807 := by
  have := cutL_count xs 0 (Nat.zero_le _)
  unfold cutA
  split
  · simp
  · split
    · omega
    · simp

theorem cuts_spec (xs : List UInt8) (w0 : World) (hlen : xs.length ≤ 9223372036854775807) : Ca Try.prog 10 #[st xs] w0 (fun v w' => v = .bool true ∧ Ext w0 w') := by
  refine Ca.of Try.func10 Try.ntmps10 rfl rfl ?_
  refine W.seq ?_
  refine W.region ?_
  refine WL.c rfl (o_as ?_)
  refine WL.nil ?_
  refine W.seq ?_
  refine W.region ?_
  refine WL.c rfl (o_mv ?_)
  refine WL.c rfl (o_call Try.call15 (lc rfl ln) ((cut_spec xs _ hlen).mono ?_))
  rintro v10 w10 ⟨v1, rfl, hown1, hx10⟩
  have hz10 := hx10.size
  have hl1 := hown1.lt
  refine WL.c rfl (o_mv ?_)
  refine WL.c rfl (o_ext rfl rfl ?_)
  refine WL.c rfl (o_ext rfl rfl ?_)
  refine WL.c rfl (o_alB TI29 ?_)
  intro wa hB4 hx4 hs4
  replace hown1 := own_ext hown1 hx4
  replace hx10 := hx10.tr hx4
  refine WL.c rfl (o_as ?_)
  refine WL.u (o_stA TI29 rfl rfl rfl rfl hB4 rfl ?_)
  intro wb hB4 ho4 hsb
  replace hown1 := own_only hown1 ho4 (fun j hj he => by have := (hl1 j hj).2; omega)
  replace hx10 := Ext.own hx10 hz10 ho4
  refine WL.nil ?_
  refine W.seq ?_
  refine W.region ?_
  refine WL.c rfl (o_mv ?_)
  refine WL.c rfl (o_call Try.call20 (lc rfl ln) ((rcut_spec xs _ hlen).mono ?_))
  rintro v15 w15 ⟨v2, rfl, hown2, hx15⟩
  replace hB4 := hx15.blk hB4 (fun h => h)
  replace hown1 := own_ext hown1 hx15
  replace hx10 := hx10.tr hx15
  refine WL.c rfl (o_mv ?_)
  refine WL.c rfl (o_ext rfl rfl ?_)
  refine WL.c rfl (o_ext rfl rfl ?_)
  refine WL.c rfl (o_ext rfl rfl ?_)
  refine WL.c rfl (o_as ?_)
  refine WL.c rfl (o_as ?_)
  refine WL.c rfl (o_as ?_)
  refine WL.nil ?_
  refine W.seq ?_
  refine W.region ?_
  refine WL.c rfl (o_fa 0 TI29 rfl TI27 rfl rfl ?_)
  refine WL.c rfl (o_ld TI27 rfl rfl (cell_of hB4 rfl) ?_)
  refine WL.c rfl (o_mv ?_)
  refine WL.c rfl (o_eq rfl rfl ?_)
  refine WL.c rfl (o_mv ?_)
  refine WL.g rfl (by simp) rfl (o_fa 1 TI29 rfl TI3 rfl rfl ?_)
  refine WL.g rfl (by simp) rfl (o_ld TI3 rfl rfl (cell_of hB4 rfl) ?_)
  refine WL.g rfl (by simp) rfl (o_mv ?_)
  refine WL.g rfl (by simp) rfl (o_eq rfl rfl ?_)
  refine WL.c rfl (o_pickA rfl rfl ?_)
  refine WL.c rfl (o_mv ?_)
  refine WL.g rfl (by simp) rfl (o_mv ?_)
  refine WL.g rfl (by simp) rfl (o_mv ?_)
  refine WL.g rfl (by simp) rfl (o_call Try.call19 (lc rfl (lc rfl ln)) ((same_spec v1 v2 _ _ _ (Sl.own hown1) (Sl.own hown2) (cutA_len xs hlen)).mono ?_))
  rintro v32 w32 ⟨rfl, m32, rfl⟩
  refine WL.c rfl (o_pickA rfl rfl ?_)
  refine WL.c rfl (o_as ?_)
  refine WL.nil ?_
  refine W.ret ?_
  refine ret1v rfl (show _ = Value.bool _ from rfl) ?_
  exact ⟨congrArg Value.bool (by simp), hx10.tr (Only.drewN _ _)⟩
end Go.Proofs.Ytiabjbaegdgmmaa
