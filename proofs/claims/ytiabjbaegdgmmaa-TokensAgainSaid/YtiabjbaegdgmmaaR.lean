/-
  Walks. Written by program out of specs of mine.
-/
import Derived.Test.YtiabjbaegdgmmaaO
import Derived.Test.YtiabjbaegdgmmaaApp
set_option linter.unusedSimpArgs false
set_option linter.unusedVariables false
namespace Go.Proofs.Ytiabjbaegdgmmaa
open Go Go.Vc Go.RowKit Go.Proofs

def fills : List (List UInt8) := [[9], [10, 10], [35, 32, 116, 121, 112, 101, 32, 61, 32, 0, 255, 32, 48, 48, 55, 10], [35, 10], [32, 32, 35, 32, 97, 32, 35, 32, 98, 10, 9, 32], [32]]
theorem fills_gap : ∀ g ∈ fills, gapS false g = some false := by decide +kernel
theorem fills_head : ∀ g ∈ fills, ∃ c cs, g = c :: cs ∧ goeB c = false := by
  intro g hg
  simp only [fills, List.mem_cons, List.not_mem_nil, or_false] at hg
  rcases hg with rfl | rfl | rfl | rfl | rfl | rfl <;> exact ⟨_, _, rfl, by decide +kernel⟩
theorem fills_len : ∀ g ∈ fills, g.length ≤ 16 := by decide +kernel
theorem gap_skip (xs : List UInt8) (m : Nat) (hm : m ≤ xs.length) (j : Nat) (hj : j ≤ m) (rm : Bool) (h : gapS rm ((xs.take m).drop j) = some false) : cutL xs (if rm then runL nnlB xs j else j) = cutL xs m := by
  by_cases hl : j < m
  · have h3 : j < (xs.take m).length := by simp; omega
    have hx : j < xs.length := by omega
    have hd : (xs.take m).drop j = xs[j] :: (xs.take m).drop (j + 1) := by
      rw [← List.getElem_cons_drop h3]; simp
    have hc := cutL_eq xs j
    rw [dif_pos hx] at hc
    rw [hd] at h
    cases rm with
    | true =>
      rw [gapS] at h
      by_cases h10 : (xs[j]).toNat = 10
      · simp [h10] at h
        have ih := gap_skip xs m hm (j + 1) (by omega) false h
        rw [if_pos rfl, runL_stop hx (by simp [nnlB, h10]), hc, if_neg (by omega), if_pos (by simp [blankB, h10])]
        exact ih
      · simp [h10] at h
        have ih := gap_skip xs m hm (j + 1) (by omega) true h
        rw [if_pos rfl, runL_go hx (by simp [nnlB, h10])]
        exact ih
    | false =>
      rw [gapS] at h
      rw [if_neg (by decide), hc]
      by_cases h35 : (xs[j]).toNat = 35
      · rw [if_pos h35] at h ⊢
        exact gap_skip xs m hm (j + 1) (by omega) true h
      · rw [if_neg h35] at h ⊢
        by_cases hb : blankB xs[j] = true
        · rw [if_pos hb] at h ⊢
          exact gap_skip xs m hm (j + 1) (by omega) false h
        · rw [if_neg hb] at h; cases h
  · have : j = m := by omega
    subst this
    rw [List.drop_eq_nil_of_le (by simp; omega)] at h
    cases rm with
    | true => cases h
    | false => rfl
termination_by m - j
/-- blanks, a token's bytes, blanks: cut as the token -/
theorem again_step (B F1 T F2 Z : List UInt8) (t' : Tk) (hT : 0 < T.length) (h1 : gapS false F1 = some false) (h2 : gapS false F2 = some false) (hg : ∃ c cs, F2 = c :: cs ∧ goeB c = false) (ho : oneL T 0 hT = (0, t')) (hf : t'.fin = T.length) (hb : blankB T[0] = false) (h35 : ¬ T[0].toNat = 35) :
    cutL (B ++ F1 ++ T ++ F2 ++ Z) B.length = (⟨t'.kind, t'.text, t'.n, B.length + F1.length + t'.at_, B.length + F1.length + T.length⟩ :: (cutL (B ++ F1 ++ T ++ F2 ++ Z) (B ++ F1 ++ T ++ F2).length).1, (cutL (B ++ F1 ++ T ++ F2 ++ Z) (B ++ F1 ++ T ++ F2).length).2) := by
  generalize hX : B ++ F1 ++ T ++ F2 ++ Z = X
  have hXl : X.length = B.length + F1.length + T.length + F2.length + Z.length := by subst hX; simp; omega
  have e1 : (X.take (B.length + F1.length)).drop B.length = F1 := by
    subst hX
    rw [show B ++ F1 ++ T ++ F2 ++ Z = (B ++ F1) ++ (T ++ F2 ++ Z) by simp, ← List.length_append, List.take_left, List.drop_left]
  have s1 := gap_skip X (B.length + F1.length) (by omega) B.length (by omega) false (by rw [e1]; exact h1)
  rw [if_neg (by decide)] at s1
  have hdr : X.drop (B.length + F1.length) = T ++ F2 ++ Z := by
    subst hX
    rw [show B ++ F1 ++ T ++ F2 ++ Z = (B ++ F1) ++ (T ++ F2 ++ Z) by simp, ← List.length_append, List.drop_left]
  have hp : B.length + F1.length + 0 < X.length := by omega
  have hq : 0 < (X.drop (B.length + F1.length)).length := by simp; omega
  have hz0 : 0 < (T ++ F2 ++ Z).length := by simp; omega
  have hfr : oneL (T ++ F2 ++ Z) 0 hz0 = oneL T 0 hT := by
    obtain ⟨c, cs, rfl, hgc⟩ := hg
    refine oneL_front (xs := T) (zs := T ++ (c :: cs) ++ Z) (a := T.length) (by rw [List.append_assoc, List.take_left, List.take_length]) (Nat.le_refl _) (by simp) (.inr ⟨by simp, ?_⟩) 0 hT hT hz0 (by rw [ho]) (by rw [ho]; exact Nat.le_of_eq hf)
    have : (T ++ c :: cs ++ Z)[T.length]? = some c := by
      rw [List.append_assoc, List.getElem?_append_right (Nat.le_refl _)]; simp
    have := (List.getElem?_eq_some_iff.1 this).2
    rw [this]; exact hgc
  have hsh := oneL_shift X (B.length + F1.length) 0 hp hq
  have hq2 : oneL (X.drop (B.length + F1.length)) 0 hq = (0, t') := by
    have : ∀ (Y : List UInt8) (h : 0 < Y.length), Y = T ++ F2 ++ Z → oneL Y 0 h = (0, t') := by rintro Y h rfl; rw [hfr]; exact ho
    exact this _ _ hdr
  rw [hq2] at hsh
  have hs2 := hsh.2 rfl
  have hg0 : X[B.length + F1.length] = T[0] := by
    have : X[B.length + F1.length]? = some T[0] := by
      have h := congrArg (fun l : List UInt8 => l[0]?) hdr
      simp only [List.getElem?_drop, Nat.add_zero] at h
      rw [h, List.append_assoc, List.getElem?_append_left hT, List.getElem?_eq_getElem hT]
    exact (List.getElem?_eq_some_iff.1 this).2
  have hc := cutL_eq X (B.length + F1.length)
  have hone : oneL X (B.length + F1.length) (by omega) = (0, shiftT (B.length + F1.length) t') := Prod.ext hsh.1 hs2
  rw [dif_pos (by omega), if_neg (by rw [hg0]; exact h35), if_neg (by rw [hg0]; simp [hb]), dif_pos (by rw [hone]), hone] at hc
  have e2 : (X.take (B ++ F1 ++ T ++ F2).length).drop (B.length + F1.length + T.length) = F2 := by
    subst hX
    rw [show B ++ F1 ++ T ++ F2 ++ Z = (B ++ F1 ++ T ++ F2) ++ Z by simp, List.take_left]
    rw [show B.length + F1.length + T.length = (B ++ F1 ++ T).length by simp; omega, List.drop_left]
  have hl2 : (B ++ F1 ++ T ++ F2).length = B.length + F1.length + T.length + F2.length := by simp; omega
  have s2 := gap_skip X (B ++ F1 ++ T ++ F2).length (by omega) (B.length + F1.length + T.length) (by omega) false (by rw [e2]; exact h2)
  rw [if_neg (by decide)] at s2
  have hfin : (shiftT (B.length + F1.length) t').fin = B.length + F1.length + T.length := by show B.length + F1.length + t'.fin = _; rw [hf]
  simp only [hfin] at hc
  rw [s1, hc, s2]
  congr 1
  · show Tk.mk _ _ _ _ _ :: _ = _
    congr 2


theorem again_inv {xs : List UInt8} {t : Tk} {bs g1 g2 : List UInt8} {us : List Tk} (hinv : ∀ Z, cutL (bs ++ Z) 0 = (us ++ (cutL (bs ++ Z) bs.length).1, (cutL (bs ++ Z) bs.length).2)) (hg1 : g1 ∈ fills) (hg2 : g2 ∈ fills)
    (h : t.at_ < xs.length) (ho : oneL xs t.at_ h = (0, t)) (h1 : t.at_ < t.fin) (h2 : t.fin ≤ xs.length) (hb : blankB xs[t.at_] = false) (h35 : ¬ xs[t.at_].toNat = 35) (Z : List UInt8) :
    cutL (bs ++ g1 ++ sub xs t.at_ t.fin ++ g2 ++ Z) 0 = (us ++ [⟨t.kind, t.text, t.n, (bs ++ g1).length, (bs ++ g1 ++ sub xs t.at_ t.fin).length⟩] ++ (cutL (bs ++ g1 ++ sub xs t.at_ t.fin ++ g2 ++ Z) (bs ++ g1 ++ sub xs t.at_ t.fin ++ g2).length).1, (cutL (bs ++ g1 ++ sub xs t.at_ t.fin ++ g2 ++ Z) (bs ++ g1 ++ sub xs t.at_ t.fin ++ g2).length).2) := by
  have hlen : (sub xs t.at_ t.fin).length = t.fin - t.at_ := by unfold sub; simp; omega
  have h0 : 0 < (sub xs t.at_ t.fin).length := by omega
  have ho' := own_one h ho h1 h2 h0
  have hg : (sub xs t.at_ t.fin)[0] = xs[t.at_] := by
    have : (sub xs t.at_ t.fin)[0]? = some xs[t.at_] := by unfold sub; rw [List.getElem?_drop, List.getElem?_take]; simp [h, h1]
    exact (List.getElem?_eq_some_iff.1 this).2
  have hst := again_step bs g1 (sub xs t.at_ t.fin) g2 Z _ h0 (fills_gap g1 hg1) (fills_gap g2 hg2) (fills_head g2 hg2) ho' hlen.symm (by rw [hg]; exact hb) (by rw [hg]; exact h35)
  have hi := hinv (g1 ++ sub xs t.at_ t.fin ++ g2 ++ Z)
  rw [show bs ++ (g1 ++ sub xs t.at_ t.fin ++ g2 ++ Z) = bs ++ g1 ++ sub xs t.at_ t.fin ++ g2 ++ Z by simp, hst] at hi
  rw [hi]
  simp only [List.append_assoc, List.cons_append, List.nil_append, List.length_append, Nat.add_zero, Nat.add_assoc]

theorem fill_spec (z : Int) (w0 : World) : Ca Try.prog 18 #[.int .i64 z] w0 (fun v w' => ∃ g, v = st g ∧ g ∈ fills ∧ w' = w0) := by
  refine Ca.of Try.func18 Try.ntmps18 rfl rfl ?_
  refine W.seq ?_
  refine W.region ?_
  refine WL.c rfl (o_as ?_)
  refine WL.nil ?_
  refine W.seq ?_
  refine W.seq ?_
  refine W.region ?_
  refine WL.c rfl (o_mv ?_)
  refine WL.c rfl (o_and rfl rfl ?_)
  refine WL.nil ?_
  refine W.block ?_
  refine W.seq ?_
  refine W.region ?_
  refine WL.c rfl (o_eq rfl rfl ?_)
  refine WL.c rfl (o_as ?_)
  refine WL.nil ?_
  refine W.cond rfl (fun c5 => ?_) (fun c5 => ?_)
  · try simp only [decide_eq_true_eq, decide_eq_false_iff_not, Bool.not_eq_true', Bool.not_eq_false', Bool.and_eq_true, Bool.or_eq_true, Bool.and_eq_false_iff, Bool.or_eq_false_iff] at c5
    refine W.seq ?_
    refine W.region ?_
    refine WL.c rfl (o_as ?_)
    refine WL.nil ?_
    refine W.ret ?_
    refine ret1v rfl (show _ = Value.string _ from rfl) ?_
    exact ⟨_, rfl, by decide, rfl⟩
  · try simp only [decide_eq_true_eq, decide_eq_false_iff_not, Bool.not_eq_true', Bool.not_eq_false', Bool.and_eq_true, Bool.or_eq_true, Bool.and_eq_false_iff, Bool.or_eq_false_iff] at c5
    refine W.seq ?_
    refine W.region ?_
    refine WL.c rfl (o_eq rfl rfl ?_)
    refine WL.c rfl (o_as ?_)
    refine WL.nil ?_
    refine W.cond rfl (fun c7 => ?_) (fun c7 => ?_)
    · try simp only [decide_eq_true_eq, decide_eq_false_iff_not, Bool.not_eq_true', Bool.not_eq_false', Bool.and_eq_true, Bool.or_eq_true, Bool.and_eq_false_iff, Bool.or_eq_false_iff] at c7
      refine W.seq ?_
      refine W.region ?_
      refine WL.c rfl (o_as ?_)
      refine WL.nil ?_
      refine W.ret ?_
      refine ret1v rfl (show _ = Value.string _ from rfl) ?_
      exact ⟨_, rfl, by decide, rfl⟩
    · try simp only [decide_eq_true_eq, decide_eq_false_iff_not, Bool.not_eq_true', Bool.not_eq_false', Bool.and_eq_true, Bool.or_eq_true, Bool.and_eq_false_iff, Bool.or_eq_false_iff] at c7
      refine W.seq ?_
      refine W.region ?_
      refine WL.c rfl (o_eq rfl rfl ?_)
      refine WL.c rfl (o_as ?_)
      refine WL.nil ?_
      refine W.cond rfl (fun c9 => ?_) (fun c9 => ?_)
      · try simp only [decide_eq_true_eq, decide_eq_false_iff_not, Bool.not_eq_true', Bool.not_eq_false', Bool.and_eq_true, Bool.or_eq_true, Bool.and_eq_false_iff, Bool.or_eq_false_iff] at c9
        refine W.seq ?_
        refine W.region ?_
        refine WL.c rfl (o_as ?_)
        refine WL.nil ?_
        refine W.ret ?_
        refine ret1v rfl (show _ = Value.string _ from rfl) ?_
        exact ⟨_, rfl, by decide, rfl⟩
      · try simp only [decide_eq_true_eq, decide_eq_false_iff_not, Bool.not_eq_true', Bool.not_eq_false', Bool.and_eq_true, Bool.or_eq_true, Bool.and_eq_false_iff, Bool.or_eq_false_iff] at c9
        refine W.seq ?_
        refine W.region ?_
        refine WL.c rfl (o_eq rfl rfl ?_)
        refine WL.c rfl (o_as ?_)
        refine WL.nil ?_
        refine W.cond rfl (fun c11 => ?_) (fun c11 => ?_)
        · try simp only [decide_eq_true_eq, decide_eq_false_iff_not, Bool.not_eq_true', Bool.not_eq_false', Bool.and_eq_true, Bool.or_eq_true, Bool.and_eq_false_iff, Bool.or_eq_false_iff] at c11
          refine W.seq ?_
          refine W.region ?_
          refine WL.c rfl (o_as ?_)
          refine WL.nil ?_
          refine W.ret ?_
          refine ret1v rfl (show _ = Value.string _ from rfl) ?_
          exact ⟨_, rfl, by decide, rfl⟩
        · try simp only [decide_eq_true_eq, decide_eq_false_iff_not, Bool.not_eq_true', Bool.not_eq_false', Bool.and_eq_true, Bool.or_eq_true, Bool.and_eq_false_iff, Bool.or_eq_false_iff] at c11
          refine W.seq ?_
          refine W.region ?_
          refine WL.c rfl (o_eq rfl rfl ?_)
          refine WL.c rfl (o_as ?_)
          refine WL.nil ?_
          refine W.cond rfl (fun c13 => ?_) (fun c13 => ?_)
          · try simp only [decide_eq_true_eq, decide_eq_false_iff_not, Bool.not_eq_true', Bool.not_eq_false', Bool.and_eq_true, Bool.or_eq_true, Bool.and_eq_false_iff, Bool.or_eq_false_iff] at c13
            refine W.seq ?_
            refine W.region ?_
            refine WL.c rfl (o_as ?_)
            refine WL.nil ?_
            refine W.ret ?_
            refine ret1v rfl (show _ = Value.string _ from rfl) ?_
            exact ⟨_, rfl, by decide, rfl⟩
          · try simp only [decide_eq_true_eq, decide_eq_false_iff_not, Bool.not_eq_true', Bool.not_eq_false', Bool.and_eq_true, Bool.or_eq_true, Bool.and_eq_false_iff, Bool.or_eq_false_iff] at c13
            refine W.skip ?_
            refine W.seq ?_
            refine W.region ?_
            refine WL.c rfl (o_as ?_)
            refine WL.nil ?_
            refine W.ret ?_
            refine ret1v rfl (show _ = Value.string _ from rfl) ?_
            exact ⟨_, rfl, by decide, rfl⟩
set_option maxHeartbeats 1000000 in
theorem again_walk0 (w0 : World) (xs : List UInt8) (hlen : xs.length ≤ 9223372036854775807) (v : Value) (zs : List Int) (hzl : zs.length ≤ 9223372036854775807) (hS : Sl w0 1 v zs.length (zs.map (Value.int .i64))) : Ca Try.prog 6 #[st xs, v] w0 (fun v w' => v = .bool true ∧ Ext w0 w') := by
  refine Ca.of Try.func6 Try.ntmps6 rfl rfl ?_
  refine W.seq ?_
  refine W.region ?_
  refine WL.c rfl (o_as ?_)
  refine WL.nil ?_
  refine W.seq ?_
  refine W.seq ?_
  refine W.region ?_
  refine WL.c rfl (o_call Try.call9 ln ((first_spec _).mono ?_))
  rintro v14 w14 ⟨rfl, hx⟩
  refine WL.c rfl (o_not' rfl ?_)
  refine WL.nil ?_
  refine W.condF' rfl (rfl) ?_
  refine W.skip ?_
  refine W.seq ?_
  refine W.region ?_
  refine WL.c rfl (o_mv ?_)
  refine WL.c rfl (o_call Try.call15 (lc rfl ln) ((cut_spec (xs) _ (by omega)).mono ?_))
  rintro v18 w18 ⟨vA, rfl, ownA, hx18⟩
  replace hx := hx.tr hx18
  have hzA := hx.size
  have ownA_lt := ownA.lt
  refine WL.c rfl (o_mv ?_)
  refine WL.c rfl (o_ext rfl rfl ?_)
  refine WL.c rfl (o_ext rfl rfl ?_)
  refine WL.c rfl (o_alB TI29 ?_)
  intro wa6 hFA hxa hsa
  replace ownA := own_ext ownA hxa
  replace hx := hx.tr hxa
  refine WL.c rfl (o_as ?_)
  refine WL.u (o_stA TI29 rfl rfl rfl rfl hFA rfl ?_)
  intro wb6 hFA hob hsb
  replace ownA := own_only ownA hob (fun j hj he => by have := (ownA_lt j hj).2; omega)
  replace hx := Ext.own hx hzA hob
  clear hob hsb hxa hsa
  refine WL.nil ?_
  refine W.seq ?_
  refine W.seq ?_
  rcases cutA_cases xs with ⟨hA, hl⟩ | ⟨hl, h0, hA⟩ | ⟨hl, h50, hA⟩
  · skip
    rw [hA] at hFA ownA
    refine W.region ?_
    refine WL.c rfl (o_fa 0 TI29 rfl TI27 rfl rfl ?_)
    refine WL.c rfl (o_ld TI27 rfl rfl (cell_of hFA rfl) ?_)
    refine WL.c rfl (o_ne rfl rfl ?_)
    refine WL.nil ?_
    refine W.condT' rfl (by simp) ?_
    refine W.seq ?_
    refine W.region ?_
    refine WL.c rfl (o_as ?_)
    refine WL.nil ?_
    refine W.ret ?_
    refine ret1v rfl (show _ = Value.bool _ from rfl) ?_
    exact ⟨rfl, hx⟩
  · skip
    rw [hA, show cutL xs 0 = ((cutL xs 0).1, 0, 0) from by rw [← h0]] at hFA ownA
    have hcu : cutL xs 0 = ((cutL xs 0).1, 0, 0) := by rw [← h0]
    generalize (cutL xs 0).1 = ts at hFA ownA hcu
    have hcnt := cutL_count xs 0 (Nat.zero_le _)
    rw [hcu] at hcnt
    replace hcnt : ts.length ≤ xs.length := hcnt
    have hz0 := hx.size
    have hA0 : ∀ j, vA.ownBlock = some j → j < wb6.heap.size := fun j hj => by have := (ownA_lt j hj).2; have := (Array.getElem?_eq_some_iff.1 hFA).1; omega
    refine W.region ?_
    refine WL.c rfl (o_fa 0 TI29 rfl TI27 rfl rfl ?_)
    refine WL.c rfl (o_ld TI27 rfl rfl (cell_of hFA rfl) ?_)
    refine WL.c rfl (o_ne rfl rfl ?_)
    refine WL.nil ?_
    refine W.condF' rfl (by simp) ?_
    refine W.skip ?_
    refine W.seq ?_
    refine W.region ?_
    refine WL.c rfl (o_as ?_)
    refine WL.nil ?_
    refine W.seq ?_
    refine W.region ?_
    refine WL.c rfl (o_as ?_)
    refine WL.nil ?_
    refine W.seq ?_
    refine W.seq ?_
    refine W.region ?_
    refine WL.c rfl (o_as ?_)
    refine WL.nil ?_
    refine W.block ?_
    refine W.loop (fun e w => ∃ (i fr : Nat) (pr rs us : List Tk) (bs : List UInt8) (vb vw : Value), ts = pr ++ rs ∧ pr.length = i ∧ us.length = i ∧ fr ≤ xs.length ∧ cutL xs fr = (rs, 0, 0) ∧ bs.length ≤ i * 65568 ∧ (∀ Z, cutL (bs ++ Z) 0 = (us ++ (cutL (bs ++ Z) bs.length).1, (cutL (bs ++ Z) bs.length).2)) ∧ e 0 = st xs ∧ e 1 = v ∧ e 5 = vA ∧ e 7 = vb ∧ e 8 = vw ∧ e 9 = .int .i64 (i : Int) ∧ w.ownsRow w14.heap.size 33 5 vA ts.length (flat ts) ∧ w.ownsRow wb6.heap.size 5 1 vb bs.length (bs.map bv) ∧ w.ownsRow wb6.heap.size 33 5 vw us.length (flat us) ∧ wb6.heap.size ≤ w.heap.size ∧ Ext w0 w) (fun e w => ts.length - (intOf (e 9)).toNat) ?_ ?_
    · exact ⟨0, 0, [], ts, [], [], _, _, rfl, rfl, rfl, Nat.zero_le _, hcu, Nat.zero_le _, fun Z => rfl, rfl, rfl, rfl, rfl, rfl, rfl, ownA, World.ownsRow_nil _ _ _ _, World.ownsRow_nil _ _ _ _, Nat.le_refl _, hx⟩
    rintro e w ⟨i, fr, pr, rs, us, bs, vb, vw, hts, hpr, hul, hfr, hcu1, hbl, hinv, h0, h1, h5, h7, h8, h9, ownA, ownB, ownW, hzw, hx⟩
    have hm9 := h9
    refine W.seq ?_
    refine W.seq ?_
    rcases cutL_next xs fr hfr rs hcu1 with ⟨rfl, rm, hrm⟩ | ⟨t, us1, hat, rfl, hle, hgp, hon, hcn, hf1, hf2, hbk, h35⟩
    · skip
      simp only [List.append_nil] at hts
      subst hts
      refine W.region ?_
      refine WL.c rfl (o_mvh h9 ?_)
      refine WL.c rfl (o_mvh h5 ?_)
      refine WL.c rfl (o_lenR TI26 rfl (Sl.own ownA) ?_)
      refine WL.c rfl (o_lt rfl rfl ?_)
      refine WL.nil ?_
      refine W.condF' rfl (by simp <;> omega) ?_
      refine W.exit ?_
      refine W.seq ?_
      refine W.seq ?_
      refine W.region ?_
      refine WL.c rfl (o_mvh h7 ?_)
      refine WL.c rfl (o_lenR TI36 rfl (Sl.own ownB) ?_)
      refine WL.c rfl (o_gt rfl rfl ?_)
      refine WL.nil ?_
      refine W.cond rfl (fun c79 => ?_) (fun c79 => ?_)
      · try simp only [decide_eq_true_eq, decide_eq_false_iff_not, Bool.not_eq_true', Bool.not_eq_false', Bool.and_eq_true, Bool.or_eq_true, Bool.and_eq_false_iff, Bool.or_eq_false_iff] at c79
        refine W.seq ?_
        refine W.region ?_
        refine WL.c rfl (o_as ?_)
        refine WL.nil ?_
        refine W.ret ?_
        refine ret1v rfl (show _ = Value.bool _ from rfl) ?_
        exact ⟨rfl, hx⟩
      · try simp only [decide_eq_true_eq, decide_eq_false_iff_not, Bool.not_eq_true', Bool.not_eq_false', Bool.and_eq_true, Bool.or_eq_true, Bool.and_eq_false_iff, Bool.or_eq_false_iff] at c79
        have hbl2 : bs.length ≤ 65536 := by omega
        refine W.skip ?_
        refine W.seq ?_
        refine W.region ?_
        refine WL.c rfl (o_mvh h7 ?_)
        refine WL.c rfl (o_cvBS TI36 TI5 TI9 rfl (Sl.own ownB) ?_)
        refine WL.c rfl (o_call Try.call15 (lc rfl ln) ((cut_spec (bs) _ (by omega)).mono ?_))
        rintro v83 w83 ⟨vM, rfl, ownM, hx83⟩
        replace ownW := own_ext ownW hx83
        replace hx := hx.tr hx83
        have hzM := hx.size
        have ownM_lt := ownM.lt
        have ownW_lt := ownW.lt
        refine WL.c rfl (o_mv ?_)
        refine WL.c rfl (o_ext rfl rfl ?_)
        refine WL.c rfl (o_ext rfl rfl ?_)
        refine WL.c rfl (o_alB TI29 ?_)
        intro wa13 hFM hxa hsa
        replace ownW := own_ext ownW hxa
        replace ownM := own_ext ownM hxa
        replace hx := hx.tr hxa
        refine WL.c rfl (o_as ?_)
        refine WL.u (o_stA TI29 rfl rfl rfl rfl hFM rfl ?_)
        intro wb13 hFM hob hsb
        replace ownW := own_only ownW hob (fun j hj he => by have := (ownW_lt j hj).2; omega)
        replace ownM := own_only ownM hob (fun j hj he => by have := (ownM_lt j hj).2; omega)
        replace hx := Ext.own hx hzM hob
        clear hob hsb hxa hsa
        refine WL.nil ?_
        refine W.seq ?_
        have hend : cutL bs 0 = (us, 0, 0) := by
          have h := hinv []
          rw [List.append_nil, show cutL bs bs.length = ([], 0, 0) from by rw [cutL_eq, dif_neg (by omega)]] at h
          rw [h]; simp
        have hcb : cutA bs = (us, 0, 0) := by unfold cutA; rw [if_neg (by omega), hend]; simp
        rw [hcb] at ownM hFM
        refine W.region ?_
        refine WL.c rfl (o_ldA TI29 rfl rfl (cells_all hFM) rfl ?_)
        refine WL.c rfl (o_bldC (cs := [(.int .i64 0), (.int .i64 0)]) TI29 (Sizes.cons TI27 (Sizes.cons TI3 Sizes.nil)) rfl lnp rfl rfl ?_)
        refine WL.c rfl (o_eqR TI29 (by kernel_rfl) (by kernel_rfl) rfl rfl (.int TI27 (by decide) rfl rfl (.int TI3 (by decide) rfl rfl .nil)) ?_)
        refine WL.c rfl (o_mv ?_)
        refine WL.g rfl (by simp) rfl (o_mv ?_)
        refine WL.g rfl (by simp) rfl (o_mvh h8 ?_)
        refine WL.g rfl (by simp) rfl (o_call Try.call19 (lc rfl (lc rfl ln)) ((same_spec vM vw us us _ (Sl.own ownM) (Sl.own ownW) (by omega)).mono ?_))
        rintro v92 w92 ⟨rfl, m92, rfl⟩
        refine WL.c rfl (o_pickA rfl rfl ?_)
        refine WL.c rfl (o_as ?_)
        refine WL.nil ?_
        refine W.ret ?_
        refine ret1v rfl (show _ = Value.bool _ from rfl) ?_
        exact ⟨congrArg Value.bool (by simp), hx.tr (Only.drewN _ _)⟩
    · skip
      have hil : i < ts.length := by rw [hts]; simp; omega
      have hti : ts[i] = t := by simp [hts, ← hpr]
      have hsl := sub_len xs t.at_ t.fin
      refine W.region ?_
      refine WL.c rfl (o_mvh h9 ?_)
      refine WL.c rfl (o_mvh h5 ?_)
      refine WL.c rfl (o_lenR TI26 rfl (Sl.own ownA) ?_)
      refine WL.c rfl (o_lt rfl rfl ?_)
      refine WL.nil ?_
      refine W.condT' rfl (by simp <;> omega) ?_
      refine W.skip ?_
      refine W.seq ?_
      refine W.block ?_
      refine W.seq ?_
      refine W.region ?_
      refine WL.c rfl (o_as ?_)
      refine WL.nil ?_
      refine W.seq ?_
      refine W.seq ?_
      refine W.region ?_
      refine WL.c rfl (o_mvh h1 ?_)
      refine WL.c rfl (o_lenR TI22 rfl (hS.ext hx) ?_)
      refine WL.c rfl (o_gt rfl rfl ?_)
      refine WL.nil ?_
      refine W.cut (fun e1 w1 => ∃ kk : Int, e1 10 = .int .i64 kk ∧ e1 0 = st xs ∧ e1 1 = v ∧ e1 5 = vA ∧ e1 7 = vb ∧ e1 8 = vw ∧ e1 9 = .int .i64 (i : Int) ∧ w1 = w) ?_ ?_
      · -- both ways
        refine W.cond rfl (fun c32 => ?_) (fun c32 => ?_)
        · try simp only [decide_eq_true_eq, decide_eq_false_iff_not, Bool.not_eq_true', Bool.not_eq_false', Bool.and_eq_true, Bool.or_eq_true, Bool.and_eq_false_iff, Bool.or_eq_false_iff] at c32
          have hzp : 0 < zs.length := by omega
          have hmi := Nat.mod_lt i hzp
          have hv39 : (zs.map (Value.int .i64))[i % zs.length]? = some (.int .i64 zs[i % zs.length]) := by simp [hmi]
          refine W.region ?_
          refine WL.c rfl (o_mvh h1 ?_)
          refine WL.c rfl (o_mvh h9 ?_)
          refine WL.c rfl (o_mvh h1 ?_)
          refine WL.c rfl (o_lenR TI22 rfl (hS.ext hx) ?_)
          refine WL.c rfl (o_remN rfl rfl (by omega) (by omega) ?_)
          refine WL.c rfl (o_ix1 TI22 TI3 rfl rfl (hS.ext hx) (hmi) ?_)
          intro b38 o38 hc38 hb38
          refine WL.c rfl (o_ld TI3 rfl rfl (hc38.trans hv39) ?_)
          refine WL.c rfl (o_as ?_)
          refine WL.nil ?_
          exact ⟨_, rfl, h0, h1, h5, h7, h8, h9, rfl⟩
        · try simp only [decide_eq_true_eq, decide_eq_false_iff_not, Bool.not_eq_true', Bool.not_eq_false', Bool.and_eq_true, Bool.or_eq_true, Bool.and_eq_false_iff, Bool.or_eq_false_iff] at c32
          refine W.skip ?_
          exact ⟨_, rfl, h0, h1, h5, h7, h8, h9, rfl⟩
      rintro e w ⟨kk, h10, h0, h1, h5, h7, h8, h9, rfl⟩
      refine W.seq ?_
      refine W.region ?_
      refine WL.c rfl (o_mvh h7 ?_)
      refine WL.c rfl (o_mvh h10 ?_)
      refine WL.c rfl (o_call Try.call18 (lc rfl ln) ((fill_spec kk _).mono ?_))
      rintro v42 w42 ⟨g1, rfl, hg1, rfl⟩
      have hg1l := fills_len g1 hg1
      have hAB := own_row_off ownB ownA (by decide)
      have hWB := own_row_off ownB ownW (by decide)
      have hBl0 := ownB.lt
      refine WL.c rfl (o_apS (wb6.heap.size) TI36 TI5 TI9 rfl rfl ownB rfl (by rw [maxLen_eq]; omega) (by omega) (by omega) ?_)
      intro v43 w43 ownB hoB
      replace ownA := own_only ownA hoB hAB
      replace ownW := own_only ownW hoB hWB
      replace hx := hx.trans' hoB (fun _ h => h) (fun j hj he => by have := (hBl0 j he).1; omega)
      have hz43 := hoB.size
      rw [← List.map_append, ← List.length_append] at ownB
      clear hoB hAB hWB hBl0
      refine WL.c rfl (o_as ?_)
      refine WL.nil ?_
      refine W.seq ?_
      obtain ⟨b46, o46, c46, hv46, hc46⟩ := Sl.tok (Sl.own ownA) hil
      rw [hti] at hc46
      rw [hv46] at h5
      have hAl := ownA.lt
      have hBl := ownB.lt
      have hWl := ownW.lt
      have h46 := hAl b46 (by rw [hv46]; rfl)
      refine W.region ?_
      refine WL.c rfl (o_mvh h5 ?_)
      refine WL.c rfl (o_mvh h9 ?_)
      refine WL.c rfl (o_ixB TI26 TI33 rfl rfl (by omega) ?_)
      refine WL.c rfl (o_ldA TI33 rfl rfl hc46 rfl ?_)
      refine WL.c rfl (o_alB TI33 ?_)
      intro w11 hB11 hx11 hs11
      replace ownA := own_ext ownA hx11
      replace ownB := own_ext ownB hx11
      replace ownW := own_ext ownW hx11
      replace hc46 := hc46.only hx11 (fun h => h)
      replace hx := hx.tr hx11
      refine WL.u (o_stA TI33 rfl (show _ = Value.agg (tokV t) from rfl) rfl rfl hB11 rfl ?_)
      intro w12 hB11 ho hs12
      replace ownA := own_only ownA ho (fun j hj he => by have := (hAl j hj).2; omega)
      replace ownB := own_only ownB ho (fun j hj he => by have := (hBl j hj).2; omega)
      replace ownW := own_only ownW ho (fun j hj he => by have := (hWl j hj).2; omega)
      replace hc46 := hc46.only ho (by show ¬ _ = _; omega)
      replace hx := Ext.own hx (by omega) ho
      refine WL.nil ?_
      refine W.seq ?_
      refine W.region ?_
      refine WL.c rfl (o_mv ?_)
      refine WL.c rfl (o_lenR TI36 rfl (Sl.own ownB) ?_)
      refine WL.c rfl (o_fa 3 TI33 rfl TI3 rfl rfl ?_)
      refine WL.u (o_stB TI3 rfl (show _ = Value.int _ _ from rfl) rfl hB11 (show _ < 5 by decide) ?_)
      intro w50 hC ho hs
      replace hB11 : w50.heap[w43.heap.size]? = some (.cells (tokV ⟨t.kind, t.text, t.n, (bs ++ g1).length, t.fin⟩) 33 (0, 0)) := hC
      replace ownA := own_only ownA ho (fun j hj he => by have := (hAl j hj).2; omega)
      replace ownB := own_only ownB ho (fun j hj he => by have := (hBl j hj).2; omega)
      replace ownW := own_only ownW ho (fun j hj he => by have := (hWl j hj).2; omega)
      replace hx := Ext.own hx (by omega) ho
      replace hc46 := hc46.only ho (by show ¬ _ = _; omega)
      refine WL.nil ?_
      refine W.seq ?_
      have hc46d := hc46.only (Only.drew _) (fun h => h)
      refine W.tail 13 rfl (by kernel_rfl) ?_
      refine WS.c rfl ((SO.o rfl (o_mv ⟨rfl, rfl⟩))) ?_
      refine WS.c rfl ((SO.o rfl (o_mvh h0 ⟨rfl, rfl⟩))) ?_
      refine WS.c rfl ((SO.o rfl (o_mvh h5 ⟨rfl, rfl⟩))) ?_
      refine WS.c rfl ((SO.o rfl (o_mvh h9 ⟨rfl, rfl⟩))) ?_
      refine WS.c rfl ((SO.o rfl (o_ixB TI26 TI33 rfl rfl (by omega) ⟨rfl, rfl⟩))) ?_
      refine WS.c rfl ((SO.o rfl (o_fa 3 TI33 rfl TI3 rfl rfl ⟨rfl, rfl⟩))) ?_
      refine WS.c rfl ((SO.o rfl (o_ld TI3 rfl rfl (hc46d 3 _ rfl) ⟨rfl, rfl⟩))) ?_
      refine WS.c rfl ((SO.o rfl (o_mvh h5 ⟨rfl, rfl⟩))) ?_
      refine WS.c rfl ((SO.o rfl (o_mvh h9 ⟨rfl, rfl⟩))) ?_
      refine WS.c rfl ((SO.o rfl (o_ixB TI26 TI33 rfl rfl (by omega) ⟨rfl, rfl⟩))) ?_
      refine WS.c rfl ((SO.o rfl (o_fa 4 TI33 rfl TI3 rfl rfl ⟨rfl, rfl⟩))) ?_
      refine WS.c rfl ((SO.o rfl (o_ld TI3 rfl rfl (hc46d 4 _ rfl) ⟨rfl, rfl⟩))) ?_
      refine WS.c rfl ((SO.o rfl (o_ssT TI9 rfl (Lo.s rfl) (Hi.s rfl) (by omega) hf2 ⟨rfl, rfl⟩))) ?_
      refine WS.nil ?_
      replace hx := hx.tr (Only.drew _)
      replace hB11 := (Only.drew _).blk hB11 (fun h => h)
      replace ownA := own_ext ownA (Only.drew _)
      replace ownB := own_ext ownB (Only.drew _)
      replace ownW := own_ext ownW (Only.drew _)
      have hAB := own_row_off ownB ownA (by decide)
      have hWB := own_row_off ownB ownW (by decide)
      have hBl0 := ownB.lt
      have hB11B := own_off ownB hB11 (by decide)
      refine WL.c rfl (o_apS (wb6.heap.size) TI36 TI5 TI9 rfl rfl ownB rfl (by rw [maxLen_eq]; show (bs ++ g1).length + (sub xs t.at_ t.fin).length ≤ _; simp only [List.length_append]; omega) (by show (bs ++ g1).length + (sub xs t.at_ t.fin).length ≤ _; simp only [List.length_append]; omega) (by show wb6.heap.size ≤ w50.heap.size; omega) ?_)
      intro v64 w64 ownB hoB
      replace ownA := own_only ownA hoB hAB
      replace ownW := own_only ownW hoB hWB
      replace hB11 := hoB.blk hB11 hB11B
      replace hx := hx.trans' hoB (fun _ h => h) (fun j hj he => by have := (hBl0 j he).1; omega)
      have hz64 := hoB.size
      rw [← List.map_append, ← List.length_append] at ownB
      clear hoB hAB hWB hBl0
      replace ownB : w64.ownsRow wb6.heap.size 5 1 v64 (bs ++ g1 ++ sub xs t.at_ t.fin).length ((bs ++ g1 ++ sub xs t.at_ t.fin).map bv) := ownB
      replace hz64 : w50.heap.size ≤ w64.heap.size := hz64
      have hB11C := own_off ownB hB11 (by decide)
      refine WL.c rfl (o_as ?_)
      refine WL.nil ?_
      refine W.seq ?_
      refine W.region ?_
      refine WL.c rfl (o_mv ?_)
      refine WL.c rfl (o_lenR TI36 rfl (Sl.own ownB) ?_)
      refine WL.c rfl (o_fa 4 TI33 rfl TI3 rfl rfl ?_)
      refine WL.u (o_stB TI3 rfl (show _ = Value.int _ _ from rfl) rfl hB11 (show _ < 5 by decide) ?_)
      intro w67 hC ho hs
      replace hB11 : w67.heap[w43.heap.size]? = some (.cells (tokV ⟨t.kind, t.text, t.n, (bs ++ g1).length, (bs ++ g1 ++ sub xs t.at_ t.fin).length⟩) 33 (0, 0)) := hC
      replace ownA := own_only ownA ho (fun j hj he => by have := (hAl j hj).2; omega)
      replace ownB := own_only ownB ho (fun j hj he => hB11C (by rw [← he]; exact hj))
      replace ownW := own_only ownW ho (fun j hj he => by have := (hWl j hj).2; omega)
      replace hx := Ext.own hx (by omega) ho
      refine WL.nil ?_
      refine W.seq ?_
      refine W.region ?_
      refine WL.c rfl (o_mv ?_)
      refine WL.c rfl (o_mvh h10 ?_)
      refine WL.c rfl (o_shr rfl rfl (by omega) ?_)
      refine WL.c rfl (o_call Try.call18 (lc rfl ln) ((fill_spec _ _).mono ?_))
      rintro v71 w71 ⟨g2, rfl, hg2, rfl⟩
      have hg2l := fills_len g2 hg2
      have hAB := own_row_off ownB ownA (by decide)
      have hWB := own_row_off ownB ownW (by decide)
      have hBl0 := ownB.lt
      have hB11B := own_off ownB hB11 (by decide)
      refine WL.c rfl (o_apS (wb6.heap.size) TI36 TI5 TI9 rfl rfl ownB rfl (by rw [maxLen_eq]; simp only [List.length_append]; omega) (by simp only [List.length_append]; omega) (by omega) ?_)
      intro v72 w72 ownB hoB
      replace ownA := own_only ownA hoB hAB
      replace ownW := own_only ownW hoB hWB
      replace hB11 := hoB.blk hB11 hB11B
      replace hx := hx.trans' hoB (fun _ h => h) (fun j hj he => by have := (hBl0 j he).1; omega)
      have hz72 := hoB.size
      rw [← List.map_append, ← List.length_append] at ownB
      clear hoB hAB hWB hBl0
      refine WL.c rfl (o_as ?_)
      refine WL.nil ?_
      refine W.region ?_
      refine WL.c rfl (o_mvh h8 ?_)
      refine WL.c rfl (o_ldA TI33 rfl rfl (cells_all hB11) rfl ?_)
      have hBW := own_row_off ownW ownB (by decide)
      have hWl0 := ownW.lt
      refine WL.ap1 (wb6.heap.size) rfl rfl TI26 TI33 (show _ = Value.agg (tokV ⟨t.kind, t.text, t.n, (bs ++ g1).length, (bs ++ g1 ++ sub xs t.at_ t.fin).length⟩) from rfl) rfl ownW (by decide) (by decide) rfl (tok_one _) rfl (by rw [maxLen_eq]; omega) (by omega) (by omega) ?_
      intro v76 w76 ownW hoW
      replace ownA := own_only ownA hoW (fun j hj he => by have := hA0 j hj; have := (hWl0 j he).1; omega)
      replace ownB := own_only ownB hoW hBW
      replace hx := hx.trans' hoW (fun _ h => h) (fun j hj he => by have := (hWl0 j he).1; omega)
      have hz76 := hoW.size
      rw [← flat_snoc] at ownW
      refine WL.c rfl (o_as ?_)
      refine WL.nil ?_
      refine W.region ?_
      refine WL.c rfl (o_mvh h9 ?_)
      refine WL.c rfl (o_addi rfl rfl (by omega) ?_)
      refine WL.c rfl (o_as ?_)
      refine WL.nil ?_
      refine ⟨⟨i + 1, t.fin, pr ++ [t], us1, us ++ [⟨t.kind, t.text, t.n, (bs ++ g1).length, (bs ++ g1 ++ sub xs t.at_ t.fin).length⟩], bs ++ g1 ++ sub xs t.at_ t.fin ++ g2, v72, v76, by rw [hts]; simp, by simp; omega, by simp; omega, hf2, hcn, by simp; omega, again_inv hinv hg1 hg2 hat hon hf1 hf2 hbk h35, h0, h1, h5.trans hv46.symm, rfl, rfl, rfl, ownA, ownB, by rw [List.length_append]; exact ownW, by omega, hx⟩, ?_⟩
      show ts.length - ((i : Int) + 1).toNat < _
      rw [hm9]; simp [intOf]; omega
  · skip
    rw [hA] at hFA ownA
    refine W.region ?_
    refine WL.c rfl (o_fa 0 TI29 rfl TI27 rfl rfl ?_)
    refine WL.c rfl (o_ld TI27 rfl rfl (cell_of hFA rfl) ?_)
    refine WL.c rfl (o_ne rfl rfl ?_)
    refine WL.nil ?_
    refine W.condT' rfl (by simp <;> omega) ?_
    refine W.seq ?_
    refine W.region ?_
    refine WL.c rfl (o_as ?_)
    refine WL.nil ?_
    refine W.ret ?_
    refine ret1v rfl (show _ = Value.bool _ from rfl) ?_
    exact ⟨rfl, hx⟩

theorem again_walk (w0 : World) (s : ByteArray) (hs : s.size ≤ maxLen) (v : Value) (zs : List Int) (hzl : zs.length ≤ 9223372036854775807) (hS : Sl w0 1 v zs.length (zs.map (Value.int .i64))) : Ca Try.prog 6 #[.string s, v] w0 (fun v w' => v = .bool true ∧ Ext w0 w') := by
  obtain ⟨⟨xs⟩⟩ := s
  exact again_walk0 w0 xs hs v zs hzl hS

end Go.Proofs.Ytiabjbaegdgmmaa
