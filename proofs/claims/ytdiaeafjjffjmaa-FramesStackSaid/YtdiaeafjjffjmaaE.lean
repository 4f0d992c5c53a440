/-
  Walks. Written by program out of specs of mine.
-/
import Derived.Test.YtdiaeafjjffjmaaB
import Derived.Test.YtdiaeafjjffjmaaDrawc
set_option linter.unusedSimpArgs false
set_option linter.unusedVariables false
set_option maxRecDepth 100000
namespace Go.Proofs.Ytdiaeafjjffjmaa
open Go Go.Vc Go.RowKit Go.Proofs
theorem mark_spec (H p most high : Nat) (L : List Fr) (lv : Value) (V : Nat → Value) (a : Int) (w0 : World) (h : Stk w0 H p most high L lv V) : Ca Try.prog 25 #[.pointer (some ⟨p, 0, none⟩), .int .i64 a] w0 (fun v w' => v = .int .i64 (markR L a).1 ∧ ∃ lv' V', Turn w0 w' H p most high L lv V high (markR L a).2 lv' V') := by
  have h00 := h
  refine Ca.of Try.func25 Try.ntmps25 rfl rfl ?_
  refine W.seq ?_
  refine W.region ?_
  refine WL.c rfl (o_as ?_)
  refine WL.nil ?_
  refine W.seq ?_
  refine W.region ?_
  refine WL.c rfl (o_mv ?_)
  refine WL.c rfl (o_call Try.call34 (lc rfl ln) ((last_spec H p most high L lv V _ h).mono ?_))
  rintro v7 w7 ⟨rfl, mq, rfl⟩
  replace h := h.ext (Only.drewN w0 mq)
  have hxq := Only.drewN w0 mq
  generalize w0.drewN mq = wq at *
  refine WL.c rfl (o_as ?_)
  refine WL.nil ?_
  refine W.seq ?_
  refine W.block ?_
  refine W.seq ?_
  rcases Nat.eq_zero_or_pos L.length with h0 | h0
  · skip
    have hl0 : lastP lv L.length = none := by unfold lastP; split <;> simp [h0]
    rw [hl0]
    refine W.region ?_
    refine WL.c rfl (o_mv ?_)
    refine WL.c rfl (o_eqN (p := none) TI77 rfl rfl ?_)
    refine WL.c rfl (o_as ?_)
    refine WL.nil ?_
    refine W.condT' rfl (rfl) ?_
    refine W.seq ?_
    refine W.region ?_
    refine WL.c rfl (o_as ?_)
    refine WL.nil ?_
    refine W.ret ?_
    refine ret1v rfl (show _ = Value.int _ _ from rfl) ?_
    have hp : markR L a = (220, L) := by rw [markR, if_pos h0]
    rw [hp]
    exact ⟨rfl, lv, V, Turn.same h00 hxq⟩
  · skip
    obtain ⟨g, cap, rfl, hb, hcs⟩ := h.rows.at (k := L.length - 1) (by omega)
    have hl0 : lastP (.slice (some ⟨g, 0, none⟩) L.length cap) L.length = some ⟨g, (L.length - 1) * 7, none⟩ := by unfold lastP; simp only []; rw [if_neg (by omega)]
    rw [hl0]
    obtain ⟨T, hT⟩ : ∃ T, T = L.getD (L.length - 1) Fr.nil := ⟨_, rfl⟩
    rw [← hT] at hcs
    have htab := h.rows.tab (k := L.length - 1) (by omega)
    rw [tabl, ← hT] at htab
    obtain ⟨tv, htv⟩ : ∃ tv, tv = V (L.length - 1) := ⟨_, rfl⟩
    rw [← htv] at hcs htab
    refine W.region ?_
    refine WL.c rfl (o_mv ?_)
    refine WL.c rfl (o_eqN (p := some ⟨g, (L.length - 1) * 7, none⟩) TI77 rfl rfl ?_)
    refine WL.c rfl (o_as ?_)
    refine WL.nil ?_
    refine W.condF' rfl (rfl) ?_
    refine W.seq ?_
    refine W.region ?_
    refine WL.c rfl (o_mv ?_)
    refine WL.c rfl (o_call Try.call48 (lc rfl (lc rfl (lc rfl ln))) ((in_spec a 0 Huge _).mono ?_))
    rintro v13 w13 ⟨rfl, rfl⟩
    refine WL.c rfl (o_not' rfl ?_)
    refine WL.c rfl (o_as ?_)
    refine WL.nil ?_
    refine W.cond rfl (fun c11 => ?_) (fun c11 => ?_)
    · try simp only [decide_eq_true_eq, decide_eq_false_iff_not, Bool.not_eq_true', Bool.not_eq_false', Bool.and_eq_true, Bool.or_eq_true, Bool.and_eq_false_iff, Bool.or_eq_false_iff] at c11
      refine W.seq ?_
      refine W.region ?_
      refine WL.c rfl (o_as ?_)
      refine WL.nil ?_
      refine W.ret ?_
      refine ret1v rfl (show _ = Value.int _ _ from rfl) ?_
      have hp : markR L a = (3, L) := by rw [markR, if_neg (by omega), if_neg (by simp_all)]
      rw [hp]
      exact ⟨rfl, _, V, Turn.same h00 hxq⟩
    · try simp only [decide_eq_true_eq, decide_eq_false_iff_not, Bool.not_eq_true', Bool.not_eq_false', Bool.and_eq_true, Bool.or_eq_true, Bool.and_eq_false_iff, Bool.or_eq_false_iff] at c11
      refine W.seq ?_
      refine W.region ?_
      refine WL.c rfl (o_mv ?_)
      refine WL.c rfl (o_nil rfl ?_)
      refine WL.c rfl (o_fa 6 TI39 rfl TI37 rfl rfl ?_)
      refine WL.c rfl (o_ld TI37 rfl rfl (hcs 6 _ rfl) ?_)
      refine WL.c rfl (o_lenR TI37 rfl htab ?_)
      refine WL.c rfl (o_ge rfl rfl ?_)
      refine WL.c rfl (o_as ?_)
      refine WL.nil ?_
      refine W.cond rfl (fun c15 => ?_) (fun c15 => ?_)
      · try simp only [decide_eq_true_eq, decide_eq_false_iff_not, Bool.not_eq_true', Bool.not_eq_false', Bool.and_eq_true, Bool.or_eq_true, Bool.and_eq_false_iff, Bool.or_eq_false_iff] at c15
        refine W.seq ?_
        refine W.region ?_
        refine WL.c rfl (o_as ?_)
        refine WL.nil ?_
        refine W.ret ?_
        refine ret1v rfl (show _ = Value.int _ _ from rfl) ?_
        have hp : markR L a = (5, L) := by rw [markR, if_neg (by omega), if_pos c11, topF, ← hT, if_pos (by omega)]
        rw [hp]
        exact ⟨rfl, _, V, Turn.same h00 hxq⟩
      · try simp only [decide_eq_true_eq, decide_eq_false_iff_not, Bool.not_eq_true', Bool.not_eq_false', Bool.and_eq_true, Bool.or_eq_true, Bool.and_eq_false_iff, Bool.or_eq_false_iff] at c15
        refine W.skip ?_
        refine W.seq ?_
        have hrow : w13.ownsRow H 3 1 tv T.tab.length (ints T.tab) := by have := h.rows.tabs.row (L.length - 1) (by omega); rw [tabl, ← hT, ← htv] at this; exact this
        have hHq : H ≤ w13.heap.size := by have := h.lt p (.inl rfl); have := h.lo; omega
        refine W.region ?_
        refine WL.c rfl (o_mv ?_)
        refine WL.c rfl (o_mv ?_)
        refine WL.c rfl (o_nil rfl ?_)
        refine WL.c rfl (o_fa 6 TI39 rfl TI37 rfl rfl ?_)
        refine WL.c rfl (o_ld TI37 rfl rfl (hcs 6 _ rfl) ?_)
        refine WL.c rfl (o_mv ?_)
        refine WL.apO (H) rfl rfl TI37 TI3 (show _ = Value.int _ _ from rfl) rfl hrow (by decide) (by decide) rfl (one1 rfl) rfl (by rw [maxLen_eq]; omega) (by omega) hHq ?_
        intro v29 w29 hown29 ho29 hb29 hk29
        have hown29 : w29.ownsRow H 3 1 v29 (T.tab ++ [a]).length (ints (T.tab ++ [a])) := by rw [List.length_append, List.length_singleton, ints, List.map_append]; exact hown29
        have hr29 := own_only h.rows.row ho29 (fun k hk hF => own_row_off h.rows.row (h.rows.tabs.row (L.length - 1) (by omega)) (by decide) k (by rw [← htv]; exact hF) hk)
        have hcell29 := ho29.blk h.cell (fun hF => h.p_off (.inr ⟨L.length - 1, by omega, by rw [← htv]; exact hF⟩))
        refine WL.c rfl (o_nil rfl ?_)
        refine WL.c rfl (o_fa 6 TI39 rfl TI37 rfl rfl ?_)
        refine WL.u (o_stRo TI37 rfl (show _ = v29 from rfl) (own_one hown29) hr29 hb (show (L.length - 1) * 7 + 6 < L.length * 7 by omega) ?_)
        intro w31 hr31 ho31 hs31
        rw [set6 (T := T) (tv := tv) (by rw [frows_at (by omega), ← hT, ← htv])] at hr31
        have hm31 := (Many.grow h.rows.tabs (j0 := L.length - 1) (by omega) (by rw [← htv]; exact ho29) (by rw [← htv]; exact hb29) (Nat.le_succ _) hown29).only ho31 (fun j hj k hk hF => by
          by_cases e : j = L.length - 1
          · simp only [if_pos e] at hk; exact own_row_off hr29 hown29 (by decide) k hk hF
          · simp only [if_neg e] at hk; exact own_row_off h.rows.row (h.rows.tabs.row j hj) (by decide) k hk hF)
        have hrow31 := Rows.put (f := { T with tab := T.tab ++ [a] }) (tv := v29) (k := L.length - 1) (by omega) hr31 hm31
        refine WL.nil ?_
        refine W.seq ?_
        refine W.region ?_
        refine WL.c rfl (o_as ?_)
        refine WL.nil ?_
        refine W.ret ?_
        refine ret1v rfl (show _ = Value.int _ _ from rfl) ?_
        have hp : markR L a = (0, L.set (L.length - 1) { T with tab := T.tab ++ [a] }) := by rw [markR, if_neg (by omega), if_pos c11, topF, ← hT, if_neg (by omega)]
        rw [hp]
        refine ⟨rfl, _, _, ⟨ho31.blk hcell29 (fun hk => h.p_off (.inl hk)), hrow31, h.lo, h.mb, by rw [List.length_set]; exact h.len, tl_set h.tl (by show (T.tab ++ [a]).length ≤ _; rw [List.length_append, List.length_singleton]; omega)⟩, (hxq.trans' (H := SF p _ V L.length) ho29 (fun _ hF => hF.elim) (fun k _ hk => .inr (.inr ⟨L.length - 1, by omega, by rw [← htv]; exact hk⟩))).trans' ho31 (fun _ hF => hF) (fun k _ hk => .inr (.inl hk)), fun k hk => ?_⟩
        rw [List.length_set] at hk
        refine ite_SF (B := w0.heap.size) (m := L.length - 1) (q := L.length) (Nat.le_refl _) (.inl rfl) (fun k hk => ?_) (Nat.le_refl _) (.inl hk)
        have := hxq.size
        rcases hb29 with hb29 | hb29 <;> rw [hb29] at hk
        · exact .inr ⟨L.length - 1, by omega, by rw [← htv]; exact hk⟩
        · cases hk; exact .inl (by omega)
theorem clip_spec (a : Option Addr) (n c : Nat) (w0 : World) (hnc : n ≤ c) : Ca Try.prog 35 #[.slice a n c] w0 (fun v w' => v = .slice a n n ∧ w' = w0) := by
  refine Ca.of Try.func35 Try.ntmps35 rfl rfl ?_
  refine W.seq ?_
  refine W.region ?_
  refine WL.c rfl (o_as ?_)
  refine WL.nil ?_
  refine W.seq ?_
  refine W.region ?_
  refine WL.c rfl (o_mv ?_)
  refine WL.c rfl (o_mv ?_)
  refine WL.c rfl (o_len TI37 rfl ?_)
  refine WL.c rfl (o_mv ?_)
  refine WL.c rfl (o_len TI37 rfl ?_)
  refine WL.c rfl (o_clip TI37 TI3 rfl rfl rfl (hnc) ?_)
  refine WL.c rfl (o_as ?_)
  refine WL.nil ?_
  refine W.ret ?_
  refine ret1v rfl rfl ?_
  exact ⟨rfl, rfl⟩
theorem head_spec (H p most high : Nat) (L : List Fr) (lv : Value) (V : Nat → Value) (w0 : World) (h : Stk w0 H p most high L lv V) : Ca Try.prog 28 #[.pointer (some ⟨p, 0, none⟩)] w0 (fun v w' => v = .tuple #[.agg (fcells (topF L) (.slice none 0 0)).toArray, .int .i64 (emptyE L)] ∧ Ext w0 w') := by
  refine Ca.of Try.func28 Try.ntmps28 rfl rfl ?_
  refine W.seq ?_
  refine W.region ?_
  refine WL.c rfl (o_alB TI39 ?_)
  intro w2 hC2 hx2 hs2
  replace h := h.ext hx2
  refine WL.c rfl (o_as ?_)
  refine WL.nil ?_
  refine W.seq ?_
  refine W.region ?_
  refine WL.c rfl (o_mv ?_)
  refine WL.c rfl (o_call Try.call34 (lc rfl ln) ((last_spec H p most high L lv V _ h).mono ?_))
  rintro v7 w7 ⟨rfl, mq, rfl⟩
  replace h := h.ext (Only.drewN w2 mq)
  replace hC2 := (Only.drewN w2 mq).blk hC2 (fun h => h)
  have hxq := hx2.tr (Only.drewN w2 mq)
  generalize w2.drewN mq = wq at *
  refine WL.c rfl (o_as ?_)
  refine WL.nil ?_
  refine W.seq ?_
  refine W.seq ?_
  rcases Nat.eq_zero_or_pos L.length with h0 | h0
  · skip
    have hl0 : lastP lv L.length = none := by unfold lastP; split <;> simp [h0]
    rw [hl0]
    refine W.region ?_
    refine WL.c rfl (o_mv ?_)
    refine WL.c rfl (o_eqN (p := none) TI77 rfl rfl ?_)
    refine WL.nil ?_
    refine W.condT' rfl (rfl) ?_
    refine W.seq ?_
    refine W.region ?_
    refine WL.c rfl (o_bldC (cs := [(.int .i64 0), (.int .i64 0), (.int .i64 0), (.int .i64 0), (.int .i64 0), (.int .i64 0), (.slice none 0 0)]) TI39 (Sizes.cons TI3 (Sizes.cons TI3 (Sizes.cons TI3 (Sizes.cons TI3 (Sizes.cons TI3 (Sizes.cons TI3 (Sizes.cons TI37 Sizes.nil))))))) rfl lnp rfl rfl ?_)
    refine WL.u (o_stA TI39 rfl rfl rfl rfl hC2 rfl ?_)
    intro w9 hB9 ho9 hs9
    refine WL.c rfl (o_as ?_)
    refine WL.nil ?_
    refine W.ret ?_
    refine retCT rfl TI39 rfl (show _ = Value.int _ _ from rfl) rfl (show Cells w9 w0.heap.size 0 (fcells Fr.nil (.slice none 0 0)) from Cells.of hB9 0 _ (by simp [fcells, Fr.nil])) rfl ?_
    rw [topF_nil h0, emptyE, if_pos h0]
    exact ⟨rfl, hxq.trans' ho9 (fun _ h => h) (fun j hj he => by omega)⟩
  · skip
    obtain ⟨g, cap, rfl, hb, hcs⟩ := h.rows.at (k := L.length - 1) (by omega)
    have hl0 : lastP (.slice (some ⟨g, 0, none⟩) L.length cap) L.length = some ⟨g, (L.length - 1) * 7, none⟩ := by unfold lastP; simp only []; rw [if_neg (by omega)]
    rw [hl0]
    obtain ⟨T, hT⟩ : ∃ T, T = L.getD (L.length - 1) Fr.nil := ⟨_, rfl⟩
    rw [← hT] at hcs
    have htab := h.rows.tab (k := L.length - 1) (by omega)
    rw [tabl, ← hT] at htab
    obtain ⟨tv, htv⟩ : ∃ tv, tv = V (L.length - 1) := ⟨_, rfl⟩
    rw [← htv] at hcs htab
    refine W.region ?_
    refine WL.c rfl (o_mv ?_)
    refine WL.c rfl (o_eqN (p := some ⟨g, (L.length - 1) * 7, none⟩) TI77 rfl rfl ?_)
    refine WL.nil ?_
    refine W.condF' rfl (rfl) ?_
    refine W.skip ?_
    refine W.seq ?_
    refine W.region ?_
    refine WL.c rfl (o_mv ?_)
    refine WL.c rfl (o_nil rfl ?_)
    refine WL.c rfl (o_ldA TI39 rfl rfl hcs rfl ?_)
    refine WL.c rfl (o_alB TI39 ?_)
    intro w5 hC5 hx5 hs5
    have hne : w0.heap.size < wq.heap.size := (Array.getElem?_eq_some_iff.1 hC2).1
    replace hC2 := hx5.blk hC2 (fun h => h)
    refine WL.u (o_stA TI39 rfl (show _ = Value.agg (fcells T tv).toArray from rfl) rfl (fcells_one (by rw [htv]; exact own_one (h.rows.tabs.row (L.length - 1) (by omega)))) hC5 rfl ?_)
    intro w6 hB6 ho6 hs6
    replace hC2 := ho6.blk hC2 (show ¬ w0.heap.size = wq.heap.size by omega)
    refine WL.nil ?_
    refine W.seq ?_
    refine W.region ?_
    refine WL.c rfl (o_fa 6 TI39 rfl TI37 rfl rfl ?_)
    refine WL.u (o_stB TI37 rfl rfl rfl hB6 (show 6 < 7 by decide) ?_)
    intro w7 hB7 ho7 hs7
    replace hB7 : w7.heap[wq.heap.size]? = some (.cells (fcells T (.slice none 0 0)).toArray 39 (0, 0)) := hB7
    replace hC2 := ho7.blk hC2 (show ¬ w0.heap.size = wq.heap.size by omega)
    refine WL.nil ?_
    refine W.seq ?_
    refine W.region ?_
    refine WL.c rfl (o_ldA TI39 rfl rfl (show Cells w7 wq.heap.size 0 (fcells T (.slice none 0 0)) from Cells.of hB7 0 _ (by simp)) rfl ?_)
    refine WL.u (o_stA TI39 rfl (show _ = Value.agg (fcells T (.slice none 0 0)).toArray from rfl) rfl (fcells_one rfl) hC2 rfl ?_)
    intro w8 hB8 ho8 hs8
    refine WL.c rfl (o_as ?_)
    refine WL.nil ?_
    refine W.ret ?_
    refine retCT rfl TI39 rfl (show _ = Value.int _ _ from rfl) rfl (show Cells w8 w0.heap.size 0 (fcells T (.slice none 0 0)) from Cells.of hB8 0 _ (by simp)) rfl ?_
    have hT' : topF L = T := hT.symm
    rw [hT', emptyE, if_neg (show ¬ L.length = 0 by omega)]
    exact ⟨rfl, (((hxq.tr hx5).trans' ho6 (fun _ h => h) (fun j hj he => by omega)).trans' ho7 (fun _ h => h) (fun j hj he => by omega)).trans' ho8 (fun _ h => h) (fun j hj he => by omega)⟩
end Go.Proofs.Ytdiaeafjjffjmaa
