/-
  Walks. Written by program out of specs of mine.
-/
import Derived.Test.YtdiaeafjjffjmaaB
import Derived.Test.YtdiaeafjjffjmaaDrawc
set_option linter.unusedSimpArgs false
set_option linter.unusedVariables false
set_option maxRecDepth 100000
namespace Go.Proofs.Ytdiaeafjjffjmaa
open Go Go.Vc Go.RowKit Go.Proofs
theorem set_spec (H p most high : Nat) (L : List Fr) (lv : Value) (V : Nat → Value) (f : Fr) (fv : Value) (w0 : World) (h : Stk w0 H p most high L lv V) (hS : In w0 fv f.tab) (hl : f.tab.length ≤ 16000000000000) : Ca Try.prog 20 #[.pointer (some ⟨p, 0, none⟩), .agg (fcells f fv).toArray] w0 (fun v w' => v = .int .i64 (setR L f).1 ∧ ∃ lv' V', Turn w0 w' H p most high L lv V high (setR L f).2 lv' V') := by
  refine Ca.of Try.func20 Try.ntmps20 rfl rfl ?_
  refine W.seq ?_
  refine W.region ?_
  refine WL.c rfl (o_boxB rfl ?_)
  have h00 := h
  intro w3 hC3 hx3 hs3
  replace hC3 : w3.heap[w0.heap.size]? = some (.cells (fcells f fv).toArray 39 (0, 0)) := hC3
  replace h := h.ext hx3
  replace hS := hS.ext hx3
  refine WL.c rfl (o_as ?_)
  refine WL.nil ?_
  refine W.seq ?_
  refine W.region ?_
  refine WL.c rfl (o_mv ?_)
  refine WL.c rfl (o_call Try.call34 (lc rfl ln) ((last_spec H p most high L lv V _ h).mono ?_))
  rintro v7 w7 ⟨rfl, mq, rfl⟩
  replace h := h.ext (Only.drewN w3 mq)
  replace hS := hS.ext (Only.drewN w3 mq)
  replace hC3 := (Only.drewN w3 mq).blk hC3 (fun h => h)
  have hxq := hx3.tr (Only.drewN w3 mq)
  generalize w3.drewN mq = wq at *
  refine WL.c rfl (o_as ?_)
  refine WL.nil ?_
  refine W.seq ?_
  refine W.seq ?_
  rcases Nat.eq_zero_or_pos L.length with h0 | h0
  · skip
    have hl0 : lastP lv L.length = none := by unfold lastP; split <;> simp [h0]
    rw [hl0]
    refine W.region ?_
    refine WL.c rfl (o_mv ?_)
    refine WL.c rfl (o_eqN (p := none) TI77 rfl rfl ?_)
    refine WL.nil ?_
    refine W.condT' rfl (rfl) ?_
    refine W.seq ?_
    refine W.region ?_
    refine WL.c rfl (o_as ?_)
    refine WL.nil ?_
    refine W.ret ?_
    refine ret1v rfl (show _ = Value.int _ _ from rfl) ?_
    have hp : setR L f = (220, L) := by rw [setR, if_pos h0]
    rw [hp]
    exact ⟨rfl, lv, V, Turn.same h00 hxq⟩
  · skip
    obtain ⟨g, cap, rfl, hb, hcs⟩ := h.rows.at (k := L.length - 1) (by omega)
    have hl0 : lastP (.slice (some ⟨g, 0, none⟩) L.length cap) L.length = some ⟨g, (L.length - 1) * 7, none⟩ := by unfold lastP; simp only []; rw [if_neg (by omega)]
    rw [hl0]
    obtain ⟨T, hT⟩ : ∃ T, T = L.getD (L.length - 1) Fr.nil := ⟨_, rfl⟩
    rw [← hT] at hcs
    have htab := h.rows.tab (k := L.length - 1) (by omega)
    rw [tabl, ← hT] at htab
    obtain ⟨tv, htv⟩ : ∃ tv, tv = V (L.length - 1) := ⟨_, rfl⟩
    rw [← htv] at hcs htab
    refine W.region ?_
    refine WL.c rfl (o_mv ?_)
    refine WL.c rfl (o_eqN (p := some ⟨g, (L.length - 1) * 7, none⟩) TI77 rfl rfl ?_)
    refine WL.nil ?_
    refine W.condF' rfl (rfl) ?_
    refine W.skip ?_
    refine W.seq ?_
    refine W.seq ?_
    refine W.region ?_
    refine WL.c rfl (o_ldA TI39 rfl rfl (show Cells wq w0.heap.size 0 (fcells f fv) from Cells.of hC3 0 _ (by simp)) rfl ?_)
    refine WL.c rfl (o_call Try.call36 (lc rfl ln) ((whole_spec f fv _ hS (by rw [maxLen_eq]; omega)).mono ?_))
    rintro v11 w11 ⟨rfl, hx11⟩
    replace hxq := hxq.tr hx11
    replace h := h.ext hx11
    replace hS := hS.ext hx11
    replace hC3 := hx11.blk hC3 (fun h => h)
    refine WL.c rfl (o_not' rfl ?_)
    refine WL.nil ?_
    refine W.cond rfl (fun c12 => ?_) (fun c12 => ?_)
    · try simp only [decide_eq_true_eq, decide_eq_false_iff_not, Bool.not_eq_true', Bool.not_eq_false', Bool.and_eq_true, Bool.or_eq_true, Bool.and_eq_false_iff, Bool.or_eq_false_iff] at c12
      refine W.seq ?_
      refine W.region ?_
      refine WL.c rfl (o_as ?_)
      refine WL.nil ?_
      refine W.ret ?_
      refine ret1v rfl (show _ = Value.int _ _ from rfl) ?_
      have hp : setR L f = (3, L) := by rw [setR, if_neg (by omega), if_neg (by simp_all)]
      rw [hp]
      exact ⟨rfl, _, V, Turn.same h00 hxq⟩
    · try simp only [decide_eq_true_eq, decide_eq_false_iff_not, Bool.not_eq_true', Bool.not_eq_false', Bool.and_eq_true, Bool.or_eq_true, Bool.and_eq_false_iff, Bool.or_eq_false_iff] at c12
      refine W.skip ?_
      refine W.seq ?_
      refine W.region ?_
      refine WL.c rfl (o_mv ?_)
      refine WL.c rfl (o_ldA TI39 rfl rfl (show Cells w11 w0.heap.size 0 (fcells f fv) from Cells.of hC3 0 _ (by simp)) rfl ?_)
      refine WL.c rfl (o_call Try.call37 (lc rfl ln) ((own_spec f fv _ hS hl).mono ?_))
      rintro v15 w15 ⟨u15, rfl, hown15, hx15⟩
      have hltV : ∀ j, j < L.length → ∀ k, (V j).ownBlock = some k → k < w11.heap.size := fun j hj k hk => (h.rows.tabs.lt hj hk).2
      have hH : H ≤ w11.heap.size := by have := h.lt p (.inl rfl); have := h.lo; omega
      replace h := h.ext hx15
      have hx15' := hxq.tr hx15
      refine WL.c rfl (o_nil rfl ?_)
      refine WL.u (o_stRA TI39 rfl rfl (show _ = Value.agg (fcells f u15).toArray from rfl) rfl (fcells_one (own_one hown15)) h.rows.row hb (show L.length - 1 < L.length by omega) ?_)
      intro w16 hr16 ho16 hs16
      have hrow16 := Rows.put (f := f) (tv := u15) (k := L.length - 1) (by omega) hr16 (Many.repl (h.rows.tabs.only ho16 (fun j hj => own_row_off h.rows.row (h.rows.tabs.row j hj) (by decide))) (own_only hown15 ho16 (own_row_off h.rows.row hown15 (by decide))) hH hltV)
      refine WL.nil ?_
      refine W.seq ?_
      refine W.region ?_
      refine WL.c rfl (o_as ?_)
      refine WL.nil ?_
      refine W.ret ?_
      refine ret1v rfl (show _ = Value.int _ _ from rfl) ?_
      have hp : setR L f = (0, L.set (L.length - 1) f) := by rw [setR, if_neg (by omega), if_pos c12]
      rw [hp]
      refine ⟨rfl, _, _, ⟨ho16.blk h.cell (fun hk => h.p_off (.inl hk)), hrow16, h.lo, h.mb, by rw [List.length_set]; exact h.len, tl_set h.tl (fwhole_tab c12)⟩, hx15'.trans' ho16 (fun _ hF => hF.elim) (fun k _ hk => .inr (.inl hk)), fun k hk => ?_⟩
      rw [List.length_set] at hk
      exact ite_SF (B := w11.heap.size) (m := L.length - 1) (q := L.length) hxq.size (.inl rfl) (fun k hk => .inl (by have := (hown15.lt k hk).1; have := hxq.size; omega)) (Nat.le_refl _) (.inl hk)
theorem go_spec (H p most high : Nat) (L : List Fr) (lv : Value) (V : Nat → Value) (f : Fr) (fv : Value) (w0 : World) (h : Stk w0 H p most high L lv V) : Ca Try.prog 23 #[.pointer (some ⟨p, 0, none⟩), .agg (fcells f fv).toArray] w0 (fun v w' => v = .int .i64 (goR L f).1 ∧ ∃ lv' V', Turn w0 w' H p most high L lv V high (goR L f).2 lv' V') := by
  refine Ca.of Try.func23 Try.ntmps23 rfl rfl ?_
  refine W.seq ?_
  refine W.region ?_
  refine WL.c rfl (o_boxB rfl ?_)
  have h00 := h
  intro w3 hC3 hx3 hs3
  replace hC3 : w3.heap[w0.heap.size]? = some (.cells (fcells f fv).toArray 39 (0, 0)) := hC3
  replace h := h.ext hx3
  refine WL.c rfl (o_as ?_)
  refine WL.nil ?_
  refine W.seq ?_
  refine W.region ?_
  refine WL.c rfl (o_mv ?_)
  refine WL.c rfl (o_call Try.call34 (lc rfl ln) ((last_spec H p most high L lv V _ h).mono ?_))
  rintro v7 w7 ⟨rfl, mq, rfl⟩
  replace h := h.ext (Only.drewN w3 mq)
  replace hC3 := (Only.drewN w3 mq).blk hC3 (fun h => h)
  have hxq := hx3.tr (Only.drewN w3 mq)
  generalize w3.drewN mq = wq at *
  refine WL.c rfl (o_as ?_)
  refine WL.nil ?_
  refine W.seq ?_
  refine W.seq ?_
  rcases Nat.eq_zero_or_pos L.length with h0 | h0
  · skip
    have hl0 : lastP lv L.length = none := by unfold lastP; split <;> simp [h0]
    rw [hl0]
    refine W.region ?_
    refine WL.c rfl (o_mv ?_)
    refine WL.c rfl (o_eqN (p := none) TI77 rfl rfl ?_)
    refine WL.nil ?_
    refine W.condT' rfl (rfl) ?_
    refine W.seq ?_
    refine W.region ?_
    refine WL.c rfl (o_as ?_)
    refine WL.nil ?_
    refine W.ret ?_
    refine ret1v rfl (show _ = Value.int _ _ from rfl) ?_
    have hp : goR L f = (220, L) := by rw [goR, if_pos h0]
    rw [hp]
    exact ⟨rfl, lv, V, Turn.same h00 hxq⟩
  · skip
    obtain ⟨g, cap, rfl, hb, hcs⟩ := h.rows.at (k := L.length - 1) (by omega)
    have hl0 : lastP (.slice (some ⟨g, 0, none⟩) L.length cap) L.length = some ⟨g, (L.length - 1) * 7, none⟩ := by unfold lastP; simp only []; rw [if_neg (by omega)]
    rw [hl0]
    obtain ⟨T, hT⟩ : ∃ T, T = L.getD (L.length - 1) Fr.nil := ⟨_, rfl⟩
    rw [← hT] at hcs
    have htab := h.rows.tab (k := L.length - 1) (by omega)
    rw [tabl, ← hT] at htab
    obtain ⟨tv, htv⟩ : ∃ tv, tv = V (L.length - 1) := ⟨_, rfl⟩
    rw [← htv] at hcs htab
    refine W.region ?_
    refine WL.c rfl (o_mv ?_)
    refine WL.c rfl (o_eqN (p := some ⟨g, (L.length - 1) * 7, none⟩) TI77 rfl rfl ?_)
    refine WL.nil ?_
    refine W.condF' rfl (rfl) ?_
    refine W.skip ?_
    refine W.seq ?_
    refine W.seq ?_
    refine W.region ?_
    refine WL.c rfl (o_ldA TI39 rfl rfl (show Cells wq w0.heap.size 0 (fcells f fv) from Cells.of hC3 0 _ (by simp)) rfl ?_)
    refine WL.c rfl (o_call Try.call47 (lc rfl ln) ((right_spec f fv _).mono ?_))
    rintro v11 w11 ⟨rfl, hx11⟩
    replace hxq := hxq.tr hx11
    replace h := h.ext hx11
    replace hC3 := hx11.blk hC3 (fun h => h)
    replace hcs := hcs.only hx11 (fun h => h)
    refine WL.c rfl (o_not' rfl ?_)
    refine WL.nil ?_
    refine W.cond rfl (fun c12 => ?_) (fun c12 => ?_)
    · try simp only [decide_eq_true_eq, decide_eq_false_iff_not, Bool.not_eq_true', Bool.not_eq_false', Bool.and_eq_true, Bool.or_eq_true, Bool.and_eq_false_iff, Bool.or_eq_false_iff] at c12
      refine W.seq ?_
      refine W.region ?_
      refine WL.c rfl (o_as ?_)
      refine WL.nil ?_
      refine W.ret ?_
      refine ret1v rfl (show _ = Value.int _ _ from rfl) ?_
      have hp : goR L f = (3, L) := by rw [goR, if_neg (by omega), if_neg (by simp_all)]
      rw [hp]
      exact ⟨rfl, _, V, Turn.same h00 hxq⟩
    · try simp only [decide_eq_true_eq, decide_eq_false_iff_not, Bool.not_eq_true', Bool.not_eq_false', Bool.and_eq_true, Bool.or_eq_true, Bool.and_eq_false_iff, Bool.or_eq_false_iff] at c12
      refine W.skip ?_
      refine W.seq ?_
      refine W.region ?_
      refine WL.c rfl (o_mv ?_)
      refine WL.c rfl (o_nil rfl ?_)
      refine WL.c rfl (o_fa 6 TI39 rfl TI37 rfl rfl ?_)
      refine WL.c rfl (o_ld TI37 rfl rfl (hcs 6 _ rfl) ?_)
      refine WL.c rfl (o_fa 6 TI39 rfl TI37 rfl rfl ?_)
      refine WL.u (o_stB TI37 rfl (show _ = tv from rfl) (by rw [htv]; exact own_one (h.rows.tabs.row (L.length - 1) (by omega))) hC3 (show 6 < 7 by decide) ?_)
      intro w17 hB17 ho17 hs17
      replace hB17 : w17.heap[w0.heap.size]? = some (.cells (fcells f tv).toArray 39 (0, 0)) := hB17
      replace h := h.only ho17 (fun k hk he => by subst he; have := (h00.lt _ hk).2; omega)
      have hx17 : Ext w0 w17 := hxq.trans' ho17 (fun _ h => h) (fun j hj he => by omega)
      refine WL.nil ?_
      refine W.seq ?_
      refine W.region ?_
      refine WL.c rfl (o_mv ?_)
      refine WL.c rfl (o_ldA TI39 rfl rfl (show Cells w17 w0.heap.size 0 (fcells f tv) from Cells.of hB17 0 _ (by simp)) rfl ?_)
      refine WL.c rfl (o_nil rfl ?_)
      refine WL.u (o_stRA TI39 rfl rfl (show _ = Value.agg (fcells f tv).toArray from rfl) rfl (fcells_one (by rw [htv]; exact own_one (h.rows.tabs.row (L.length - 1) (by omega)))) h.rows.row hb (show L.length - 1 < L.length by omega) ?_)
      intro w16 hr16 ho16 hs16
      have htabs := h.rows.tabs.only ho16 (fun j hj => own_row_off h.rows.row (h.rows.tabs.row j hj) (by decide))
      have hrow16 := Rows.put (f := { f with tab := T.tab }) (tv := tv) (k := L.length - 1) (by omega) hr16 (htabs.congr (fun j _ => ite_at V htv) (fun j _ => ite_at (fun j => (tabl L j).length) (by rw [hT])) (fun j _ => ite_at (fun j => ints (tabl L j)) (by rw [hT])))
      refine WL.nil ?_
      refine W.seq ?_
      refine W.region ?_
      refine WL.c rfl (o_as ?_)
      refine WL.nil ?_
      refine W.ret ?_
      refine ret1v rfl (show _ = Value.int _ _ from rfl) ?_
      have hp : goR L f = (0, L.set (L.length - 1) { f with tab := T.tab }) := by rw [goR, if_neg (by omega), if_pos c12, topF, ← hT]
      rw [hp]
      refine ⟨rfl, _, _, ⟨ho16.blk h.cell (fun hk => h.p_off (.inl hk)), hrow16, h.lo, h.mb, by rw [List.length_set]; exact h.len, tl_set h.tl (by have := h.tl (L.length - 1) (by omega); rw [tabl, ← hT] at this; exact this)⟩, hx17.trans' ho16 (fun _ hF => hF.elim) (fun k _ hk => .inr (.inl hk)), fun k hk => ?_⟩
      rw [List.length_set] at hk
      exact ite_SF (B := w0.heap.size) (m := L.length - 1) (q := L.length) (Nat.le_refl _) (.inl rfl) (fun k hk => .inr ⟨L.length - 1, by omega, by rw [← htv]; exact hk⟩) (Nat.le_refl _) (.inl hk)
end Go.Proofs.Ytdiaeafjjffjmaa
