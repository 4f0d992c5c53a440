/-
  Walks. Written by program out of specs of mine.
-/
import Derived.Test.YtdiaeafjjffjmaaM
set_option linter.unusedSimpArgs false
set_option linter.unusedVariables false
set_option maxRecDepth 100000
namespace Go.Proofs.Ytdiaeafjjffjmaa
open Go Go.Vc Go.RowKit Go.Proofs
theorem cut_spec (f : Fr) (tv : Value) (w0 : World) (hS : In w0 tv f.tab) : Ca Try.prog 38 #[.agg (fcells f tv).toArray] w0 (fun v w' => ∃ u, v = .agg (fcells (cutF f) u).toArray ∧ u.ownBlock = tv.ownBlock ∧ In w' u (cutF f).tab ∧ Ext w0 w') := by
  refine Ca.of Try.func38 Try.ntmps38 rfl rfl ?_
  refine W.seq ?_
  refine W.region ?_
  refine WL.c rfl (o_boxB rfl ?_)
  intro w1 hC1 hx1 hs1
  replace hC1 : w1.heap[w0.heap.size]? = some (.cells (fcells f tv).toArray 39 (0, 0)) := hC1
  replace hS0 := Sl.ext hS hx1
  refine WL.c rfl (o_alB TI39 ?_)
  intro w2 hC2 hx2 hs2
  have hC1b := hx2.blk hC1 (fun h => h)
  replace hS0 := Sl.ext hS0 hx2
  rw [hs1] at hC2 hs2 ⊢
  refine WL.nil ?_
  refine W.seq ?_
  refine W.seq ?_
  refine W.region ?_
  refine WL.c rfl (o_fa 6 TI39 rfl TI37 rfl rfl ?_)
  refine WL.c rfl (o_ld TI37 rfl rfl (cell_of hC1b rfl) ?_)
  refine WL.c rfl (o_lenR TI37 rfl hS0 ?_)
  refine WL.c rfl (o_gt rfl rfl ?_)
  refine WL.nil ?_
  refine W.cut (fun e1 w1 => ∃ u, e1 1 = .pointer (some ⟨w0.heap.size, 0, none⟩) ∧ e1 2 = .pointer (some ⟨(w0.heap.size + 1), 0, none⟩) ∧ u.oneCell' = true ∧ w1.heap[w0.heap.size]? = some (.cells (fcells (cutF f) u).toArray 39 (0, 0)) ∧ w1.heap[(w0.heap.size + 1)]? = some (.cells (fcells Fr.nil (.slice none 0 0)).toArray 39 (0, 0)) ∧ u.ownBlock = tv.ownBlock ∧ In w1 u (cutF f).tab ∧ Ext w0 w1) ?_ ?_
  · -- both ways
    refine W.cond rfl (fun c6 => ?_) (fun c6 => ?_)
    · try simp only [decide_eq_true_eq, decide_eq_false_iff_not, Bool.not_eq_true', Bool.not_eq_false', Bool.and_eq_true, Bool.or_eq_true, Bool.and_eq_false_iff, Bool.or_eq_false_iff] at c6
      have hgt : 300 < f.tab.length := by omega
      refine W.region ?_
      refine WL.c rfl (o_fa 6 TI39 rfl TI37 rfl rfl ?_)
      refine WL.c rfl (o_ld TI37 rfl rfl (cell_of hC1b rfl) ?_)
      refine WL.c rfl (o_sl TI37 TI3 rfl hS0 Lo.n (Hi.s (h := 300) rfl) (by omega) (by omega) ?_)
      intro v9 hb9 hS9
      have hx0 := hx1.tr hx2
      refine WL.c rfl (o_fa 6 TI39 rfl TI37 rfl rfl ?_)
      refine WL.u (o_stB TI37 rfl (show _ = v9 from rfl) (by obtain ⟨a, c, rfl⟩ := hS9.isSlice; rfl) hC1b (show 6 < 7 by decide) ?_)
      intro w10 hB10 ho10 hs10
      replace hB10 : w10.heap[w0.heap.size]? = some (.cells (fcells (cutF f) v9).toArray 39 (0, 0)) := hB10
      have hC2b := ho10.blk hC2 (show ¬ _ = w0.heap.size by omega)
      have hx10 : Ext w0 w10 := hx0.trans' ho10 (fun _ h => h) (fun j hj he => by omega)
      refine WL.nil ?_
      first
        | (have e9 : (List.take ((300 - 0) * 1) (List.drop (0 * 1) (ints f.tab))) = ints (cutF f).tab := by simp [cutF, ints, List.map_take]
           have hl9 : (cutF f).tab.length = 300 := by simp [cutF]; omega
           rw [e9] at hS9
           refine ⟨v9, rfl, rfl, by obtain ⟨a, c, rfl⟩ := hS9.isSlice; rfl, hB10, hC2b, hb9, ?_, hx10⟩
           show Sl w10 1 v9 (cutF f).tab.length _
           rw [hl9]
           exact Sl.only hS9 ho10 (fun b hb he => by rw [hb9] at hb; have := Sl.low hS b hb (Nat.le_of_eq (Eq.symm he)); rw [List.map_eq_nil_iff] at this; rw [this] at hgt; simp at hgt))
        | (have e1 : cutF f = f := by
             have : f.tab.take 300 = f.tab := List.take_of_length_le hle
             rw [cutF, this]
           refine ⟨tv, rfl, rfl, by obtain ⟨a, c, rfl⟩ := hS.isSlice; rfl, by rw [e1]; exact hC1b, hC2, rfl, by rw [e1]; exact hS0, hx1.tr hx2⟩)
    · try simp only [decide_eq_true_eq, decide_eq_false_iff_not, Bool.not_eq_true', Bool.not_eq_false', Bool.and_eq_true, Bool.or_eq_true, Bool.and_eq_false_iff, Bool.or_eq_false_iff] at c6
      have hle : f.tab.length ≤ 300 := by omega
      refine W.skip ?_
      first
        | (have e9 : (List.take ((300 - 0) * 1) (List.drop (0 * 1) (ints f.tab))) = ints (cutF f).tab := by simp [cutF, ints, List.map_take]
           have hl9 : (cutF f).tab.length = 300 := by simp [cutF]; omega
           rw [e9] at hS9
           refine ⟨v9, rfl, rfl, by obtain ⟨a, c, rfl⟩ := hS9.isSlice; rfl, hB10, hC2b, hb9, ?_, hx10⟩
           show Sl w10 1 v9 (cutF f).tab.length _
           rw [hl9]
           exact Sl.only hS9 ho10 (fun b hb he => by rw [hb9] at hb; have := Sl.low hS b hb (Nat.le_of_eq (Eq.symm he)); rw [List.map_eq_nil_iff] at this; rw [this] at hgt; simp at hgt))
        | (have e1 : cutF f = f := by
             have : f.tab.take 300 = f.tab := List.take_of_length_le hle
             rw [cutF, this]
           refine ⟨tv, rfl, rfl, by obtain ⟨a, c, rfl⟩ := hS.isSlice; rfl, by rw [e1]; exact hC1b, hC2, rfl, by rw [e1]; exact hS0, hx1.tr hx2⟩)
  rintro e w ⟨u, h1, h2, hu1, hB, hC2b, hub, hSu, hxx⟩
  refine W.seq ?_
  refine W.region ?_
  refine WL.c rfl (o_ldA TI39 rfl h1 (show Cells w w0.heap.size 0 (fcells (cutF f) u) from Cells.of hB 0 _ (by simp)) rfl ?_)
  refine WL.u (o_stA TI39 h2 (show _ = Value.agg (fcells (cutF f) u).toArray from rfl) rfl (fcells_one hu1) hC2b rfl ?_)
  intro w12 hB12 ho12 hs12
  refine WL.nil ?_
  refine W.ret ?_
  refine retC rfl TI39 rfl h2 (show Cells w12 (w0.heap.size + 1) 0 (fcells (cutF f) u) from Cells.of hB12 0 _ (by simp)) rfl ?_
  exact ⟨u, rfl, hub, Sl.keep hSu ho12 (fun b hb he => by rw [hub] at hb; have := Sl.low hS b hb (show w0.heap.size ≤ b by have : b = w0.heap.size + 1 := he; omega); rw [List.map_eq_nil_iff] at this; simp [cutF, this]), hxx.trans' ho12 (fun _ h => h) (fun j hj he => by have := hx1.size; omega)⟩
end Go.Proofs.Ytdiaeafjjffjmaa
