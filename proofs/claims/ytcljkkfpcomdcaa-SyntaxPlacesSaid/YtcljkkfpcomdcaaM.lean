/-
  Walks. Written by program out of specs of mine.
-/
import Derived.Test.YtcljkkfpcomdcaaL
set_option linter.unusedSimpArgs false
set_option linter.unusedVariables false
set_option maxRecDepth 100000
namespace Go.Proofs.Ytcljkkfpcomdcaa
open Go Go.Vc Go.RowKit Go.Proofs

theorem drop_eq {A B : List Df} {k : Nat} (ha : k < A.length) (hb : k < B.length) : A.drop k = B.drop k ↔ A[k].name = B[k].name ∧ A[k].at_ = B[k].at_ ∧ A[k].ty = B[k].ty ∧ A.drop (k + 1) = B.drop (k + 1) := by
  rw [← List.getElem_cons_drop ha, ← List.getElem_cons_drop hb, List.cons.injEq]
  constructor
  · rintro ⟨h1, h2⟩; rw [h1]; exact ⟨rfl, rfl, rfl, h2⟩
  · rintro ⟨h1, h2, h3, h4⟩
    refine ⟨?_, h4⟩
    cases hA : A[k]; cases hB : B[k]
    rw [hA, hB] at h1 h2 h3
    simp only at h1 h2 h3
    rw [h1, h2, h3]
theorem drop_eqE {A B : List Ex} {k : Nat} (ha : k < A.length) (hb : k < B.length) : A.drop k = B.drop k ↔ A[k] = B[k] ∧ A.drop (k + 1) = B.drop (k + 1) := by
  rw [← List.getElem_cons_drop ha, ← List.getElem_cons_drop hb, List.cons.injEq]
theorem ex_ext {a b : Ex} (h1 : a.kind = b.kind) (h2 : a.n = b.n) (h3 : a.name = b.name) (h4 : a.label = b.label) (h5 : a.tag = b.tag) (h6 : a.kids = b.kids) (h7 : a.at_ = b.at_) : a = b := by
  cases a; cases b; simp_all
theorem dec_iff {p q : Prop} [Decidable p] [Decidable q] (h : p ↔ q) : decide p = decide q := decide_eq_decide.2 h
theorem tyD_at {D : List Df} {k : Nat} (hk : k < D.length) : tyD D k = D[k].ty := by simp [tyD, List.getD_eq_getElem?_getD, hk]
theorem getD_at {D : List Df} {k : Nat} (hk : k < D.length) : D.getD k df0 = D[k] := by simp [List.getD_eq_getElem?_getD, hk]
theorem DefR.atk {w : World} {D : List Df} {dv : Value} {V : Nat → Value} (h : DefR w D dv V) {k : Nat} (hk : k < D.length) : ∃ b o c, dv = .slice (some ⟨b, o, none⟩) D.length c ∧ Cells w b (o + k * 3) (dcell D[k] (V k)) ∧ Sl w 7 (V k) D[k].ty.length (exs D[k].ty) := by
  obtain ⟨b, o, c, h1, h2⟩ := h.at hk
  have h3 := h.tys k hk
  rw [getD_at hk] at h2
  rw [tyD_at hk] at h3
  exact ⟨b, o, c, h1, h2, h3⟩

set_option maxHeartbeats 2000000 in
theorem same_spec (A B : List Df) (dv1 dv2 : Value) (V1 V2 : Nat → Value) (w0 : World) (hA : DefR w0 A dv1 V1) (hB : DefR w0 B dv2 V2) (hAl : A.length ≤ 4611686018427387904) (hAt : ∀ d ∈ A, d.ty.length ≤ 4611686018427387904) : Ca Try.prog 20 #[.agg #[dv1], .agg #[dv2], .bool true] w0 (fun v w' => v = .bool (decide (A = B)) ∧ Ext w0 w') := by
  refine Ca.of Try.func20 Try.ntmps20 rfl rfl ?_
  refine W.seq ?_
  refine W.region ?_
  refine WL.c rfl (o_boxB rfl ?_)
  intro w3 hC3 hx3 hs3
  have hx := hx3
  replace hC3 : w3.heap[w0.heap.size]? = some (.cells #[dv1] 28 (0, 0)) := hC3
  obtain ⟨c3, hc3⟩ : ∃ c, c = w0.heap.size := ⟨_, rfl⟩
  rw [← hc3] at hC3 ⊢
  replace hA := hA.ext hx3
  replace hB := hB.ext hx3
  refine WL.c rfl (o_boxB rfl ?_)
  intro w4 hC4 hx4 hs4
  replace hx := hx.tr hx4
  replace hC4 : w4.heap[w3.heap.size]? = some (.cells #[dv2] 28 (0, 0)) := hC4
  obtain ⟨c4, hc4⟩ : ∃ c, c = w3.heap.size := ⟨_, rfl⟩
  rw [← hc4] at hC4 ⊢
  replace hA := hA.ext hx4
  replace hB := hB.ext hx4
  replace hC3 := hx4.blk hC3 (fun h => h)
  refine WL.c rfl (o_ash (show _ = Value.bool _ from rfl) ?_)
  refine WL.nil ?_
  refine W.seq ?_
  refine W.seq ?_
  refine W.region ?_
  refine WL.c rfl (o_fa 0 TI28 rfl TI26 rfl rfl ?_)
  refine WL.c rfl (o_ld TI26 rfl rfl (cell_of hC3 rfl) ?_)
  refine WL.c rfl (o_lenR TI26 rfl hA.row ?_)
  refine WL.c rfl (o_fa 0 TI28 rfl TI26 rfl rfl ?_)
  refine WL.c rfl (o_ld TI26 rfl rfl (cell_of hC4 rfl) ?_)
  refine WL.c rfl (o_lenR TI26 rfl hB.row ?_)
  refine WL.c rfl (o_ne rfl rfl ?_)
  refine WL.nil ?_
  refine W.cond rfl (fun c19 => ?_) (fun c19 => ?_)
  · try simp only [decide_eq_true_eq, decide_eq_false_iff_not, Bool.not_eq_true', Bool.not_eq_false', Bool.and_eq_true, Bool.or_eq_true, Bool.and_eq_false_iff, Bool.or_eq_false_iff] at c19
    have hn : ¬ A.length = B.length := by omega
    refine W.seq ?_
    refine W.region ?_
    refine WL.c rfl (o_ash (show _ = Value.bool _ from rfl) ?_)
    refine WL.nil ?_
    refine W.ret ?_
    refine ret1v rfl (show _ = Value.bool _ from rfl) ?_
    exact ⟨congrArg Value.bool (decide_eq_false (fun h => hn (by rw [h]))).symm, hx⟩
  · try simp only [decide_eq_true_eq, decide_eq_false_iff_not, Bool.not_eq_true', Bool.not_eq_false', Bool.and_eq_true, Bool.or_eq_true, Bool.and_eq_false_iff, Bool.or_eq_false_iff] at c19
    have hn : A.length = B.length := by omega
    refine W.skip ?_
    refine W.seq ?_
    refine W.seq ?_
    refine W.region ?_
    refine WL.c rfl (o_ash (show _ = Value.int _ _ from rfl) ?_)
    refine WL.nil ?_
    refine W.block ?_
    refine W.loop (fun e w => ∃ k : Nat, k ≤ A.length ∧ e 2 = .bool true ∧ e 3 = .pointer (some ⟨c3, 0, none⟩) ∧ e 4 = .pointer (some ⟨c4, 0, none⟩) ∧ e 7 = .int .i64 (k : Int) ∧ w.heap[c3]? = some (.cells #[dv1] 28 (0, 0)) ∧ w.heap[c4]? = some (.cells #[dv2] 28 (0, 0)) ∧ DefR w A dv1 V1 ∧ DefR w B dv2 V2 ∧ decide (A = B) = decide (A.drop k = B.drop k) ∧ Ext w0 w) (fun e w => A.length - (intOf (e 7)).toNat) ?_ ?_
    · exact ⟨0, Nat.zero_le _, rfl, rfl, rfl, rfl, hC3, hC4, hA, hB, rfl, hx⟩
    rintro e w ⟨k, hk, h2, h3, h4, h7, hC3, hC4, hA, hB, hres, hx⟩
    have hm7 := h7
    refine W.seq ?_
    refine W.seq ?_
    refine W.region ?_
    refine WL.c rfl (o_mvh h7 ?_)
    refine WL.c rfl (o_fa 0 TI28 rfl TI26 rfl h3 ?_)
    refine WL.c rfl (o_ld TI26 rfl rfl (cell_of hC3 rfl) ?_)
    refine WL.c rfl (o_lenR TI26 rfl hA.row ?_)
    refine WL.c rfl (o_lt rfl rfl ?_)
    refine WL.nil ?_
    refine W.cond rfl (fun c24 => ?_) (fun c24 => ?_)
    · try simp only [decide_eq_true_eq, decide_eq_false_iff_not, Bool.not_eq_true', Bool.not_eq_false', Bool.and_eq_true, Bool.or_eq_true, Bool.and_eq_false_iff, Bool.or_eq_false_iff] at c24
      have hk1 : k < A.length := by omega
      have hk2 : k < B.length := by omega
      have hAk := hAt _ (List.getElem_mem hk1)
      obtain ⟨tb, to_, tc, rfl, htc, hty⟩ := hA.atk hk1
      obtain ⟨tb2, to2, tc2, rfl, htc2, hty2⟩ := hB.atk hk2
      have hde := drop_eq hk1 hk2
      refine W.skip ?_
      refine W.seq ?_
      refine W.block ?_
      refine W.seq ?_
      refine W.region ?_
      refine WL.c rfl (o_fa 0 TI28 rfl TI26 rfl h3 ?_)
      refine WL.c rfl (o_ld TI26 rfl rfl (cell_of hC3 rfl) ?_)
      refine WL.c rfl (o_mvh h7 ?_)
      refine WL.c rfl (o_ixB TI26 TI40 rfl rfl (by omega) ?_)
      refine WL.c rfl (o_ldA TI40 rfl rfl htc rfl ?_)
      refine WL.c rfl (o_alB TI40 ?_)
      intro wa hCa hxa hsa
      refine WL.u (o_stA TI40 rfl (show _ = Value.agg (dcell A[k] (V1 k)).toArray from rfl) rfl (by simp only [dcell, List.toArray, Array.toList, List.all_cons, List.all_nil, sl_one1 hty]; rfl) hCa rfl ?_)
      intro wb8 hC8 hob hsb
      have hxb := Ext.own hxa (Nat.le_refl _) hob
      clear hCa hxa hsa hob hsb
      replace hC3 := hxb.blk hC3 (fun h => h)
      replace hC4 := hxb.blk hC4 (fun h => h)
      replace hA := hA.ext hxb
      replace hB := hB.ext hxb
      replace hty := hty.ext hxb
      replace hty2 := hty2.ext hxb
      replace hx := hx.tr hxb
      replace htc2 := Cells.only htc2 hxb (fun h => h)
      obtain ⟨c8, hc8⟩ : ∃ c, c = w.heap.size := ⟨_, rfl⟩
      rw [← hc8] at hC8 ⊢
      clear hxb
      refine WL.nil ?_
      refine W.seq ?_
      refine W.region ?_
      refine WL.c rfl (o_fa 0 TI28 rfl TI26 rfl h4 ?_)
      refine WL.c rfl (o_ld TI26 rfl rfl (cell_of hC4 rfl) ?_)
      refine WL.c rfl (o_mvh h7 ?_)
      refine WL.c rfl (o_ixB TI26 TI40 rfl rfl (by omega) ?_)
      refine WL.c rfl (o_ldA TI40 rfl rfl htc2 rfl ?_)
      refine WL.c rfl (o_alB TI40 ?_)
      intro wa hCa hxa hsa
      refine WL.u (o_stA TI40 rfl (show _ = Value.agg (dcell B[k] (V2 k)).toArray from rfl) rfl (by simp only [dcell, List.toArray, Array.toList, List.all_cons, List.all_nil, sl_one1 hty2]; rfl) hCa rfl ?_)
      intro wb9 hC9 hob hsb
      have hxb := Ext.own hxa (Nat.le_refl _) hob
      clear hCa hxa hsa hob hsb
      replace hC3 := hxb.blk hC3 (fun h => h)
      replace hC4 := hxb.blk hC4 (fun h => h)
      replace hC8 := hxb.blk hC8 (fun h => h)
      replace hA := hA.ext hxb
      replace hB := hB.ext hxb
      replace hty := hty.ext hxb
      replace hty2 := hty2.ext hxb
      replace hx := hx.tr hxb
      obtain ⟨c9, hc9⟩ : ∃ c, c = wb8.heap.size := ⟨_, rfl⟩
      rw [← hc9] at hC9 ⊢
      clear hxb
      refine WL.nil ?_
      refine W.seq ?_
      refine W.seq ?_
      refine W.region ?_
      refine WL.cut (fun e1 w1 => e1 2 = .bool true ∧ e1 3 = .pointer (some ⟨c3, 0, none⟩) ∧ e1 4 = .pointer (some ⟨c4, 0, none⟩) ∧ e1 7 = .int .i64 (k : Int) ∧ e1 8 = .pointer (some ⟨c8, 0, none⟩) ∧ e1 9 = .pointer (some ⟨c9, 0, none⟩) ∧ e1 60 = .bool (!(decide (A[k].name = B[k].name) && decide (A[k].at_ = B[k].at_) && decide (A[k].ty.length = B[k].ty.length))) ∧ w1 = wb9) ?_ ?_
      · -- region 8
        refine WL.c rfl (o_fa 0 TI40 rfl TI9 rfl rfl ?_)
        refine WL.c rfl (o_ld TI9 rfl rfl (cell_of hC8 rfl) ?_)
        refine WL.c rfl (o_fa 0 TI40 rfl TI9 rfl rfl ?_)
        refine WL.c rfl (o_ld TI9 rfl rfl (cell_of hC9 rfl) ?_)
        refine WL.c rfl (o_neT rfl rfl ?_)
        refine WL.c rfl (o_mvh (show _ = Value.bool _ from rfl) ?_)
        refine WL.sp 5 rfl (fun g42 => ?_) (fun g42 => ?_)
        · skip
          refine WL.s rfl (g42) rfl ?_
          refine WL.s rfl (g42) rfl ?_
          refine WL.z rfl rfl ?_
          refine WL.z rfl rfl ?_
          refine WL.z rfl rfl ?_
          refine WL.z rfl rfl ?_
          refine WL.z rfl rfl ?_
          refine WL.s rfl (g42) rfl ?_
          refine WL.c rfl (o_pickT rfl (g42) ?_)
          refine WL.c rfl (o_mvh (show _ = Value.bool _ from rfl) ?_)
          refine WL.s rfl (rfl) rfl ?_
          refine WL.s rfl (rfl) rfl ?_
          refine WL.s rfl (rfl) rfl ?_
          refine WL.s rfl (rfl) rfl ?_
          refine WL.s rfl (rfl) rfl ?_
          refine WL.s rfl (rfl) rfl ?_
          refine WL.s rfl (rfl) rfl ?_
          refine WL.c rfl (o_pickT rfl (rfl) ?_)
          exact WL.nil (⟨h2, h3, h4, h7, rfl, rfl, congrArg Value.bool (by clear hde hres; (try rw [show decide ((A[k].ty.length : Int) = (B[k].ty.length : Int)) = decide (A[k].ty.length = B[k].ty.length) from dec_iff (by omega)]); generalize decide (A[k].name = B[k].name) = x at *; generalize decide (A[k].at_ = B[k].at_) = y at *; first | (revert g42 g52; cases x <;> cases y <;> simp; done) | (revert g42; cases x <;> cases y <;> simp; done)), rfl⟩)
        · skip
          refine WL.g rfl (g42) rfl (o_mvh h2 ?_)
          refine WL.g rfl (g42) rfl (o_mvh (show _ = Value.bool _ from rfl) ?_)
          refine WL.g rfl (rfl) rfl (o_fa 1 TI40 rfl TI3 rfl rfl ?_)
          refine WL.g rfl (rfl) rfl (o_ld TI3 rfl rfl (cell_of hC8 rfl) ?_)
          refine WL.g rfl (rfl) rfl (o_fa 1 TI40 rfl TI3 rfl rfl ?_)
          refine WL.g rfl (rfl) rfl (o_ld TI3 rfl rfl (cell_of hC9 rfl) ?_)
          refine WL.g rfl (rfl) rfl (o_ne rfl rfl ?_)
          refine WL.g rfl (g42) rfl (o_pickA rfl rfl ?_)
          refine WL.c rfl (o_pickO rfl rfl ?_)
          refine WL.c rfl (o_mvh (show _ = Value.bool _ from rfl) ?_)
          refine WL.sp 15 rfl (fun g52 => ?_) (fun g52 => ?_)
          · skip
            refine WL.s rfl (g52) rfl ?_
            refine WL.s rfl (g52) rfl ?_
            refine WL.s rfl (g52) rfl ?_
            refine WL.s rfl (g52) rfl ?_
            refine WL.s rfl (g52) rfl ?_
            refine WL.s rfl (g52) rfl ?_
            refine WL.s rfl (g52) rfl ?_
            refine WL.c rfl (o_pickT rfl (g52) ?_)
            exact WL.nil (⟨h2, h3, h4, h7, rfl, rfl, congrArg Value.bool (by clear hde hres; (try rw [show decide ((A[k].ty.length : Int) = (B[k].ty.length : Int)) = decide (A[k].ty.length = B[k].ty.length) from dec_iff (by omega)]); generalize decide (A[k].name = B[k].name) = x at *; generalize decide (A[k].at_ = B[k].at_) = y at *; first | (revert g42 g52; cases x <;> cases y <;> simp; done) | (revert g42; cases x <;> cases y <;> simp; done)), rfl⟩)
          · skip
            refine WL.g rfl (g52) rfl (o_fa 2 TI40 rfl TI38 rfl rfl ?_)
            refine WL.g rfl (g52) rfl (o_ld TI38 rfl rfl (cell_of hC8 rfl) ?_)
            refine WL.g rfl (g52) rfl (o_lenR TI38 rfl hty ?_)
            refine WL.g rfl (g52) rfl (o_fa 2 TI40 rfl TI38 rfl rfl ?_)
            refine WL.g rfl (g52) rfl (o_ld TI38 rfl rfl (cell_of hC9 rfl) ?_)
            refine WL.g rfl (g52) rfl (o_lenR TI38 rfl hty2 ?_)
            refine WL.g rfl (g52) rfl (o_ne rfl rfl ?_)
            refine WL.c rfl (o_pickO rfl rfl ?_)
            exact WL.nil (⟨h2, h3, h4, h7, rfl, rfl, congrArg Value.bool (by clear hde hres; (try rw [show decide ((A[k].ty.length : Int) = (B[k].ty.length : Int)) = decide (A[k].ty.length = B[k].ty.length) from dec_iff (by omega)]); generalize decide (A[k].name = B[k].name) = x at *; generalize decide (A[k].at_ = B[k].at_) = y at *; first | (revert g42 g52; cases x <;> cases y <;> simp; done) | (revert g42; cases x <;> cases y <;> simp; done)), rfl⟩)
      rintro e w ⟨h2, h3, h4, h7, h8, h9, h60, rfl⟩
      refine W.cond h60 (fun c60 => ?_) (fun c60 => ?_)
      · try simp only [decide_eq_true_eq, decide_eq_false_iff_not, Bool.not_eq_true', Bool.not_eq_false', Bool.and_eq_true, Bool.or_eq_true, Bool.and_eq_false_iff, Bool.or_eq_false_iff] at c60
        refine W.seq ?_
        refine W.region ?_
        refine WL.c rfl (o_ash (show _ = Value.bool _ from rfl) ?_)
        refine WL.nil ?_
        refine W.ret ?_
        refine ret1v rfl (show _ = Value.bool _ from rfl) ?_
        exact ⟨congrArg Value.bool (by rw [hres]; exact (decide_eq_false (fun h => by obtain ⟨a1, a2, a3, -⟩ := hde.1 h; simp [a1, a2, a3] at c60)).symm), hx⟩
      · try simp only [decide_eq_true_eq, decide_eq_false_iff_not, Bool.not_eq_true', Bool.not_eq_false', Bool.and_eq_true, Bool.or_eq_true, Bool.and_eq_false_iff, Bool.or_eq_false_iff] at c60
        have hq : A[k].name = B[k].name ∧ A[k].at_ = B[k].at_ ∧ A[k].ty.length = B[k].ty.length := by simpa [and_assoc] using c60
        obtain ⟨q1, q2, q3⟩ := hq
        have hres2 : decide (A = B) = decide (A[k].ty.drop 0 = B[k].ty.drop 0 ∧ A.drop (k + 1) = B.drop (k + 1)) := by rw [hres]; exact dec_iff (hde.trans (by simp [q1, q2]))
        refine W.skip ?_
        refine W.seq ?_
        refine W.region ?_
        refine WL.c rfl (o_ash (show _ = Value.int _ _ from rfl) ?_)
        refine WL.nil ?_
        refine W.block ?_
        refine W.loop (fun e w => ∃ j : Nat, j ≤ A[k].ty.length ∧ e 2 = .bool true ∧ e 3 = .pointer (some ⟨c3, 0, none⟩) ∧ e 4 = .pointer (some ⟨c4, 0, none⟩) ∧ e 7 = .int .i64 (k : Int) ∧ e 8 = .pointer (some ⟨c8, 0, none⟩) ∧ e 9 = .pointer (some ⟨c9, 0, none⟩) ∧ e 10 = .int .i64 (j : Int) ∧ w.heap[c3]? = some (.cells #[Value.slice (some ⟨tb, to_, none⟩) A.length tc] 28 (0, 0)) ∧ w.heap[c4]? = some (.cells #[Value.slice (some ⟨tb2, to2, none⟩) B.length tc2] 28 (0, 0)) ∧ w.heap[c8]? = some (.cells (dcell A[k] (V1 k)).toArray 40 (0, 0)) ∧ w.heap[c9]? = some (.cells (dcell B[k] (V2 k)).toArray 40 (0, 0)) ∧ DefR w A (Value.slice (some ⟨tb, to_, none⟩) A.length tc) V1 ∧ DefR w B (Value.slice (some ⟨tb2, to2, none⟩) B.length tc2) V2 ∧ Sl w 7 (V1 k) A[k].ty.length (exs A[k].ty) ∧ Sl w 7 (V2 k) B[k].ty.length (exs B[k].ty) ∧ decide (A = B) = decide (A[k].ty.drop j = B[k].ty.drop j ∧ A.drop (k + 1) = B.drop (k + 1)) ∧ Ext w0 w) (fun e w => A[k].ty.length - (intOf (e 10)).toNat) ?_ ?_
        · exact ⟨0, Nat.zero_le _, h2, h3, h4, h7, h8, h9, rfl, hC3, hC4, hC8, hC9, hA, hB, hty, hty2, hres2, hx⟩
        rintro e w ⟨j, hj, h2, h3, h4, h7, h8, h9, h10, hC3, hC4, hC8, hC9, hA, hB, hty, hty2, hres2, hx⟩
        have hm10 := h10
        refine W.seq ?_
        refine W.seq ?_
        refine W.region ?_
        refine WL.c rfl (o_mvh h10 ?_)
        refine WL.c rfl (o_fa 2 TI40 rfl TI38 rfl h8 ?_)
        refine WL.c rfl (o_ld TI38 rfl rfl (cell_of hC8 rfl) ?_)
        refine WL.c rfl (o_lenR TI38 rfl hty ?_)
        refine WL.c rfl (o_lt rfl rfl ?_)
        refine WL.nil ?_
        refine W.cond rfl (fun c65 => ?_) (fun c65 => ?_)
        · try simp only [decide_eq_true_eq, decide_eq_false_iff_not, Bool.not_eq_true', Bool.not_eq_false', Bool.and_eq_true, Bool.or_eq_true, Bool.and_eq_false_iff, Bool.or_eq_false_iff] at c65
          have hj1 : j < A[k].ty.length := by omega
          have hj2 : j < B[k].ty.length := by omega
          have hdj := drop_eqE hj1 hj2
          obtain ⟨ub, uo, uc, hV1, huc⟩ := Sl.exq hty hj1
          obtain ⟨ub2, uo2, uc2, hV2, huc2⟩ := Sl.exq hty2 hj2
          refine W.skip ?_
          refine W.seq ?_
          refine W.block ?_
          refine W.seq ?_
          refine W.region ?_
          refine WL.c rfl (o_fa 2 TI40 rfl TI38 rfl h8 ?_)
          refine WL.c rfl (o_ld TI38 rfl rfl (cell_of hC8 rfl) ?_)
          refine WL.c rfl (o_mvh h10 ?_)
          refine WL.c rfl (o_ixB (i := j) TI38 TI30 (show _ = _ from hV1) rfl (by omega) ?_)
          refine WL.c rfl (o_ldA TI30 rfl rfl huc rfl ?_)
          refine WL.c rfl (o_alB TI30 ?_)
          intro wa hCa hxa hsa
          refine WL.u (o_stA TI30 rfl (show _ = Value.agg (exV A[k].ty[j]).toArray from rfl) rfl rfl hCa rfl ?_)
          intro wb11 hC11 hob hsb
          have hxb := Ext.own hxa (Nat.le_refl _) hob
          clear hCa hxa hsa hob hsb
          replace hC3 := hxb.blk hC3 (fun h => h)
          replace hC4 := hxb.blk hC4 (fun h => h)
          replace hC8 := hxb.blk hC8 (fun h => h)
          replace hC9 := hxb.blk hC9 (fun h => h)
          replace hA := hA.ext hxb
          replace hB := hB.ext hxb
          replace hty := hty.ext hxb
          replace hty2 := hty2.ext hxb
          replace hx := hx.tr hxb
          replace huc2 := Cells.only huc2 hxb (fun h => h)
          obtain ⟨c11, hc11⟩ : ∃ c, c = w.heap.size := ⟨_, rfl⟩
          rw [← hc11] at hC11 ⊢
          clear hxb
          refine WL.nil ?_
          refine W.seq ?_
          refine W.region ?_
          refine WL.c rfl (o_fa 2 TI40 rfl TI38 rfl h9 ?_)
          refine WL.c rfl (o_ld TI38 rfl rfl (cell_of hC9 rfl) ?_)
          refine WL.c rfl (o_mvh h10 ?_)
          refine WL.c rfl (o_ixB (i := j) TI38 TI30 (show _ = _ from hV2) rfl (by omega) ?_)
          refine WL.c rfl (o_ldA TI30 rfl rfl huc2 rfl ?_)
          refine WL.c rfl (o_alB TI30 ?_)
          intro wa hCa hxa hsa
          refine WL.u (o_stA TI30 rfl (show _ = Value.agg (exV B[k].ty[j]).toArray from rfl) rfl rfl hCa rfl ?_)
          intro wb12 hC12 hob hsb
          have hxb := Ext.own hxa (Nat.le_refl _) hob
          clear hCa hxa hsa hob hsb
          replace hC3 := hxb.blk hC3 (fun h => h)
          replace hC4 := hxb.blk hC4 (fun h => h)
          replace hC8 := hxb.blk hC8 (fun h => h)
          replace hC9 := hxb.blk hC9 (fun h => h)
          replace hC11 := hxb.blk hC11 (fun h => h)
          replace hA := hA.ext hxb
          replace hB := hB.ext hxb
          replace hty := hty.ext hxb
          replace hty2 := hty2.ext hxb
          replace hx := hx.tr hxb
          obtain ⟨c12, hc12⟩ : ∃ c, c = wb11.heap.size := ⟨_, rfl⟩
          rw [← hc12] at hC12 ⊢
          clear hxb
          refine WL.nil ?_
          refine W.seq ?_
          refine W.seq ?_
          refine W.region ?_
          refine WL.c rfl (o_mvh h2 ?_)
          refine WL.c rfl (o_not' rfl ?_)
          refine WL.nil ?_
          refine W.condF' rfl (rfl) ?_
          refine W.skip ?_
          refine W.seq ?_
          refine W.region ?_
          refine WL.c rfl (o_ldA TI30 rfl rfl (show Cells _ c11 0 (exV A[k].ty[j]) from Cells.of hC11 0 _ (by simp)) rfl ?_)
          refine WL.c rfl (o_ldA TI30 rfl rfl (show Cells _ c12 0 (exV B[k].ty[j]) from Cells.of hC12 0 _ (by simp)) rfl ?_)
          refine WL.c rfl (o_neR TI30 (by kernel_rfl) (by kernel_rfl) rfl rfl (.int TI3 (by decide) rfl rfl (.int TI3 (by decide) rfl rfl (.str TI9 (by decide) rfl rfl (.str TI9 (by decide) rfl rfl (.int TI3 (by decide) rfl rfl (.int TI3 (by decide) rfl rfl (.int TI3 (by decide) rfl rfl .nil))))))) ?_)
          refine WL.nil ?_
          refine W.cond rfl (fun c84 => ?_) (fun c84 => ?_)
          · try simp only [decide_eq_true_eq, decide_eq_false_iff_not, Bool.not_eq_true', Bool.not_eq_false', Bool.and_eq_true, Bool.or_eq_true, Bool.and_eq_false_iff, Bool.or_eq_false_iff] at c84
            refine W.seq ?_
            refine W.region ?_
            refine WL.c rfl (o_ash (show _ = Value.bool _ from rfl) ?_)
            refine WL.nil ?_
            refine W.ret ?_
            refine ret1v rfl (show _ = Value.bool _ from rfl) ?_
            exact ⟨congrArg Value.bool (by rw [hres2]; exact (decide_eq_false (fun h => by have he := (hdj.1 h.1).1; simp [he] at c84)).symm), hx⟩
          · try simp only [decide_eq_true_eq, decide_eq_false_iff_not, Bool.not_eq_true', Bool.not_eq_false', Bool.and_eq_true, Bool.or_eq_true, Bool.and_eq_false_iff, Bool.or_eq_false_iff] at c84
            have heq : A[k].ty[j] = B[k].ty[j] := by simp at c84; obtain ⟨a1, a2, a3, a4, a5, a6, a7⟩ := c84; exact ex_ext a1 a2 a3 a4 a5 a6 a7
            refine W.skip ?_
            refine W.region ?_
            refine WL.c rfl (o_mvh h10 ?_)
            refine WL.c rfl (o_addi rfl rfl (by omega) ?_)
            refine WL.c rfl (o_ash (show _ = Value.int _ _ from rfl) ?_)
            refine WL.nil ?_
            refine ⟨⟨j + 1, by omega, h2, h3, h4, h7, h8, h9, rfl, hC3, hC4, hC8, hC9, hA, hB, hty, hty2, ?_, hx⟩, ?_⟩
            · rw [hres2]; exact dec_iff (by rw [hdj, and_assoc]; exact ⟨fun h => h.2, fun h => ⟨heq, h⟩⟩)
            · show A[k].ty.length - ((j : Int) + 1).toNat < _
              rw [hm10]; simp [intOf]; omega
        · try simp only [decide_eq_true_eq, decide_eq_false_iff_not, Bool.not_eq_true', Bool.not_eq_false', Bool.and_eq_true, Bool.or_eq_true, Bool.and_eq_false_iff, Bool.or_eq_false_iff] at c65
          have hj1 : j = A[k].ty.length := by omega
          have hjl : A[k].ty.drop j = [] := by rw [hj1, List.drop_length]
          have hjl2 : B[k].ty.drop j = [] := by rw [hj1, q3, List.drop_length]
          refine W.exit ?_
          refine W.region ?_
          refine WL.c rfl (o_mvh h7 ?_)
          refine WL.c rfl (o_addi rfl rfl (by omega) ?_)
          refine WL.c rfl (o_ash (show _ = Value.int _ _ from rfl) ?_)
          refine WL.nil ?_
          refine ⟨⟨k + 1, by omega, h2, h3, h4, rfl, hC3, hC4, hA, hB, ?_, hx⟩, ?_⟩
          · rw [hres2]; exact dec_iff (by rw [hjl, hjl2]; simp)
          · show A.length - ((k : Int) + 1).toNat < _
            rw [hm7]; simp [intOf]; omega
    · try simp only [decide_eq_true_eq, decide_eq_false_iff_not, Bool.not_eq_true', Bool.not_eq_false', Bool.and_eq_true, Bool.or_eq_true, Bool.and_eq_false_iff, Bool.or_eq_false_iff] at c24
      have hk1 : k = A.length := by omega
      rw [hk1, List.drop_length, hn, List.drop_length] at hres
      refine W.exit ?_
      refine W.seq ?_
      refine W.region ?_
      refine WL.c rfl (o_ash (show _ = Value.bool _ from rfl) ?_)
      refine WL.nil ?_
      refine W.ret ?_
      refine ret1v rfl (show _ = Value.bool _ from rfl) ?_
      exact ⟨congrArg Value.bool (by rw [hres]; simp), hx⟩
end Go.Proofs.Ytcljkkfpcomdcaa
