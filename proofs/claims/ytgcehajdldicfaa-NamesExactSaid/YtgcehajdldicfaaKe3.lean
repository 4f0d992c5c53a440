/-
  Walks and lemmas. Written by program out of specs of mine.
-/
import Derived.WalkKit
import Derived.WalkSpells
import Derived.WalkLawsBesides
import Derived.Deep.Quiet
import Derived.StillTail
import Derived.StringKeys
import Derived.Laws.StructEq
import Derived.Laws.Externs
import Derived.Laws.Tables
import Derived.Scope
import Derived.Test.YtgcehajdldicfaaProg
import Derived.Laws.AppendOwn
import Derived.Maps.AppendAt
import Derived.Recover
import Derived.Lib.Bytealg
import Derived.SizedLaws
import Derived.ChangeArms
import Derived.ChangeSlices
import Derived.Maps.OwnSet
import Derived.Test.YtgcehajdldicfaaRows
import Derived.ProofKit
import Derived.OpenShut
import Derived.ShutString
import Derived.ChangeOld
import Derived.Below
import Derived.Test.YtgcehajdldicfaaKe2
set_option linter.unusedSimpArgs false
set_option linter.unusedVariables false
set_option maxRecDepth 100000
set_option linter.unusedSimpArgs false
set_option linter.unusedVariables false
set_option maxRecDepth 100000
namespace Go.Proofs.Ytgcehajdldicfaa
open Go Go.Vc Go.RowKit Go.Proofs

theorem drop_eq {A B : List Df} {k : Nat} (ha : k < A.length) (hb : k < B.length) : A.drop k = B.drop k ↔ A[k].name = B[k].name ∧ A[k].at_ = B[k].at_ ∧ A[k].ty = B[k].ty ∧ A.drop (k + 1) = B.drop (k + 1) := by
  rw [← List.getElem_cons_drop ha, ← List.getElem_cons_drop hb, List.cons.injEq]
  constructor
  · rintro ⟨h1, h2⟩; rw [h1]; exact ⟨rfl, rfl, rfl, h2⟩
  · rintro ⟨h1, h2, h3, h4⟩
    refine ⟨?_, h4⟩
    cases hA : A[k]; cases hB : B[k]
    rw [hA, hB] at h1 h2 h3
    simp only at h1 h2 h3
    rw [h1, h2, h3]
theorem drop_eqE {A B : List Ex} {k : Nat} (ha : k < A.length) (hb : k < B.length) : A.drop k = B.drop k ↔ A[k] = B[k] ∧ A.drop (k + 1) = B.drop (k + 1) := by
  rw [← List.getElem_cons_drop ha, ← List.getElem_cons_drop hb, List.cons.injEq]
theorem ex_ext {a b : Ex} (h1 : a.kind = b.kind) (h2 : a.n = b.n) (h3 : a.name = b.name) (h4 : a.label = b.label) (h5 : a.tag = b.tag) (h6 : a.kids = b.kids) (h7 : a.at_ = b.at_) : a = b := by
  cases a; cases b; simp_all
theorem dec_iff {p q : Prop} [Decidable p] [Decidable q] (h : p ↔ q) : decide p = decide q := decide_eq_decide.2 h
theorem tyD_at {D : List Df} {k : Nat} (hk : k < D.length) : tyD D k = D[k].ty := by simp [tyD, List.getD_eq_getElem?_getD, hk]
theorem getD_at {D : List Df} {k : Nat} (hk : k < D.length) : D.getD k df0 = D[k] := by simp [List.getD_eq_getElem?_getD, hk]
theorem DefR.atk {w : World} {D : List Df} {dv : Value} {V : Nat → Value} (h : DefR w D dv V) {k : Nat} (hk : k < D.length) : ∃ b o c, dv = .slice (some ⟨b, o, none⟩) D.length c ∧ Cells w b (o + k * 3) (dcell D[k] (V k)) ∧ Sl w 7 (V k) D[k].ty.length (exs D[k].ty) := by
  obtain ⟨b, o, c, h1, h2⟩ := h.at hk
  have h3 := h.tys k hk
  rw [getD_at hk] at h2
  rw [tyD_at hk] at h3
  exact ⟨b, o, c, h1, h2, h3⟩

set_option maxHeartbeats 2000000 in
theorem same_spec (A B : List Df) (dv1 dv2 : Value) (V1 V2 : Nat → Value) (w0 : World) (hA : DefR w0 A dv1 V1) (hB : DefR w0 B dv2 V2) (hAl : A.length ≤ 4611686018427387904) (hAt : ∀ d ∈ A, d.ty.length ≤ 4611686018427387904) : Ca Try.prog 34 #[.agg #[dv1], .agg #[dv2], .bool true] w0 (fun v w' => v = .bool (decide (A = B)) ∧ Ext w0 w') := by
  refine Ca.of Try.func34 Try.ntmps34 rfl rfl ?_
  refine W.seq ?_
  refine W.region ?_
  refine WL.c rfl (o_boxB rfl ?_)
  intro w3 hC3 hx3 hs3
  have hx := hx3
  replace hC3 : w3.heap[w0.heap.size]? = some (.cells #[dv1] 24 (0, 0)) := hC3
  obtain ⟨c3, hc3⟩ : ∃ c, c = w0.heap.size := ⟨_, rfl⟩
  rw [← hc3] at hC3 ⊢
  replace hA := hA.ext hx3
  replace hB := hB.ext hx3
  refine WL.c rfl (o_boxB rfl ?_)
  intro w4 hC4 hx4 hs4
  replace hx := hx.tr hx4
  replace hC4 : w4.heap[w3.heap.size]? = some (.cells #[dv2] 24 (0, 0)) := hC4
  obtain ⟨c4, hc4⟩ : ∃ c, c = w3.heap.size := ⟨_, rfl⟩
  rw [← hc4] at hC4 ⊢
  replace hA := hA.ext hx4
  replace hB := hB.ext hx4
  replace hC3 := hx4.blk hC3 (fun h => h)
  refine WL.c rfl (o_ash (show _ = Value.bool _ from rfl) ?_)
  refine WL.nil ?_
  refine W.seq ?_
  refine W.seq ?_
  refine W.region ?_
  refine WL.c rfl (o_fa 0 TI24 rfl TI22 rfl rfl ?_)
  refine WL.c rfl (o_ld TI22 rfl rfl (cell_of hC3 rfl) ?_)
  refine WL.c rfl (o_lenR TI22 rfl hA.row ?_)
  refine WL.c rfl (o_fa 0 TI24 rfl TI22 rfl rfl ?_)
  refine WL.c rfl (o_ld TI22 rfl rfl (cell_of hC4 rfl) ?_)
  refine WL.c rfl (o_lenR TI22 rfl hB.row ?_)
  refine WL.c rfl (o_ne rfl rfl ?_)
  refine WL.nil ?_
  refine W.cond rfl (fun c19 => ?_) (fun c19 => ?_)
  · try simp only [cs8] at c19
    have hn : ¬ A.length = B.length := by omega
    refine W.seq ?_
    refine W.region ?_
    refine WL.c rfl (o_ash (show _ = Value.bool _ from rfl) ?_)
    refine WL.nil ?_
    refine W.ret ?_
    refine ret1v rfl (show _ = Value.bool _ from rfl) ?_
    exact ⟨congrArg Value.bool (decide_eq_false (fun h => hn (by rw [h]))).symm, hx⟩
  · try simp only [cs8] at c19
    have hn : A.length = B.length := by omega
    refine W.skip ?_
    refine W.seq ?_
    refine W.seq ?_
    refine W.region ?_
    refine WL.c rfl (o_ash (show _ = Value.int _ _ from rfl) ?_)
    refine WL.nil ?_
    refine W.block ?_
    refine W.loop (fun e w => ∃ k : Nat, k ≤ A.length ∧ e 2 = .bool true ∧ e 3 = .pointer (some ⟨c3, 0, none⟩) ∧ e 4 = .pointer (some ⟨c4, 0, none⟩) ∧ e 7 = .int .i64 (k : Int) ∧ w.heap[c3]? = some (.cells #[dv1] 24 (0, 0)) ∧ w.heap[c4]? = some (.cells #[dv2] 24 (0, 0)) ∧ DefR w A dv1 V1 ∧ DefR w B dv2 V2 ∧ decide (A = B) = decide (A.drop k = B.drop k) ∧ Ext w0 w) (fun e w => A.length - (intOf (e 7)).toNat) ?_ ?_
    · exact ⟨0, Nat.zero_le _, rfl, rfl, rfl, rfl, hC3, hC4, hA, hB, rfl, hx⟩
    rintro e w ⟨k, hk, h2, h3, h4, h7, hC3, hC4, hA, hB, hres, hx⟩
    have hm7 := h7
    refine W.seq ?_
    refine W.seq ?_
    refine W.region ?_
    refine WL.c rfl (o_mvh h7 ?_)
    refine WL.c rfl (o_fa 0 TI24 rfl TI22 rfl h3 ?_)
    refine WL.c rfl (o_ld TI22 rfl rfl (cell_of hC3 rfl) ?_)
    refine WL.c rfl (o_lenR TI22 rfl hA.row ?_)
    refine WL.c rfl (o_lt rfl rfl ?_)
    refine WL.nil ?_
    refine W.cond rfl (fun c24 => ?_) (fun c24 => ?_)
    · try simp only [cs8] at c24
      have hk1 : k < A.length := by omega
      have hk2 : k < B.length := by omega
      have hAk := hAt _ (List.getElem_mem hk1)
      obtain ⟨tb, to_, tc, rfl, htc, hty⟩ := hA.atk hk1
      obtain ⟨tb2, to2, tc2, rfl, htc2, hty2⟩ := hB.atk hk2
      have hde := drop_eq hk1 hk2
      refine W.skip ?_
      refine W.seq ?_
      refine W.block ?_
      refine W.seq ?_
      refine W.region ?_
      refine WL.c rfl (o_fa 0 TI24 rfl TI22 rfl h3 ?_)
      refine WL.c rfl (o_ld TI22 rfl rfl (cell_of hC3 rfl) ?_)
      refine WL.c rfl (o_mvh h7 ?_)
      refine WL.c rfl (o_ixB TI22 TI39 rfl rfl (by omega) ?_)
      refine WL.c rfl (o_ldA TI39 rfl rfl htc rfl ?_)
      refine WL.c rfl (o_alB TI39 ?_)
      intro wa hCa hxa hsa
      refine WL.u (o_stA TI39 rfl (show _ = Value.agg (dcell A[k] (V1 k)).toArray from rfl) rfl (by simp only [dcell, List.toArray, Array.toList, List.all_cons, List.all_nil, sl_one1 hty]; rfl) hCa rfl ?_)
      intro wb8 hC8 hob hsb
      have hxb := Ext.own hxa (Nat.le_refl _) hob
      clear hCa hxa hsa hob hsb
      replace hC3 := hxb.blk hC3 (fun h => h)
      replace hC4 := hxb.blk hC4 (fun h => h)
      replace hA := hA.ext hxb
      replace hB := hB.ext hxb
      replace hty := hty.ext hxb
      replace hty2 := hty2.ext hxb
      replace hx := hx.tr hxb
      replace htc2 := Cells.only htc2 hxb (fun h => h)
      obtain ⟨c8, hc8⟩ : ∃ c, c = w.heap.size := ⟨_, rfl⟩
      rw [← hc8] at hC8 ⊢
      clear hxb
      refine WL.nil ?_
      refine W.seq ?_
      refine W.region ?_
      refine WL.c rfl (o_fa 0 TI24 rfl TI22 rfl h4 ?_)
      refine WL.c rfl (o_ld TI22 rfl rfl (cell_of hC4 rfl) ?_)
      refine WL.c rfl (o_mvh h7 ?_)
      refine WL.c rfl (o_ixB TI22 TI39 rfl rfl (by omega) ?_)
      refine WL.c rfl (o_ldA TI39 rfl rfl htc2 rfl ?_)
      refine WL.c rfl (o_alB TI39 ?_)
      intro wa hCa hxa hsa
      refine WL.u (o_stA TI39 rfl (show _ = Value.agg (dcell B[k] (V2 k)).toArray from rfl) rfl (by simp only [dcell, List.toArray, Array.toList, List.all_cons, List.all_nil, sl_one1 hty2]; rfl) hCa rfl ?_)
      intro wb9 hC9 hob hsb
      have hxb := Ext.own hxa (Nat.le_refl _) hob
      clear hCa hxa hsa hob hsb
      replace hC3 := hxb.blk hC3 (fun h => h)
      replace hC4 := hxb.blk hC4 (fun h => h)
      replace hC8 := hxb.blk hC8 (fun h => h)
      replace hA := hA.ext hxb
      replace hB := hB.ext hxb
      replace hty := hty.ext hxb
      replace hty2 := hty2.ext hxb
      replace hx := hx.tr hxb
      obtain ⟨c9, hc9⟩ : ∃ c, c = wb8.heap.size := ⟨_, rfl⟩
      rw [← hc9] at hC9 ⊢
      clear hxb
      refine WL.nil ?_
      refine W.seq ?_
      refine W.seq ?_
      refine W.region ?_
      refine WL.cut (fun e1 w1 => e1 2 = .bool true ∧ e1 3 = .pointer (some ⟨c3, 0, none⟩) ∧ e1 4 = .pointer (some ⟨c4, 0, none⟩) ∧ e1 7 = .int .i64 (k : Int) ∧ e1 8 = .pointer (some ⟨c8, 0, none⟩) ∧ e1 9 = .pointer (some ⟨c9, 0, none⟩) ∧ e1 60 = .bool (!(decide (A[k].name = B[k].name) && decide (A[k].at_ = B[k].at_) && decide (A[k].ty.length = B[k].ty.length))) ∧ w1 = wb9) ?_ ?_
      · -- region 8
        refine WL.c rfl (o_fa 0 TI39 rfl TI9 rfl rfl ?_)
        refine WL.c rfl (o_ld TI9 rfl rfl (cell_of hC8 rfl) ?_)
        refine WL.c rfl (o_fa 0 TI39 rfl TI9 rfl rfl ?_)
        refine WL.c rfl (o_ld TI9 rfl rfl (cell_of hC9 rfl) ?_)
        refine WL.c rfl (o_neT rfl rfl ?_)
        refine WL.c rfl (o_mvh (show _ = Value.bool _ from rfl) ?_)
        refine WL.sp 5 rfl (fun g42 => ?_) (fun g42 => ?_)
        · skip
          refine WL.s rfl (g42) rfl ?_
          refine WL.s rfl (g42) rfl ?_
          refine WL.z rfl rfl ?_
          refine WL.z rfl rfl ?_
          refine WL.z rfl rfl ?_
          refine WL.z rfl rfl ?_
          refine WL.z rfl rfl ?_
          refine WL.s rfl (g42) rfl ?_
          refine WL.c rfl (o_pickT rfl (g42) ?_)
          refine WL.c rfl (o_mvh (show _ = Value.bool _ from rfl) ?_)
          refine WL.s rfl (rfl) rfl ?_
          refine WL.s rfl (rfl) rfl ?_
          refine WL.s rfl (rfl) rfl ?_
          refine WL.s rfl (rfl) rfl ?_
          refine WL.s rfl (rfl) rfl ?_
          refine WL.s rfl (rfl) rfl ?_
          refine WL.s rfl (rfl) rfl ?_
          refine WL.c rfl (o_pickT rfl (rfl) ?_)
          exact WL.nil (⟨h2, h3, h4, h7, rfl, rfl, congrArg Value.bool (by clear hde hres; (try rw [show decide ((A[k].ty.length : Int) = (B[k].ty.length : Int)) = decide (A[k].ty.length = B[k].ty.length) from dec_iff (by omega)]); generalize decide (A[k].name = B[k].name) = x at *; generalize decide (A[k].at_ = B[k].at_) = y at *; first | (revert g42 g52; cases x <;> cases y <;> simp; done) | (revert g42; cases x <;> cases y <;> simp; done)), rfl⟩)
        · skip
          refine WL.g rfl (g42) rfl (o_mvh h2 ?_)
          refine WL.g rfl (g42) rfl (o_mvh (show _ = Value.bool _ from rfl) ?_)
          refine WL.g rfl (rfl) rfl (o_fa 1 TI39 rfl TI3 rfl rfl ?_)
          refine WL.g rfl (rfl) rfl (o_ld TI3 rfl rfl (cell_of hC8 rfl) ?_)
          refine WL.g rfl (rfl) rfl (o_fa 1 TI39 rfl TI3 rfl rfl ?_)
          refine WL.g rfl (rfl) rfl (o_ld TI3 rfl rfl (cell_of hC9 rfl) ?_)
          refine WL.g rfl (rfl) rfl (o_ne rfl rfl ?_)
          refine WL.g rfl (g42) rfl (o_pickA rfl rfl ?_)
          refine WL.c rfl (o_pickO rfl rfl ?_)
          refine WL.c rfl (o_mvh (show _ = Value.bool _ from rfl) ?_)
          refine WL.sp 15 rfl (fun g52 => ?_) (fun g52 => ?_)
          · skip
            refine WL.s rfl (g52) rfl ?_
            refine WL.s rfl (g52) rfl ?_
            refine WL.s rfl (g52) rfl ?_
            refine WL.s rfl (g52) rfl ?_
            refine WL.s rfl (g52) rfl ?_
            refine WL.s rfl (g52) rfl ?_
            refine WL.s rfl (g52) rfl ?_
            refine WL.c rfl (o_pickT rfl (g52) ?_)
            exact WL.nil (⟨h2, h3, h4, h7, rfl, rfl, congrArg Value.bool (by clear hde hres; (try rw [show decide ((A[k].ty.length : Int) = (B[k].ty.length : Int)) = decide (A[k].ty.length = B[k].ty.length) from dec_iff (by omega)]); generalize decide (A[k].name = B[k].name) = x at *; generalize decide (A[k].at_ = B[k].at_) = y at *; first | (revert g42 g52; cases x <;> cases y <;> simp; done) | (revert g42; cases x <;> cases y <;> simp; done)), rfl⟩)
          · skip
            refine WL.g rfl (g52) rfl (o_fa 2 TI39 rfl TI37 rfl rfl ?_)
            refine WL.g rfl (g52) rfl (o_ld TI37 rfl rfl (cell_of hC8 rfl) ?_)
            refine WL.g rfl (g52) rfl (o_lenR TI37 rfl hty ?_)
            refine WL.g rfl (g52) rfl (o_fa 2 TI39 rfl TI37 rfl rfl ?_)
            refine WL.g rfl (g52) rfl (o_ld TI37 rfl rfl (cell_of hC9 rfl) ?_)
            refine WL.g rfl (g52) rfl (o_lenR TI37 rfl hty2 ?_)
            refine WL.g rfl (g52) rfl (o_ne rfl rfl ?_)
            refine WL.c rfl (o_pickO rfl rfl ?_)
            exact WL.nil (⟨h2, h3, h4, h7, rfl, rfl, congrArg Value.bool (by clear hde hres; (try rw [show decide ((A[k].ty.length : Int) = (B[k].ty.length : Int)) = decide (A[k].ty.length = B[k].ty.length) from dec_iff (by omega)]); generalize decide (A[k].name = B[k].name) = x at *; generalize decide (A[k].at_ = B[k].at_) = y at *; first | (revert g42 g52; cases x <;> cases y <;> simp; done) | (revert g42; cases x <;> cases y <;> simp; done)), rfl⟩)
      rintro e w ⟨h2, h3, h4, h7, h8, h9, h60, rfl⟩
      refine W.cond h60 (fun c60 => ?_) (fun c60 => ?_)
      · try simp only [cs8] at c60
        refine W.seq ?_
        refine W.region ?_
        refine WL.c rfl (o_ash (show _ = Value.bool _ from rfl) ?_)
        refine WL.nil ?_
        refine W.ret ?_
        refine ret1v rfl (show _ = Value.bool _ from rfl) ?_
        exact ⟨congrArg Value.bool (by rw [hres]; exact (decide_eq_false (fun h => by obtain ⟨a1, a2, a3, -⟩ := hde.1 h; simp [a1, a2, a3] at c60)).symm), hx⟩
      · try simp only [cs8] at c60
        have hq : A[k].name = B[k].name ∧ A[k].at_ = B[k].at_ ∧ A[k].ty.length = B[k].ty.length := by simpa [and_assoc] using c60
        obtain ⟨q1, q2, q3⟩ := hq
        have hres2 : decide (A = B) = decide (A[k].ty.drop 0 = B[k].ty.drop 0 ∧ A.drop (k + 1) = B.drop (k + 1)) := by rw [hres]; exact dec_iff (hde.trans (by simp [q1, q2]))
        refine W.skip ?_
        refine W.seq ?_
        refine W.region ?_
        refine WL.c rfl (o_ash (show _ = Value.int _ _ from rfl) ?_)
        refine WL.nil ?_
        refine W.block ?_
        refine W.loop (fun e w => ∃ j : Nat, j ≤ A[k].ty.length ∧ e 2 = .bool true ∧ e 3 = .pointer (some ⟨c3, 0, none⟩) ∧ e 4 = .pointer (some ⟨c4, 0, none⟩) ∧ e 7 = .int .i64 (k : Int) ∧ e 8 = .pointer (some ⟨c8, 0, none⟩) ∧ e 9 = .pointer (some ⟨c9, 0, none⟩) ∧ e 10 = .int .i64 (j : Int) ∧ w.heap[c3]? = some (.cells #[Value.slice (some ⟨tb, to_, none⟩) A.length tc] 24 (0, 0)) ∧ w.heap[c4]? = some (.cells #[Value.slice (some ⟨tb2, to2, none⟩) B.length tc2] 24 (0, 0)) ∧ w.heap[c8]? = some (.cells (dcell A[k] (V1 k)).toArray 39 (0, 0)) ∧ w.heap[c9]? = some (.cells (dcell B[k] (V2 k)).toArray 39 (0, 0)) ∧ DefR w A (Value.slice (some ⟨tb, to_, none⟩) A.length tc) V1 ∧ DefR w B (Value.slice (some ⟨tb2, to2, none⟩) B.length tc2) V2 ∧ Sl w 7 (V1 k) A[k].ty.length (exs A[k].ty) ∧ Sl w 7 (V2 k) B[k].ty.length (exs B[k].ty) ∧ decide (A = B) = decide (A[k].ty.drop j = B[k].ty.drop j ∧ A.drop (k + 1) = B.drop (k + 1)) ∧ Ext w0 w) (fun e w => A[k].ty.length - (intOf (e 10)).toNat) ?_ ?_
        · exact ⟨0, Nat.zero_le _, h2, h3, h4, h7, h8, h9, rfl, hC3, hC4, hC8, hC9, hA, hB, hty, hty2, hres2, hx⟩
        rintro e w ⟨j, hj, h2, h3, h4, h7, h8, h9, h10, hC3, hC4, hC8, hC9, hA, hB, hty, hty2, hres2, hx⟩
        have hm10 := h10
        refine W.seq ?_
        refine W.seq ?_
        refine W.region ?_
        refine WL.c rfl (o_mvh h10 ?_)
        refine WL.c rfl (o_fa 2 TI39 rfl TI37 rfl h8 ?_)
        refine WL.c rfl (o_ld TI37 rfl rfl (cell_of hC8 rfl) ?_)
        refine WL.c rfl (o_lenR TI37 rfl hty ?_)
        refine WL.c rfl (o_lt rfl rfl ?_)
        refine WL.nil ?_
        refine W.cond rfl (fun c65 => ?_) (fun c65 => ?_)
        · try simp only [cs8] at c65
          have hj1 : j < A[k].ty.length := by omega
          have hj2 : j < B[k].ty.length := by omega
          have hdj := drop_eqE hj1 hj2
          obtain ⟨ub, uo, uc, hV1, huc⟩ := Sl.exq hty hj1
          obtain ⟨ub2, uo2, uc2, hV2, huc2⟩ := Sl.exq hty2 hj2
          refine W.skip ?_
          refine W.seq ?_
          refine W.block ?_
          refine W.seq ?_
          refine W.region ?_
          refine WL.c rfl (o_fa 2 TI39 rfl TI37 rfl h8 ?_)
          refine WL.c rfl (o_ld TI37 rfl rfl (cell_of hC8 rfl) ?_)
          refine WL.c rfl (o_mvh h10 ?_)
          refine WL.c rfl (o_ixB (i := j) TI37 TI26 (show _ = _ from hV1) rfl (by omega) ?_)
          refine WL.c rfl (o_ldA TI26 rfl rfl huc rfl ?_)
          refine WL.c rfl (o_alB TI26 ?_)
          intro wa hCa hxa hsa
          refine WL.u (o_stA TI26 rfl (show _ = Value.agg (exV A[k].ty[j]).toArray from rfl) rfl rfl hCa rfl ?_)
          intro wb11 hC11 hob hsb
          have hxb := Ext.own hxa (Nat.le_refl _) hob
          clear hCa hxa hsa hob hsb
          replace hC3 := hxb.blk hC3 (fun h => h)
          replace hC4 := hxb.blk hC4 (fun h => h)
          replace hC8 := hxb.blk hC8 (fun h => h)
          replace hC9 := hxb.blk hC9 (fun h => h)
          replace hA := hA.ext hxb
          replace hB := hB.ext hxb
          replace hty := hty.ext hxb
          replace hty2 := hty2.ext hxb
          replace hx := hx.tr hxb
          replace huc2 := Cells.only huc2 hxb (fun h => h)
          obtain ⟨c11, hc11⟩ : ∃ c, c = w.heap.size := ⟨_, rfl⟩
          rw [← hc11] at hC11 ⊢
          clear hxb
          refine WL.nil ?_
          refine W.seq ?_
          refine W.region ?_
          refine WL.c rfl (o_fa 2 TI39 rfl TI37 rfl h9 ?_)
          refine WL.c rfl (o_ld TI37 rfl rfl (cell_of hC9 rfl) ?_)
          refine WL.c rfl (o_mvh h10 ?_)
          refine WL.c rfl (o_ixB (i := j) TI37 TI26 (show _ = _ from hV2) rfl (by omega) ?_)
          refine WL.c rfl (o_ldA TI26 rfl rfl huc2 rfl ?_)
          refine WL.c rfl (o_alB TI26 ?_)
          intro wa hCa hxa hsa
          refine WL.u (o_stA TI26 rfl (show _ = Value.agg (exV B[k].ty[j]).toArray from rfl) rfl rfl hCa rfl ?_)
          intro wb12 hC12 hob hsb
          have hxb := Ext.own hxa (Nat.le_refl _) hob
          clear hCa hxa hsa hob hsb
          replace hC3 := hxb.blk hC3 (fun h => h)
          replace hC4 := hxb.blk hC4 (fun h => h)
          replace hC8 := hxb.blk hC8 (fun h => h)
          replace hC9 := hxb.blk hC9 (fun h => h)
          replace hC11 := hxb.blk hC11 (fun h => h)
          replace hA := hA.ext hxb
          replace hB := hB.ext hxb
          replace hty := hty.ext hxb
          replace hty2 := hty2.ext hxb
          replace hx := hx.tr hxb
          obtain ⟨c12, hc12⟩ : ∃ c, c = wb11.heap.size := ⟨_, rfl⟩
          rw [← hc12] at hC12 ⊢
          clear hxb
          refine WL.nil ?_
          refine W.seq ?_
          refine W.seq ?_
          refine W.region ?_
          refine WL.c rfl (o_mvh h2 ?_)
          refine WL.c rfl (o_not' rfl ?_)
          refine WL.nil ?_
          refine W.condF' rfl (rfl) ?_
          refine W.skip ?_
          refine W.seq ?_
          refine W.region ?_
          refine WL.c rfl (o_ldA TI26 rfl rfl (show Cells _ c11 0 (exV A[k].ty[j]) from Cells.of hC11 0 _ (by simp)) rfl ?_)
          refine WL.c rfl (o_ldA TI26 rfl rfl (show Cells _ c12 0 (exV B[k].ty[j]) from Cells.of hC12 0 _ (by simp)) rfl ?_)
          refine WL.c rfl (o_neR TI26 (by kernel_rfl) (by kernel_rfl) rfl rfl (.int TI3 (by decide) rfl rfl (.int TI3 (by decide) rfl rfl (.str TI9 (by decide) rfl rfl (.str TI9 (by decide) rfl rfl (.int TI3 (by decide) rfl rfl (.int TI3 (by decide) rfl rfl (.int TI3 (by decide) rfl rfl .nil))))))) ?_)
          refine WL.nil ?_
          refine W.cond rfl (fun c84 => ?_) (fun c84 => ?_)
          · try simp only [cs8] at c84
            refine W.seq ?_
            refine W.region ?_
            refine WL.c rfl (o_ash (show _ = Value.bool _ from rfl) ?_)
            refine WL.nil ?_
            refine W.ret ?_
            refine ret1v rfl (show _ = Value.bool _ from rfl) ?_
            exact ⟨congrArg Value.bool (by rw [hres2]; exact (decide_eq_false (fun h => by have he := (hdj.1 h.1).1; simp [he] at c84)).symm), hx⟩
          · try simp only [cs8] at c84
            have heq : A[k].ty[j] = B[k].ty[j] := by simp at c84; obtain ⟨a1, a2, a3, a4, a5, a6, a7⟩ := c84; exact ex_ext a1 a2 a3 a4 a5 a6 a7
            refine W.skip ?_
            refine W.region ?_
            refine WL.c rfl (o_mvh h10 ?_)
            refine WL.c rfl (o_addi rfl rfl (by omega) ?_)
            refine WL.c rfl (o_ash (show _ = Value.int _ _ from rfl) ?_)
            refine WL.nil ?_
            refine ⟨⟨j + 1, by omega, h2, h3, h4, h7, h8, h9, rfl, hC3, hC4, hC8, hC9, hA, hB, hty, hty2, ?_, hx⟩, ?_⟩
            · rw [hres2]; exact dec_iff (by rw [hdj, and_assoc]; exact ⟨fun h => h.2, fun h => ⟨heq, h⟩⟩)
            · show A[k].ty.length - ((j : Int) + 1).toNat < _
              rw [hm10]; simp [intOf]; omega
        · try simp only [cs8] at c65
          have hj1 : j = A[k].ty.length := by omega
          have hjl : A[k].ty.drop j = [] := by rw [hj1, List.drop_length]
          have hjl2 : B[k].ty.drop j = [] := by rw [hj1, q3, List.drop_length]
          refine W.exit ?_
          refine W.region ?_
          refine WL.c rfl (o_mvh h7 ?_)
          refine WL.c rfl (o_addi rfl rfl (by omega) ?_)
          refine WL.c rfl (o_ash (show _ = Value.int _ _ from rfl) ?_)
          refine WL.nil ?_
          refine ⟨⟨k + 1, by omega, h2, h3, h4, rfl, hC3, hC4, hA, hB, ?_, hx⟩, ?_⟩
          · rw [hres2]; exact dec_iff (by rw [hjl, hjl2]; simp)
          · show A.length - ((k : Int) + 1).toNat < _
            rw [hm7]; simp [intOf]; omega
    · try simp only [cs8] at c24
      have hk1 : k = A.length := by omega
      rw [hk1, List.drop_length, hn, List.drop_length] at hres
      refine W.exit ?_
      refine W.seq ?_
      refine W.region ?_
      refine WL.c rfl (o_ash (show _ = Value.bool _ from rfl) ?_)
      refine WL.nil ?_
      refine W.ret ?_
      refine ret1v rfl (show _ = Value.bool _ from rfl) ?_
      exact ⟨congrArg Value.bool (by rw [hres]; simp), hx⟩
end Go.Proofs.Ytgcehajdldicfaa

set_option linter.unusedSimpArgs false
set_option linter.unusedVariables false
set_option maxRecDepth 100000
namespace Go.Proofs.Ytgcehajdldicfaa
open Go Go.Vc Go.RowKit Go.Proofs

/-- one element less -/
def shr : Value → Value
  | .slice a n c => .slice a (n - 1) c
  | v => v
theorem shr_blk (v : Value) : (shr v).ownBlock = v.ownBlock := by
  cases v with
  | slice a n c => cases a <;> rfl
  | _ => rfl
theorem own_shr {w : World} {base : Nat} {el : TypeId} {s n : Nat} {v : Value} {xs ys : List Value} (h : w.ownsRow base el s v (n + 1) (xs ++ ys)) (hl : xs.length = n * s) : w.ownsRow base el s (shr v) n xs := by
  obtain ⟨g, cap, rfl, hb⟩ := own_some h (by omega)
  have := own_take h (m := n) (by omega)
  rw [List.take_left' hl] at this
  exact this
def exK : Ex := ⟨-77, 0, [], [], 0, 0, 0⟩
def markD : List Value := [st [109, 97, 114, 107], .int .i64 (-78), .slice none 0 0]
def drowsK (D : List Df) (V : Nat → Value) (k : Nat) : List Value := (List.range k).flatMap fun j => dcell (D.getD j df0) (V j)
theorem drowsK_succ (D : List Df) (V : Nat → Value) {k : Nat} (v : Value) : drowsK D (fun j => if j = k then v else V j) (k + 1) = drowsK D V k ++ dcell (D.getD k df0) v := by
  rw [drowsK, List.range_succ, List.flatMap_append, List.flatMap_singleton, if_pos rfl]
  congr 1
  refine dfm_congr fun j hj => ?_
  have hj := List.mem_range.1 hj
  rw [if_neg (by omega)]
theorem drows_len (D : List Df) (V : Nat → Value) : (drows D V).length = D.length * 3 := by
  rw [drows]
  have : ∀ l : List Nat, (l.flatMap fun j => dcell (D.getD j df0) (V j)).length = l.length * 3 := by
    intro l
    induction l with
    | nil => rfl
    | cons a l ih => rw [List.flatMap_cons, List.length_append, ih, dcell_len, List.length_cons]; omega
  rw [this, List.length_range]
/-- sizes that a machine can hold -/
structure DOk (D : List Df) : Prop where
  len : D.length * 48 ≤ 140737488351232
  ty : ∀ d ∈ D, d.ty.length * 72 ≤ 140737488351232
  nm : ∀ d ∈ D, d.name.length ≤ 9223372036854775807
  ex : ∀ d ∈ D, ∀ x ∈ d.ty, x.name.length ≤ 9223372036854775807 ∧ x.label.length ≤ 9223372036854775807
theorem DOk.lim {D : List Df} (h : DOk D) : DLim D := fun d hd => ⟨h.nm d hd, by have := h.ty d hd; omega, h.ex d hd⟩
abbrev lenM (D : List Df) (j : Nat) : Nat := (tyD D j).length + 1
abbrev rowM (D : List Df) (j : Nat) : List Value := exs (tyD D j) ++ exV exK
/-- definitions in rows of our own, a mark behind each -/
structure Lent (w : World) (H : Nat) (D : List Df) (gv : Value) (W : Nat → Value) : Prop where
  row : w.ownsRow H 39 3 gv (D.length + 1) (drows D (fun j => shr (W j)) ++ markD)
  tys : Many w H 26 7 D.length W (lenM D) (rowM D)
theorem Lent.defs {w : World} {H : Nat} {D : List Df} {gv : Value} {W : Nat → Value} (h : Lent w H D gv W) : Defs w H D (shr gv) (fun j => shr (W j)) :=
  ⟨own_shr h.row (drows_len _ _), ⟨fun j hj => own_shr (h.tys.row j hj) (exs_len _), fun i j hi hj hij k hk => by rw [shr_blk] at hk ⊢; exact h.tys.off i j hi hj hij k hk⟩⟩
theorem Lent.only {w w' : World} {H : Nat} {D : List Df} {gv : Value} {W : Nat → Value} {F : Nat → Prop} (h : Lent w H D gv W) (ho : Only F w w') (hn : ∀ k, DF gv W D.length k → ¬ F k) : Lent w' H D gv W :=
  ⟨own_only h.row ho (fun k hk => hn k (.inl hk)), h.tys.only ho (fun j hj k hk => hn k (.inr ⟨j, hj, hk⟩))⟩
theorem Lent.ext {w w' : World} {H : Nat} {D : List Df} {gv : Value} {W : Nat → Value} (h : Lent w H D gv W) (ho : Ext w w') : Lent w' H D gv W := h.only ho (fun _ _ h => h)
theorem Lent.lt {w : World} {H : Nat} {D : List Df} {gv : Value} {W : Nat → Value} (h : Lent w H D gv W) : ∀ k, DF gv W D.length k → H ≤ k ∧ k < w.heap.size := fun k hk => by
  rcases hk with hk | ⟨j, hj, hk⟩
  · exact h.row.lt k hk
  · exact h.tys.lt hj hk
theorem one_exs (L : List Ex) : ∀ a ∈ exs L, a.oneCell' = true := by
  intro a ha
  obtain ⟨x, -, hx⟩ := List.mem_flatMap.1 ha
  have : ∀ a ∈ exV x, a.oneCell' = true := by simp [exV, Value.oneCell', st]
  exact this a hx
theorem lent_snoc {w : World} {H : Nat} {D : List Df} {k m : Nat} {W : Nat → Value} {v : Value} (h : Many w H 26 7 k W (lenM D) (rowM D)) (hr : w.ownsRow m 26 7 v (lenM D k) (rowM D k)) (hm : H ≤ m) (hlt : ∀ j, j < k → ∀ b, (W j).ownBlock = some b → b < m) : Many w H 26 7 (k + 1) (fun j => if j = k then v else W j) (lenM D) (rowM D) := Many.snocG h hr hm hlt rfl rfl

end Go.Proofs.Ytgcehajdldicfaa

set_option linter.unusedSimpArgs false
set_option linter.unusedVariables false
set_option maxRecDepth 100000
namespace Go.Proofs.Ytgcehajdldicfaa
open Go Go.Vc Go.RowKit Go.Proofs

theorem rowM_get {L : List Ex} {x : Ex} {k : Nat} (v : Value) (h : (exV x)[k]? = some v) : (exs L ++ exV x)[L.length * 7 + k]? = some v := by
  rw [List.getElem?_append_right (by rw [exs_len]; omega), exs_len, Nat.add_sub_cancel_left, h]
theorem drowsM_get {D : List Df} {V : Nat → Value} {k : Nat} (v : Value) (h : markD[k]? = some v) : (drows D V ++ markD)[D.length * 3 + k]? = some v := by
  rw [List.getElem?_append_right (by rw [drows_len]; omega), drows_len, Nat.add_sub_cancel_left, h]

end Go.Proofs.Ytgcehajdldicfaa

set_option linter.unusedSimpArgs false
set_option linter.unusedVariables false
set_option maxRecDepth 100000
namespace Go.Proofs.Ytgcehajdldicfaa
open Go Go.Vc Go.RowKit Go.Proofs

def rgtB (x : Ex) : Bool := okB x && namB x
def plcB (x : Ex) (above : Int) : Bool := labB x above && tagB x above
theorem rightB_two (x : Ex) (above : Int) : rightB x above = (rgtB x && plcB x above) := by simp only [rightB, rgtB, plcB, Bool.and_assoc]
theorem chkE_pz {z : Opn} {S : List Opn} {i : Nat} {l : List Ex} (h : z.left = 0) : chkE (z :: S) i l = chkE S i l := by
  cases l with
  | nil => rw [chkE_nil, chkE_nil, leftB, List.any_cons, h]; rfl
  | cons x xs => rw [chkE_cons, chkE_cons, popZ_z h]

set_option maxHeartbeats 2000000 in
theorem rright_spec (x : Ex) (w0 : World) (hn : x.name.length ≤ 9223372036854775807) : Ca Try.prog 56 #[.agg (exV x).toArray] w0 (fun v w' => v = .bool (rgtB x) ∧ Ext w0 w') := by
  refine Ca.of Try.func56 Try.ntmps56 rfl rfl ?_
  refine W.seq ?_
  refine W.region ?_
  refine WL.c rfl (o_boxB rfl ?_)
  intro w1 hC1 hx hs1
  obtain ⟨c1, hc1⟩ : ∃ c, c = w0.heap.size := ⟨_, rfl⟩
  rw [← hc1] at hC1 ⊢
  replace hC1 : w1.heap[c1]? = some (.cells (exV x).toArray 26 (0, 0)) := hC1
  refine WL.c rfl (o_ash (show _ = Value.bool _ from rfl) ?_)
  refine WL.nil ?_
  refine W.seq ?_
  refine W.region ?_
  refine WL.c rfl (o_fa 2 TI26 rfl TI9 rfl rfl ?_)
  refine WL.c rfl (o_ld TI9 rfl rfl (cell_of hC1 rfl) ?_)
  refine WL.c rfl (o_eqT rfl rfl ?_)
  refine WL.c rfl (o_ash (show _ = Value.bool _ from rfl) ?_)
  refine WL.nil ?_
  refine W.seq ?_
  refine W.seq ?_
  refine W.region ?_
  refine WL.c rfl (o_fa 0 TI26 rfl TI3 rfl rfl ?_)
  refine WL.c rfl (o_ld TI3 rfl rfl (cell_of hC1 rfl) ?_)
  refine WL.nil ?_
  refine W.block ?_
  refine W.seq ?_
  refine W.region ?_
  refine WL.c rfl (o_eq rfl rfl ?_)
  refine WL.c rfl (o_ash (show _ = Value.bool _ from rfl) ?_)
  refine WL.nil ?_
  refine W.cond rfl (fun c9 => ?_) (fun c9 => ?_)
  · try simp only [cs8] at c9
    refine W.seq ?_
    refine W.region ?_
    refine WL.c rfl (o_mvh (show _ = Value.bool _ from rfl) ?_)
    refine WL.c rfl (o_mvh (show _ = Value.bool _ from rfl) ?_)
    refine WL.sp 1 rfl (fun g12 => ?_) (fun g12 => ?_)
    · skip
      refine WL.g rfl (g12) rfl (o_fa 5 TI26 rfl TI3 rfl rfl ?_)
      refine WL.g rfl (g12) rfl (o_ld TI3 rfl rfl (cell_of hC1 rfl) ?_)
      refine WL.g rfl (g12) rfl (o_eq rfl rfl ?_)
      refine WL.c rfl (o_pickA rfl rfl ?_)
      refine WL.c rfl (o_mvh (show _ = Value.bool _ from rfl) ?_)
      refine WL.sp 6 rfl (fun g17 => ?_) (fun g17 => ?_)
      · skip
        refine WL.g rfl (g17) rfl (o_fa 1 TI26 rfl TI3 rfl rfl ?_)
        refine WL.g rfl (g17) rfl (o_ld TI3 rfl rfl (cell_of hC1 rfl) ?_)
        refine WL.g rfl (g17) rfl (o_eq rfl rfl ?_)
        refine WL.g rfl (g17) rfl (o_mvh (show _ = Value.bool _ from rfl) ?_)
        refine WL.sp 10 rfl (fun g21 => ?_) (fun g21 => ?_)
        · skip
          refine WL.s rfl (g21) rfl ?_
          refine WL.s rfl (g21) rfl ?_
          refine WL.s rfl (g21) rfl ?_
          refine WL.g rfl (g17) rfl (o_pickT rfl (g21) ?_)
          refine WL.g rfl (g17) rfl (o_mvh (show _ = Value.bool _ from rfl) ?_)
          refine WL.s rfl (rfl) rfl ?_
          refine WL.s rfl (rfl) rfl ?_
          refine WL.s rfl (rfl) rfl ?_
          refine WL.g rfl (g17) rfl (o_pickT rfl (rfl) ?_)
          refine WL.g rfl (g17) rfl (o_mvh (show _ = Value.bool _ from rfl) ?_)
          refine WL.s rfl (rfl) rfl ?_
          refine WL.s rfl (rfl) rfl ?_
          refine WL.s rfl (rfl) rfl ?_
          refine WL.g rfl (g17) rfl (o_pickT rfl (rfl) ?_)
          refine WL.c rfl (o_pickA rfl rfl ?_)
          refine WL.c rfl (o_ash (show _ = Value.bool _ from rfl) ?_)
          refine WL.nil ?_
          refine W.ret ?_
          refine ret1v rfl (show _ = Value.bool _ from rfl) ?_
          exact ⟨congrArg Value.bool (by rw [Bool.eq_iff_iff]; simp_all [rgtB, okB, namB, nameB_nil] <;> omega), hx⟩
        · skip
          refine WL.g rfl (g21) rfl (o_fa 1 TI26 rfl TI3 rfl rfl ?_)
          refine WL.g rfl (g21) rfl (o_ld TI3 rfl rfl (cell_of hC1 rfl) ?_)
          refine WL.g rfl (g21) rfl (o_eq rfl rfl ?_)
          refine WL.g rfl (g17) rfl (o_pickO rfl rfl ?_)
          refine WL.g rfl (g17) rfl (o_mvh (show _ = Value.bool _ from rfl) ?_)
          refine WL.sp 15 rfl (fun g26 => ?_) (fun g26 => ?_)
          · skip
            refine WL.s rfl (g26) rfl ?_
            refine WL.s rfl (g26) rfl ?_
            refine WL.s rfl (g26) rfl ?_
            refine WL.g rfl (g17) rfl (o_pickT rfl (g26) ?_)
            refine WL.g rfl (g17) rfl (o_mvh (show _ = Value.bool _ from rfl) ?_)
            refine WL.s rfl (rfl) rfl ?_
            refine WL.s rfl (rfl) rfl ?_
            refine WL.s rfl (rfl) rfl ?_
            refine WL.g rfl (g17) rfl (o_pickT rfl (rfl) ?_)
            refine WL.c rfl (o_pickA rfl rfl ?_)
            refine WL.c rfl (o_ash (show _ = Value.bool _ from rfl) ?_)
            refine WL.nil ?_
            refine W.ret ?_
            refine ret1v rfl (show _ = Value.bool _ from rfl) ?_
            exact ⟨congrArg Value.bool (by rw [Bool.eq_iff_iff]; simp_all [rgtB, okB, namB, nameB_nil] <;> omega), hx⟩
          · skip
            refine WL.g rfl (g26) rfl (o_fa 1 TI26 rfl TI3 rfl rfl ?_)
            refine WL.g rfl (g26) rfl (o_ld TI3 rfl rfl (cell_of hC1 rfl) ?_)
            refine WL.g rfl (g26) rfl (o_eq rfl rfl ?_)
            refine WL.g rfl (g17) rfl (o_pickO rfl rfl ?_)
            refine WL.g rfl (g17) rfl (o_mvh (show _ = Value.bool _ from rfl) ?_)
            refine WL.sp 20 rfl (fun g31 => ?_) (fun g31 => ?_)
            · skip
              refine WL.s rfl (g31) rfl ?_
              refine WL.s rfl (g31) rfl ?_
              refine WL.s rfl (g31) rfl ?_
              refine WL.g rfl (g17) rfl (o_pickT rfl (g31) ?_)
              refine WL.c rfl (o_pickA rfl rfl ?_)
              refine WL.c rfl (o_ash (show _ = Value.bool _ from rfl) ?_)
              refine WL.nil ?_
              refine W.ret ?_
              refine ret1v rfl (show _ = Value.bool _ from rfl) ?_
              exact ⟨congrArg Value.bool (by rw [Bool.eq_iff_iff]; simp_all [rgtB, okB, namB, nameB_nil] <;> omega), hx⟩
            · skip
              refine WL.g rfl (g31) rfl (o_fa 1 TI26 rfl TI3 rfl rfl ?_)
              refine WL.g rfl (g31) rfl (o_ld TI3 rfl rfl (cell_of hC1 rfl) ?_)
              refine WL.g rfl (g31) rfl (o_eq rfl rfl ?_)
              refine WL.g rfl (g17) rfl (o_pickO rfl rfl ?_)
              refine WL.c rfl (o_pickA rfl rfl ?_)
              refine WL.c rfl (o_ash (show _ = Value.bool _ from rfl) ?_)
              refine WL.nil ?_
              refine W.ret ?_
              refine ret1v rfl (show _ = Value.bool _ from rfl) ?_
              exact ⟨congrArg Value.bool (by rw [Bool.eq_iff_iff]; simp_all [rgtB, okB, namB, nameB_nil] <;> omega), hx⟩
      · skip
        refine WL.s rfl (g17) rfl ?_
        refine WL.s rfl (g17) rfl ?_
        refine WL.s rfl (g17) rfl ?_
        refine WL.s rfl (g17) rfl ?_
        refine WL.z rfl rfl ?_
        refine WL.z rfl rfl ?_
        refine WL.z rfl rfl ?_
        refine WL.s rfl (g17) rfl ?_
        refine WL.s rfl (g17) rfl ?_
        refine WL.z rfl rfl ?_
        refine WL.z rfl rfl ?_
        refine WL.z rfl rfl ?_
        refine WL.s rfl (g17) rfl ?_
        refine WL.s rfl (g17) rfl ?_
        refine WL.z rfl rfl ?_
        refine WL.z rfl rfl ?_
        refine WL.z rfl rfl ?_
        refine WL.s rfl (g17) rfl ?_
        refine WL.c rfl (o_pickF rfl (g17) ?_)
        refine WL.c rfl (o_ash (show _ = Value.bool _ from rfl) ?_)
        refine WL.nil ?_
        refine W.ret ?_
        refine ret1v rfl (show _ = Value.bool _ from rfl) ?_
        exact ⟨congrArg Value.bool (by rw [Bool.eq_iff_iff]; simp_all [rgtB, okB, namB, nameB_nil] <;> omega), hx⟩
    · skip
      refine WL.s rfl (g12) rfl ?_
      refine WL.s rfl (g12) rfl ?_
      refine WL.s rfl (g12) rfl ?_
      refine WL.c rfl (o_pickF rfl (g12) ?_)
      refine WL.c rfl (o_mvh (show _ = Value.bool _ from rfl) ?_)
      refine WL.s rfl (rfl) rfl ?_
      refine WL.s rfl (rfl) rfl ?_
      refine WL.s rfl (rfl) rfl ?_
      refine WL.s rfl (rfl) rfl ?_
      refine WL.z rfl rfl ?_
      refine WL.z rfl rfl ?_
      refine WL.z rfl rfl ?_
      refine WL.s rfl (rfl) rfl ?_
      refine WL.s rfl (rfl) rfl ?_
      refine WL.z rfl rfl ?_
      refine WL.z rfl rfl ?_
      refine WL.z rfl rfl ?_
      refine WL.s rfl (rfl) rfl ?_
      refine WL.s rfl (rfl) rfl ?_
      refine WL.z rfl rfl ?_
      refine WL.z rfl rfl ?_
      refine WL.z rfl rfl ?_
      refine WL.s rfl (rfl) rfl ?_
      refine WL.c rfl (o_pickF rfl (rfl) ?_)
      refine WL.c rfl (o_ash (show _ = Value.bool _ from rfl) ?_)
      refine WL.nil ?_
      refine W.ret ?_
      refine ret1v rfl (show _ = Value.bool _ from rfl) ?_
      exact ⟨congrArg Value.bool (by rw [Bool.eq_iff_iff]; simp_all [rgtB, okB, namB, nameB_nil] <;> omega), hx⟩
  · try simp only [cs8] at c9
    refine W.seq ?_
    refine W.seq ?_
    refine W.region ?_
    refine WL.c rfl (o_eq rfl rfl ?_)
    refine WL.c rfl (o_ash (show _ = Value.bool _ from rfl) ?_)
    refine WL.nil ?_
    refine W.cond rfl (fun c37 => ?_) (fun c37 => ?_)
    · try simp only [cs8] at c37
      refine W.skip ?_
      refine W.cond rfl (fun c37 => ?_) (fun c37 => ?_)
      · try simp only [cs8] at c37
        refine W.seq ?_
        refine W.region ?_
        refine WL.c rfl (o_mvh (show _ = Value.bool _ from rfl) ?_)
        refine WL.c rfl (o_mvh (show _ = Value.bool _ from rfl) ?_)
        refine WL.sp 1 rfl (fun g41 => ?_) (fun g41 => ?_)
        · skip
          refine WL.g rfl (g41) rfl (o_fa 5 TI26 rfl TI3 rfl rfl ?_)
          refine WL.g rfl (g41) rfl (o_ld TI3 rfl rfl (cell_of hC1 rfl) ?_)
          refine WL.g rfl (g41) rfl (o_eq rfl rfl ?_)
          refine WL.c rfl (o_pickA rfl rfl ?_)
          refine WL.c rfl (o_mvh (show _ = Value.bool _ from rfl) ?_)
          refine WL.sp 6 rfl (fun g46 => ?_) (fun g46 => ?_)
          · skip
            refine WL.g rfl (g46) rfl (o_fa 1 TI26 rfl TI3 rfl rfl ?_)
            refine WL.g rfl (g46) rfl (o_ld TI3 rfl rfl (cell_of hC1 rfl) ?_)
            refine WL.g rfl (g46) rfl (o_eq rfl rfl ?_)
            refine WL.c rfl (o_pickA rfl rfl ?_)
            refine WL.c rfl (o_ash (show _ = Value.bool _ from rfl) ?_)
            refine WL.nil ?_
            refine W.ret ?_
            refine ret1v rfl (show _ = Value.bool _ from rfl) ?_
            exact ⟨congrArg Value.bool (by rw [Bool.eq_iff_iff]; simp_all [rgtB, okB, namB, nameB_nil] <;> omega), hx⟩
          · skip
            refine WL.s rfl (g46) rfl ?_
            refine WL.s rfl (g46) rfl ?_
            refine WL.s rfl (g46) rfl ?_
            refine WL.c rfl (o_pickF rfl (g46) ?_)
            refine WL.c rfl (o_ash (show _ = Value.bool _ from rfl) ?_)
            refine WL.nil ?_
            refine W.ret ?_
            refine ret1v rfl (show _ = Value.bool _ from rfl) ?_
            exact ⟨congrArg Value.bool (by rw [Bool.eq_iff_iff]; simp_all [rgtB, okB, namB, nameB_nil] <;> omega), hx⟩
        · skip
          refine WL.s rfl (g41) rfl ?_
          refine WL.s rfl (g41) rfl ?_
          refine WL.s rfl (g41) rfl ?_
          refine WL.c rfl (o_pickF rfl (g41) ?_)
          refine WL.c rfl (o_mvh (show _ = Value.bool _ from rfl) ?_)
          refine WL.s rfl (rfl) rfl ?_
          refine WL.s rfl (rfl) rfl ?_
          refine WL.s rfl (rfl) rfl ?_
          refine WL.c rfl (o_pickF rfl (rfl) ?_)
          refine WL.c rfl (o_ash (show _ = Value.bool _ from rfl) ?_)
          refine WL.nil ?_
          refine W.ret ?_
          refine ret1v rfl (show _ = Value.bool _ from rfl) ?_
          exact ⟨congrArg Value.bool (by rw [Bool.eq_iff_iff]; simp_all [rgtB, okB, namB, nameB_nil] <;> omega), hx⟩
      · try simp only [cs8] at c37
        refine W.seq ?_
        refine W.seq ?_
        refine W.region ?_
        refine WL.c rfl (o_eq rfl rfl ?_)
        refine WL.c rfl (o_ash (show _ = Value.bool _ from rfl) ?_)
        refine WL.nil ?_
        refine W.cond rfl (fun c51 => ?_) (fun c51 => ?_)
        · try simp only [cs8] at c51
          refine W.skip ?_
          refine W.cond rfl (fun c51 => ?_) (fun c51 => ?_)
          · try simp only [cs8] at c51
            refine W.seq ?_
            refine W.region ?_
            refine WL.c rfl (o_mvh (show _ = Value.bool _ from rfl) ?_)
            refine WL.c rfl (o_mvh (show _ = Value.bool _ from rfl) ?_)
            refine WL.sp 1 rfl (fun g55 => ?_) (fun g55 => ?_)
            · skip
              refine WL.g rfl (g55) rfl (o_fa 5 TI26 rfl TI3 rfl rfl ?_)
              refine WL.g rfl (g55) rfl (o_ld TI3 rfl rfl (cell_of hC1 rfl) ?_)
              refine WL.g rfl (g55) rfl (o_eq rfl rfl ?_)
              refine WL.c rfl (o_pickA rfl rfl ?_)
              refine WL.c rfl (o_mvh (show _ = Value.bool _ from rfl) ?_)
              refine WL.sp 6 rfl (fun g60 => ?_) (fun g60 => ?_)
              · skip
                refine WL.g rfl (g60) rfl (o_fa 1 TI26 rfl TI3 rfl rfl ?_)
                refine WL.g rfl (g60) rfl (o_ld TI3 rfl rfl (cell_of hC1 rfl) ?_)
                refine WL.g rfl (g60) rfl (o_ge rfl rfl ?_)
                refine WL.c rfl (o_pickA rfl rfl ?_)
                refine WL.c rfl (o_mvh (show _ = Value.bool _ from rfl) ?_)
                refine WL.sp 11 rfl (fun g65 => ?_) (fun g65 => ?_)
                · skip
                  refine WL.g rfl (g65) rfl (o_fa 1 TI26 rfl TI3 rfl rfl ?_)
                  refine WL.g rfl (g65) rfl (o_ld TI3 rfl rfl (cell_of hC1 rfl) ?_)
                  refine WL.g rfl (g65) rfl (o_le rfl rfl ?_)
                  refine WL.c rfl (o_pickA rfl rfl ?_)
                  refine WL.c rfl (o_ash (show _ = Value.bool _ from rfl) ?_)
                  refine WL.nil ?_
                  refine W.ret ?_
                  refine ret1v rfl (show _ = Value.bool _ from rfl) ?_
                  exact ⟨congrArg Value.bool (by rw [Bool.eq_iff_iff]; simp_all [rgtB, okB, namB, nameB_nil] <;> omega), hx⟩
                · skip
                  refine WL.s rfl (g65) rfl ?_
                  refine WL.s rfl (g65) rfl ?_
                  refine WL.s rfl (g65) rfl ?_
                  refine WL.c rfl (o_pickF rfl (g65) ?_)
                  refine WL.c rfl (o_ash (show _ = Value.bool _ from rfl) ?_)
                  refine WL.nil ?_
                  refine W.ret ?_
                  refine ret1v rfl (show _ = Value.bool _ from rfl) ?_
                  exact ⟨congrArg Value.bool (by rw [Bool.eq_iff_iff]; simp_all [rgtB, okB, namB, nameB_nil] <;> omega), hx⟩
              · skip
                refine WL.s rfl (g60) rfl ?_
                refine WL.s rfl (g60) rfl ?_
                refine WL.s rfl (g60) rfl ?_
                refine WL.c rfl (o_pickF rfl (g60) ?_)
                refine WL.c rfl (o_mvh (show _ = Value.bool _ from rfl) ?_)
                refine WL.s rfl (rfl) rfl ?_
                refine WL.s rfl (rfl) rfl ?_
                refine WL.s rfl (rfl) rfl ?_
                refine WL.c rfl (o_pickF rfl (rfl) ?_)
                refine WL.c rfl (o_ash (show _ = Value.bool _ from rfl) ?_)
                refine WL.nil ?_
                refine W.ret ?_
                refine ret1v rfl (show _ = Value.bool _ from rfl) ?_
                exact ⟨congrArg Value.bool (by rw [Bool.eq_iff_iff]; simp_all [rgtB, okB, namB, nameB_nil] <;> omega), hx⟩
            · skip
              refine WL.s rfl (g55) rfl ?_
              refine WL.s rfl (g55) rfl ?_
              refine WL.s rfl (g55) rfl ?_
              refine WL.c rfl (o_pickF rfl (g55) ?_)
              refine WL.c rfl (o_mvh (show _ = Value.bool _ from rfl) ?_)
              refine WL.s rfl (rfl) rfl ?_
              refine WL.s rfl (rfl) rfl ?_
              refine WL.s rfl (rfl) rfl ?_
              refine WL.c rfl (o_pickF rfl (rfl) ?_)
              refine WL.c rfl (o_mvh (show _ = Value.bool _ from rfl) ?_)
              refine WL.s rfl (rfl) rfl ?_
              refine WL.s rfl (rfl) rfl ?_
              refine WL.s rfl (rfl) rfl ?_
              refine WL.c rfl (o_pickF rfl (rfl) ?_)
              refine WL.c rfl (o_ash (show _ = Value.bool _ from rfl) ?_)
              refine WL.nil ?_
              refine W.ret ?_
              refine ret1v rfl (show _ = Value.bool _ from rfl) ?_
              exact ⟨congrArg Value.bool (by rw [Bool.eq_iff_iff]; simp_all [rgtB, okB, namB, nameB_nil] <;> omega), hx⟩
          · try simp only [cs8] at c51
            refine W.seq ?_
            refine W.region ?_
            refine WL.c rfl (o_eq rfl rfl ?_)
            refine WL.c rfl (o_ash (show _ = Value.bool _ from rfl) ?_)
            refine WL.nil ?_
            refine W.cond rfl (fun c70 => ?_) (fun c70 => ?_)
            · try simp only [cs8] at c70
              refine W.seq ?_
              refine W.region ?_
              refine WL.c rfl (o_mvh (show _ = Value.bool _ from rfl) ?_)
              refine WL.c rfl (o_mvh (show _ = Value.bool _ from rfl) ?_)
              refine WL.sp 1 rfl (fun g73 => ?_) (fun g73 => ?_)
              · skip
                refine WL.g rfl (g73) rfl (o_fa 5 TI26 rfl TI3 rfl rfl ?_)
                refine WL.g rfl (g73) rfl (o_ld TI3 rfl rfl (cell_of hC1 rfl) ?_)
                refine WL.g rfl (g73) rfl (o_eq rfl rfl ?_)
                refine WL.c rfl (o_pickA rfl rfl ?_)
                refine WL.c rfl (o_mvh (show _ = Value.bool _ from rfl) ?_)
                refine WL.sp 6 rfl (fun g78 => ?_) (fun g78 => ?_)
                · skip
                  refine WL.g rfl (g78) rfl (o_fa 1 TI26 rfl TI3 rfl rfl ?_)
                  refine WL.g rfl (g78) rfl (o_ld TI3 rfl rfl (cell_of hC1 rfl) ?_)
                  refine WL.g rfl (g78) rfl (o_eq rfl rfl ?_)
                  refine WL.c rfl (o_pickA rfl rfl ?_)
                  refine WL.c rfl (o_ash (show _ = Value.bool _ from rfl) ?_)
                  refine WL.nil ?_
                  refine W.ret ?_
                  refine ret1v rfl (show _ = Value.bool _ from rfl) ?_
                  exact ⟨congrArg Value.bool (by rw [Bool.eq_iff_iff]; simp_all [rgtB, okB, namB, nameB_nil] <;> omega), hx⟩
                · skip
                  refine WL.s rfl (g78) rfl ?_
                  refine WL.s rfl (g78) rfl ?_
                  refine WL.s rfl (g78) rfl ?_
                  refine WL.c rfl (o_pickF rfl (g78) ?_)
                  refine WL.c rfl (o_ash (show _ = Value.bool _ from rfl) ?_)
                  refine WL.nil ?_
                  refine W.ret ?_
                  refine ret1v rfl (show _ = Value.bool _ from rfl) ?_
                  exact ⟨congrArg Value.bool (by rw [Bool.eq_iff_iff]; simp_all [rgtB, okB, namB, nameB_nil] <;> omega), hx⟩
              · skip
                refine WL.s rfl (g73) rfl ?_
                refine WL.s rfl (g73) rfl ?_
                refine WL.s rfl (g73) rfl ?_
                refine WL.c rfl (o_pickF rfl (g73) ?_)
                refine WL.c rfl (o_mvh (show _ = Value.bool _ from rfl) ?_)
                refine WL.s rfl (rfl) rfl ?_
                refine WL.s rfl (rfl) rfl ?_
                refine WL.s rfl (rfl) rfl ?_
                refine WL.c rfl (o_pickF rfl (rfl) ?_)
                refine WL.c rfl (o_ash (show _ = Value.bool _ from rfl) ?_)
                refine WL.nil ?_
                refine W.ret ?_
                refine ret1v rfl (show _ = Value.bool _ from rfl) ?_
                exact ⟨congrArg Value.bool (by rw [Bool.eq_iff_iff]; simp_all [rgtB, okB, namB, nameB_nil] <;> omega), hx⟩
            · try simp only [cs8] at c70
              refine W.seq ?_
              refine W.seq ?_
              refine W.region ?_
              refine WL.c rfl (o_eq rfl rfl ?_)
              refine WL.c rfl (o_ash (show _ = Value.bool _ from rfl) ?_)
              refine WL.nil ?_
              refine W.cond rfl (fun c83 => ?_) (fun c83 => ?_)
              · try simp only [cs8] at c83
                refine W.skip ?_
                refine W.cond rfl (fun c83 => ?_) (fun c83 => ?_)
                · try simp only [cs8] at c83
                  refine W.seq ?_
                  refine W.region ?_
                  refine WL.c rfl (o_mvh (show _ = Value.bool _ from rfl) ?_)
                  refine WL.c rfl (o_mvh (show _ = Value.bool _ from rfl) ?_)
                  refine WL.sp 1 rfl (fun g87 => ?_) (fun g87 => ?_)
                  · skip
                    refine WL.g rfl (g87) rfl (o_fa 5 TI26 rfl TI3 rfl rfl ?_)
                    refine WL.g rfl (g87) rfl (o_ld TI3 rfl rfl (cell_of hC1 rfl) ?_)
                    refine WL.g rfl (g87) rfl (o_ge rfl rfl ?_)
                    refine WL.c rfl (o_pickA rfl rfl ?_)
                    refine WL.c rfl (o_mvh (show _ = Value.bool _ from rfl) ?_)
                    refine WL.sp 6 rfl (fun g92 => ?_) (fun g92 => ?_)
                    · skip
                      refine WL.g rfl (g92) rfl (o_fa 1 TI26 rfl TI3 rfl rfl ?_)
                      refine WL.g rfl (g92) rfl (o_ld TI3 rfl rfl (cell_of hC1 rfl) ?_)
                      refine WL.g rfl (g92) rfl (o_eq rfl rfl ?_)
                      refine WL.c rfl (o_pickA rfl rfl ?_)
                      refine WL.c rfl (o_ash (show _ = Value.bool _ from rfl) ?_)
                      refine WL.nil ?_
                      refine W.ret ?_
                      refine ret1v rfl (show _ = Value.bool _ from rfl) ?_
                      exact ⟨congrArg Value.bool (by rw [Bool.eq_iff_iff]; simp_all [rgtB, okB, namB, nameB_nil] <;> omega), hx⟩
                    · skip
                      refine WL.s rfl (g92) rfl ?_
                      refine WL.s rfl (g92) rfl ?_
                      refine WL.s rfl (g92) rfl ?_
                      refine WL.c rfl (o_pickF rfl (g92) ?_)
                      refine WL.c rfl (o_ash (show _ = Value.bool _ from rfl) ?_)
                      refine WL.nil ?_
                      refine W.ret ?_
                      refine ret1v rfl (show _ = Value.bool _ from rfl) ?_
                      exact ⟨congrArg Value.bool (by rw [Bool.eq_iff_iff]; simp_all [rgtB, okB, namB, nameB_nil] <;> omega), hx⟩
                  · skip
                    refine WL.s rfl (g87) rfl ?_
                    refine WL.s rfl (g87) rfl ?_
                    refine WL.s rfl (g87) rfl ?_
                    refine WL.c rfl (o_pickF rfl (g87) ?_)
                    refine WL.c rfl (o_mvh (show _ = Value.bool _ from rfl) ?_)
                    refine WL.s rfl (rfl) rfl ?_
                    refine WL.s rfl (rfl) rfl ?_
                    refine WL.s rfl (rfl) rfl ?_
                    refine WL.c rfl (o_pickF rfl (rfl) ?_)
                    refine WL.c rfl (o_ash (show _ = Value.bool _ from rfl) ?_)
                    refine WL.nil ?_
                    refine W.ret ?_
                    refine ret1v rfl (show _ = Value.bool _ from rfl) ?_
                    exact ⟨congrArg Value.bool (by rw [Bool.eq_iff_iff]; simp_all [rgtB, okB, namB, nameB_nil] <;> omega), hx⟩
                · try simp only [cs8] at c83
                  refine W.seq ?_
                  refine W.region ?_
                  refine WL.c rfl (o_eq rfl rfl ?_)
                  refine WL.c rfl (o_ash (show _ = Value.bool _ from rfl) ?_)
                  refine WL.nil ?_
                  refine W.cond rfl (fun c97 => ?_) (fun c97 => ?_)
                  · try simp only [cs8] at c97
                    refine W.seq ?_
                    refine W.region ?_
                    refine WL.c rfl (o_fa 2 TI26 rfl TI9 rfl rfl ?_)
                    refine WL.c rfl (o_ld TI9 rfl rfl (cell_of hC1 rfl) ?_)
                    refine WL.c rfl (o_call Try.call42 (lc rfl ln) ((rname_spec x.name _ hn).mono ?_))
                    rintro v101 w101 ⟨rfl, rfl⟩
                    refine WL.c rfl (o_mvh (show _ = Value.bool _ from rfl) ?_)
                    refine WL.sp 3 rfl (fun g102 => ?_) (fun g102 => ?_)
                    · skip
                      refine WL.g rfl (g102) rfl (o_fa 5 TI26 rfl TI3 rfl rfl ?_)
                      refine WL.g rfl (g102) rfl (o_ld TI3 rfl rfl (cell_of hC1 rfl) ?_)
                      refine WL.g rfl (g102) rfl (o_eq rfl rfl ?_)
                      refine WL.c rfl (o_pickA rfl rfl ?_)
                      refine WL.c rfl (o_mvh (show _ = Value.bool _ from rfl) ?_)
                      refine WL.sp 8 rfl (fun g107 => ?_) (fun g107 => ?_)
                      · skip
                        refine WL.g rfl (g107) rfl (o_fa 1 TI26 rfl TI3 rfl rfl ?_)
                        refine WL.g rfl (g107) rfl (o_ld TI3 rfl rfl (cell_of hC1 rfl) ?_)
                        refine WL.g rfl (g107) rfl (o_eq rfl rfl ?_)
                        refine WL.c rfl (o_pickA rfl rfl ?_)
                        refine WL.c rfl (o_ash (show _ = Value.bool _ from rfl) ?_)
                        refine WL.nil ?_
                        refine W.ret ?_
                        refine ret1v rfl (show _ = Value.bool _ from rfl) ?_
                        exact ⟨congrArg Value.bool (by rw [Bool.eq_iff_iff]; simp_all [rgtB, okB, namB, nameB_nil] <;> omega), hx⟩
                      · skip
                        refine WL.s rfl (g107) rfl ?_
                        refine WL.s rfl (g107) rfl ?_
                        refine WL.s rfl (g107) rfl ?_
                        refine WL.c rfl (o_pickF rfl (g107) ?_)
                        refine WL.c rfl (o_ash (show _ = Value.bool _ from rfl) ?_)
                        refine WL.nil ?_
                        refine W.ret ?_
                        refine ret1v rfl (show _ = Value.bool _ from rfl) ?_
                        exact ⟨congrArg Value.bool (by rw [Bool.eq_iff_iff]; simp_all [rgtB, okB, namB, nameB_nil] <;> omega), hx⟩
                    · skip
                      refine WL.s rfl (g102) rfl ?_
                      refine WL.s rfl (g102) rfl ?_
                      refine WL.s rfl (g102) rfl ?_
                      refine WL.c rfl (o_pickF rfl (g102) ?_)
                      refine WL.c rfl (o_mvh (show _ = Value.bool _ from rfl) ?_)
                      refine WL.s rfl (rfl) rfl ?_
                      refine WL.s rfl (rfl) rfl ?_
                      refine WL.s rfl (rfl) rfl ?_
                      refine WL.c rfl (o_pickF rfl (rfl) ?_)
                      refine WL.c rfl (o_ash (show _ = Value.bool _ from rfl) ?_)
                      refine WL.nil ?_
                      refine W.ret ?_
                      refine ret1v rfl (show _ = Value.bool _ from rfl) ?_
                      exact ⟨congrArg Value.bool (by rw [Bool.eq_iff_iff]; simp_all [rgtB, okB, namB, nameB_nil] <;> omega), hx⟩
                  · try simp only [cs8] at c97
                    refine W.skip ?_
                    refine W.seq ?_
                    refine W.region ?_
                    refine WL.c rfl (o_ash (show _ = Value.bool _ from rfl) ?_)
                    refine WL.nil ?_
                    refine W.ret ?_
                    refine ret1v rfl (show _ = Value.bool _ from rfl) ?_
                    exact ⟨congrArg Value.bool (by rw [Bool.eq_iff_iff]; simp_all [rgtB, okB, namB, nameB_nil] <;> omega), hx⟩
              · try simp only [cs8] at c83
                refine W.region ?_
                refine WL.c rfl (o_eq rfl rfl ?_)
                refine WL.c rfl (o_ash (show _ = Value.bool _ from rfl) ?_)
                refine WL.nil ?_
                refine W.cond rfl (fun c83 => ?_) (fun c83 => ?_)
                · try simp only [cs8] at c83
                  refine W.seq ?_
                  refine W.region ?_
                  refine WL.c rfl (o_mvh (show _ = Value.bool _ from rfl) ?_)
                  refine WL.c rfl (o_mvh (show _ = Value.bool _ from rfl) ?_)
                  refine WL.sp 1 rfl (fun g87 => ?_) (fun g87 => ?_)
                  · skip
                    refine WL.g rfl (g87) rfl (o_fa 5 TI26 rfl TI3 rfl rfl ?_)
                    refine WL.g rfl (g87) rfl (o_ld TI3 rfl rfl (cell_of hC1 rfl) ?_)
                    refine WL.g rfl (g87) rfl (o_ge rfl rfl ?_)
                    refine WL.c rfl (o_pickA rfl rfl ?_)
                    refine WL.c rfl (o_mvh (show _ = Value.bool _ from rfl) ?_)
                    refine WL.sp 6 rfl (fun g92 => ?_) (fun g92 => ?_)
                    · skip
                      refine WL.g rfl (g92) rfl (o_fa 1 TI26 rfl TI3 rfl rfl ?_)
                      refine WL.g rfl (g92) rfl (o_ld TI3 rfl rfl (cell_of hC1 rfl) ?_)
                      refine WL.g rfl (g92) rfl (o_eq rfl rfl ?_)
                      refine WL.c rfl (o_pickA rfl rfl ?_)
                      refine WL.c rfl (o_ash (show _ = Value.bool _ from rfl) ?_)
                      refine WL.nil ?_
                      refine W.ret ?_
                      refine ret1v rfl (show _ = Value.bool _ from rfl) ?_
                      exact ⟨congrArg Value.bool (by rw [Bool.eq_iff_iff]; simp_all [rgtB, okB, namB, nameB_nil] <;> omega), hx⟩
                    · skip
                      refine WL.s rfl (g92) rfl ?_
                      refine WL.s rfl (g92) rfl ?_
                      refine WL.s rfl (g92) rfl ?_
                      refine WL.c rfl (o_pickF rfl (g92) ?_)
                      refine WL.c rfl (o_ash (show _ = Value.bool _ from rfl) ?_)
                      refine WL.nil ?_
                      refine W.ret ?_
                      refine ret1v rfl (show _ = Value.bool _ from rfl) ?_
                      exact ⟨congrArg Value.bool (by rw [Bool.eq_iff_iff]; simp_all [rgtB, okB, namB, nameB_nil] <;> omega), hx⟩
                  · skip
                    refine WL.s rfl (g87) rfl ?_
                    refine WL.s rfl (g87) rfl ?_
                    refine WL.s rfl (g87) rfl ?_
                    refine WL.c rfl (o_pickF rfl (g87) ?_)
                    refine WL.c rfl (o_mvh (show _ = Value.bool _ from rfl) ?_)
                    refine WL.s rfl (rfl) rfl ?_
                    refine WL.s rfl (rfl) rfl ?_
                    refine WL.s rfl (rfl) rfl ?_
                    refine WL.c rfl (o_pickF rfl (rfl) ?_)
                    refine WL.c rfl (o_ash (show _ = Value.bool _ from rfl) ?_)
                    refine WL.nil ?_
                    refine W.ret ?_
                    refine ret1v rfl (show _ = Value.bool _ from rfl) ?_
                    exact ⟨congrArg Value.bool (by rw [Bool.eq_iff_iff]; simp_all [rgtB, okB, namB, nameB_nil] <;> omega), hx⟩
                · try simp only [cs8] at c83
                  refine W.seq ?_
                  refine W.region ?_
                  refine WL.c rfl (o_eq rfl rfl ?_)
                  refine WL.c rfl (o_ash (show _ = Value.bool _ from rfl) ?_)
                  refine WL.nil ?_
                  refine W.cond rfl (fun c97 => ?_) (fun c97 => ?_)
                  · try simp only [cs8] at c97
                    refine W.seq ?_
                    refine W.region ?_
                    refine WL.c rfl (o_fa 2 TI26 rfl TI9 rfl rfl ?_)
                    refine WL.c rfl (o_ld TI9 rfl rfl (cell_of hC1 rfl) ?_)
                    refine WL.c rfl (o_call Try.call42 (lc rfl ln) ((rname_spec x.name _ hn).mono ?_))
                    rintro v101 w101 ⟨rfl, rfl⟩
                    refine WL.c rfl (o_mvh (show _ = Value.bool _ from rfl) ?_)
                    refine WL.sp 3 rfl (fun g102 => ?_) (fun g102 => ?_)
                    · skip
                      refine WL.g rfl (g102) rfl (o_fa 5 TI26 rfl TI3 rfl rfl ?_)
                      refine WL.g rfl (g102) rfl (o_ld TI3 rfl rfl (cell_of hC1 rfl) ?_)
                      refine WL.g rfl (g102) rfl (o_eq rfl rfl ?_)
                      refine WL.c rfl (o_pickA rfl rfl ?_)
                      refine WL.c rfl (o_mvh (show _ = Value.bool _ from rfl) ?_)
                      refine WL.sp 8 rfl (fun g107 => ?_) (fun g107 => ?_)
                      · skip
                        refine WL.g rfl (g107) rfl (o_fa 1 TI26 rfl TI3 rfl rfl ?_)
                        refine WL.g rfl (g107) rfl (o_ld TI3 rfl rfl (cell_of hC1 rfl) ?_)
                        refine WL.g rfl (g107) rfl (o_eq rfl rfl ?_)
                        refine WL.c rfl (o_pickA rfl rfl ?_)
                        refine WL.c rfl (o_ash (show _ = Value.bool _ from rfl) ?_)
                        refine WL.nil ?_
                        refine W.ret ?_
                        refine ret1v rfl (show _ = Value.bool _ from rfl) ?_
                        exact ⟨congrArg Value.bool (by rw [Bool.eq_iff_iff]; simp_all [rgtB, okB, namB, nameB_nil] <;> omega), hx⟩
                      · skip
                        refine WL.s rfl (g107) rfl ?_
                        refine WL.s rfl (g107) rfl ?_
                        refine WL.s rfl (g107) rfl ?_
                        refine WL.c rfl (o_pickF rfl (g107) ?_)
                        refine WL.c rfl (o_ash (show _ = Value.bool _ from rfl) ?_)
                        refine WL.nil ?_
                        refine W.ret ?_
                        refine ret1v rfl (show _ = Value.bool _ from rfl) ?_
                        exact ⟨congrArg Value.bool (by rw [Bool.eq_iff_iff]; simp_all [rgtB, okB, namB, nameB_nil] <;> omega), hx⟩
                    · skip
                      refine WL.s rfl (g102) rfl ?_
                      refine WL.s rfl (g102) rfl ?_
                      refine WL.s rfl (g102) rfl ?_
                      refine WL.c rfl (o_pickF rfl (g102) ?_)
                      refine WL.c rfl (o_mvh (show _ = Value.bool _ from rfl) ?_)
                      refine WL.s rfl (rfl) rfl ?_
                      refine WL.s rfl (rfl) rfl ?_
                      refine WL.s rfl (rfl) rfl ?_
                      refine WL.c rfl (o_pickF rfl (rfl) ?_)
                      refine WL.c rfl (o_ash (show _ = Value.bool _ from rfl) ?_)
                      refine WL.nil ?_
                      refine W.ret ?_
                      refine ret1v rfl (show _ = Value.bool _ from rfl) ?_
                      exact ⟨congrArg Value.bool (by rw [Bool.eq_iff_iff]; simp_all [rgtB, okB, namB, nameB_nil] <;> omega), hx⟩
                  · try simp only [cs8] at c97
                    refine W.skip ?_
                    refine W.seq ?_
                    refine W.region ?_
                    refine WL.c rfl (o_ash (show _ = Value.bool _ from rfl) ?_)
                    refine WL.nil ?_
                    refine W.ret ?_
                    refine ret1v rfl (show _ = Value.bool _ from rfl) ?_
                    exact ⟨congrArg Value.bool (by rw [Bool.eq_iff_iff]; simp_all [rgtB, okB, namB, nameB_nil] <;> omega), hx⟩
        · try simp only [cs8] at c51
          refine W.region ?_
          refine WL.c rfl (o_eq rfl rfl ?_)
          refine WL.c rfl (o_ash (show _ = Value.bool _ from rfl) ?_)
          refine WL.nil ?_
          refine W.cond rfl (fun c51 => ?_) (fun c51 => ?_)
          · try simp only [cs8] at c51
            refine W.seq ?_
            refine W.region ?_
            refine WL.c rfl (o_mvh (show _ = Value.bool _ from rfl) ?_)
            refine WL.c rfl (o_mvh (show _ = Value.bool _ from rfl) ?_)
            refine WL.sp 1 rfl (fun g55 => ?_) (fun g55 => ?_)
            · skip
              refine WL.g rfl (g55) rfl (o_fa 5 TI26 rfl TI3 rfl rfl ?_)
              refine WL.g rfl (g55) rfl (o_ld TI3 rfl rfl (cell_of hC1 rfl) ?_)
              refine WL.g rfl (g55) rfl (o_eq rfl rfl ?_)
              refine WL.c rfl (o_pickA rfl rfl ?_)
              refine WL.c rfl (o_mvh (show _ = Value.bool _ from rfl) ?_)
              refine WL.sp 6 rfl (fun g60 => ?_) (fun g60 => ?_)
              · skip
                refine WL.g rfl (g60) rfl (o_fa 1 TI26 rfl TI3 rfl rfl ?_)
                refine WL.g rfl (g60) rfl (o_ld TI3 rfl rfl (cell_of hC1 rfl) ?_)
                refine WL.g rfl (g60) rfl (o_ge rfl rfl ?_)
                refine WL.c rfl (o_pickA rfl rfl ?_)
                refine WL.c rfl (o_mvh (show _ = Value.bool _ from rfl) ?_)
                refine WL.sp 11 rfl (fun g65 => ?_) (fun g65 => ?_)
                · skip
                  refine WL.g rfl (g65) rfl (o_fa 1 TI26 rfl TI3 rfl rfl ?_)
                  refine WL.g rfl (g65) rfl (o_ld TI3 rfl rfl (cell_of hC1 rfl) ?_)
                  refine WL.g rfl (g65) rfl (o_le rfl rfl ?_)
                  refine WL.c rfl (o_pickA rfl rfl ?_)
                  refine WL.c rfl (o_ash (show _ = Value.bool _ from rfl) ?_)
                  refine WL.nil ?_
                  refine W.ret ?_
                  refine ret1v rfl (show _ = Value.bool _ from rfl) ?_
                  exact ⟨congrArg Value.bool (by rw [Bool.eq_iff_iff]; simp_all [rgtB, okB, namB, nameB_nil] <;> omega), hx⟩
                · skip
                  refine WL.s rfl (g65) rfl ?_
                  refine WL.s rfl (g65) rfl ?_
                  refine WL.s rfl (g65) rfl ?_
                  refine WL.c rfl (o_pickF rfl (g65) ?_)
                  refine WL.c rfl (o_ash (show _ = Value.bool _ from rfl) ?_)
                  refine WL.nil ?_
                  refine W.ret ?_
                  refine ret1v rfl (show _ = Value.bool _ from rfl) ?_
                  exact ⟨congrArg Value.bool (by rw [Bool.eq_iff_iff]; simp_all [rgtB, okB, namB, nameB_nil] <;> omega), hx⟩
              · skip
                refine WL.s rfl (g60) rfl ?_
                refine WL.s rfl (g60) rfl ?_
                refine WL.s rfl (g60) rfl ?_
                refine WL.c rfl (o_pickF rfl (g60) ?_)
                refine WL.c rfl (o_mvh (show _ = Value.bool _ from rfl) ?_)
                refine WL.s rfl (rfl) rfl ?_
                refine WL.s rfl (rfl) rfl ?_
                refine WL.s rfl (rfl) rfl ?_
                refine WL.c rfl (o_pickF rfl (rfl) ?_)
                refine WL.c rfl (o_ash (show _ = Value.bool _ from rfl) ?_)
                refine WL.nil ?_
                refine W.ret ?_
                refine ret1v rfl (show _ = Value.bool _ from rfl) ?_
                exact ⟨congrArg Value.bool (by rw [Bool.eq_iff_iff]; simp_all [rgtB, okB, namB, nameB_nil] <;> omega), hx⟩
            · skip
              refine WL.s rfl (g55) rfl ?_
              refine WL.s rfl (g55) rfl ?_
              refine WL.s rfl (g55) rfl ?_
              refine WL.c rfl (o_pickF rfl (g55) ?_)
              refine WL.c rfl (o_mvh (show _ = Value.bool _ from rfl) ?_)
              refine WL.s rfl (rfl) rfl ?_
              refine WL.s rfl (rfl) rfl ?_
              refine WL.s rfl (rfl) rfl ?_
              refine WL.c rfl (o_pickF rfl (rfl) ?_)
              refine WL.c rfl (o_mvh (show _ = Value.bool _ from rfl) ?_)
              refine WL.s rfl (rfl) rfl ?_
              refine WL.s rfl (rfl) rfl ?_
              refine WL.s rfl (rfl) rfl ?_
              refine WL.c rfl (o_pickF rfl (rfl) ?_)
              refine WL.c rfl (o_ash (show _ = Value.bool _ from rfl) ?_)
              refine WL.nil ?_
              refine W.ret ?_
              refine ret1v rfl (show _ = Value.bool _ from rfl) ?_
              exact ⟨congrArg Value.bool (by rw [Bool.eq_iff_iff]; simp_all [rgtB, okB, namB, nameB_nil] <;> omega), hx⟩
          · try simp only [cs8] at c51
            refine W.seq ?_
            refine W.region ?_
            refine WL.c rfl (o_eq rfl rfl ?_)
            refine WL.c rfl (o_ash (show _ = Value.bool _ from rfl) ?_)
            refine WL.nil ?_
            refine W.cond rfl (fun c70 => ?_) (fun c70 => ?_)
            · try simp only [cs8] at c70
              refine W.seq ?_
              refine W.region ?_
              refine WL.c rfl (o_mvh (show _ = Value.bool _ from rfl) ?_)
              refine WL.c rfl (o_mvh (show _ = Value.bool _ from rfl) ?_)
              refine WL.sp 1 rfl (fun g73 => ?_) (fun g73 => ?_)
              · skip
                refine WL.g rfl (g73) rfl (o_fa 5 TI26 rfl TI3 rfl rfl ?_)
                refine WL.g rfl (g73) rfl (o_ld TI3 rfl rfl (cell_of hC1 rfl) ?_)
                refine WL.g rfl (g73) rfl (o_eq rfl rfl ?_)
                refine WL.c rfl (o_pickA rfl rfl ?_)
                refine WL.c rfl (o_mvh (show _ = Value.bool _ from rfl) ?_)
                refine WL.sp 6 rfl (fun g78 => ?_) (fun g78 => ?_)
                · skip
                  refine WL.g rfl (g78) rfl (o_fa 1 TI26 rfl TI3 rfl rfl ?_)
                  refine WL.g rfl (g78) rfl (o_ld TI3 rfl rfl (cell_of hC1 rfl) ?_)
                  refine WL.g rfl (g78) rfl (o_eq rfl rfl ?_)
                  refine WL.c rfl (o_pickA rfl rfl ?_)
                  refine WL.c rfl (o_ash (show _ = Value.bool _ from rfl) ?_)
                  refine WL.nil ?_
                  refine W.ret ?_
                  refine ret1v rfl (show _ = Value.bool _ from rfl) ?_
                  exact ⟨congrArg Value.bool (by rw [Bool.eq_iff_iff]; simp_all [rgtB, okB, namB, nameB_nil] <;> omega), hx⟩
                · skip
                  refine WL.s rfl (g78) rfl ?_
                  refine WL.s rfl (g78) rfl ?_
                  refine WL.s rfl (g78) rfl ?_
                  refine WL.c rfl (o_pickF rfl (g78) ?_)
                  refine WL.c rfl (o_ash (show _ = Value.bool _ from rfl) ?_)
                  refine WL.nil ?_
                  refine W.ret ?_
                  refine ret1v rfl (show _ = Value.bool _ from rfl) ?_
                  exact ⟨congrArg Value.bool (by rw [Bool.eq_iff_iff]; simp_all [rgtB, okB, namB, nameB_nil] <;> omega), hx⟩
              · skip
                refine WL.s rfl (g73) rfl ?_
                refine WL.s rfl (g73) rfl ?_
                refine WL.s rfl (g73) rfl ?_
                refine WL.c rfl (o_pickF rfl (g73) ?_)
                refine WL.c rfl (o_mvh (show _ = Value.bool _ from rfl) ?_)
                refine WL.s rfl (rfl) rfl ?_
                refine WL.s rfl (rfl) rfl ?_
                refine WL.s rfl (rfl) rfl ?_
                refine WL.c rfl (o_pickF rfl (rfl) ?_)
                refine WL.c rfl (o_ash (show _ = Value.bool _ from rfl) ?_)
                refine WL.nil ?_
                refine W.ret ?_
                refine ret1v rfl (show _ = Value.bool _ from rfl) ?_
                exact ⟨congrArg Value.bool (by rw [Bool.eq_iff_iff]; simp_all [rgtB, okB, namB, nameB_nil] <;> omega), hx⟩
            · try simp only [cs8] at c70
              refine W.seq ?_
              refine W.seq ?_
              refine W.region ?_
              refine WL.c rfl (o_eq rfl rfl ?_)
              refine WL.c rfl (o_ash (show _ = Value.bool _ from rfl) ?_)
              refine WL.nil ?_
              refine W.cond rfl (fun c83 => ?_) (fun c83 => ?_)
              · try simp only [cs8] at c83
                refine W.skip ?_
                refine W.cond rfl (fun c83 => ?_) (fun c83 => ?_)
                · try simp only [cs8] at c83
                  refine W.seq ?_
                  refine W.region ?_
                  refine WL.c rfl (o_mvh (show _ = Value.bool _ from rfl) ?_)
                  refine WL.c rfl (o_mvh (show _ = Value.bool _ from rfl) ?_)
                  refine WL.sp 1 rfl (fun g87 => ?_) (fun g87 => ?_)
                  · skip
                    refine WL.g rfl (g87) rfl (o_fa 5 TI26 rfl TI3 rfl rfl ?_)
                    refine WL.g rfl (g87) rfl (o_ld TI3 rfl rfl (cell_of hC1 rfl) ?_)
                    refine WL.g rfl (g87) rfl (o_ge rfl rfl ?_)
                    refine WL.c rfl (o_pickA rfl rfl ?_)
                    refine WL.c rfl (o_mvh (show _ = Value.bool _ from rfl) ?_)
                    refine WL.sp 6 rfl (fun g92 => ?_) (fun g92 => ?_)
                    · skip
                      refine WL.g rfl (g92) rfl (o_fa 1 TI26 rfl TI3 rfl rfl ?_)
                      refine WL.g rfl (g92) rfl (o_ld TI3 rfl rfl (cell_of hC1 rfl) ?_)
                      refine WL.g rfl (g92) rfl (o_eq rfl rfl ?_)
                      refine WL.c rfl (o_pickA rfl rfl ?_)
                      refine WL.c rfl (o_ash (show _ = Value.bool _ from rfl) ?_)
                      refine WL.nil ?_
                      refine W.ret ?_
                      refine ret1v rfl (show _ = Value.bool _ from rfl) ?_
                      exact ⟨congrArg Value.bool (by rw [Bool.eq_iff_iff]; simp_all [rgtB, okB, namB, nameB_nil] <;> omega), hx⟩
                    · skip
                      refine WL.s rfl (g92) rfl ?_
                      refine WL.s rfl (g92) rfl ?_
                      refine WL.s rfl (g92) rfl ?_
                      refine WL.c rfl (o_pickF rfl (g92) ?_)
                      refine WL.c rfl (o_ash (show _ = Value.bool _ from rfl) ?_)
                      refine WL.nil ?_
                      refine W.ret ?_
                      refine ret1v rfl (show _ = Value.bool _ from rfl) ?_
                      exact ⟨congrArg Value.bool (by rw [Bool.eq_iff_iff]; simp_all [rgtB, okB, namB, nameB_nil] <;> omega), hx⟩
                  · skip
                    refine WL.s rfl (g87) rfl ?_
                    refine WL.s rfl (g87) rfl ?_
                    refine WL.s rfl (g87) rfl ?_
                    refine WL.c rfl (o_pickF rfl (g87) ?_)
                    refine WL.c rfl (o_mvh (show _ = Value.bool _ from rfl) ?_)
                    refine WL.s rfl (rfl) rfl ?_
                    refine WL.s rfl (rfl) rfl ?_
                    refine WL.s rfl (rfl) rfl ?_
                    refine WL.c rfl (o_pickF rfl (rfl) ?_)
                    refine WL.c rfl (o_ash (show _ = Value.bool _ from rfl) ?_)
                    refine WL.nil ?_
                    refine W.ret ?_
                    refine ret1v rfl (show _ = Value.bool _ from rfl) ?_
                    exact ⟨congrArg Value.bool (by rw [Bool.eq_iff_iff]; simp_all [rgtB, okB, namB, nameB_nil] <;> omega), hx⟩
                · try simp only [cs8] at c83
                  refine W.seq ?_
                  refine W.region ?_
                  refine WL.c rfl (o_eq rfl rfl ?_)
                  refine WL.c rfl (o_ash (show _ = Value.bool _ from rfl) ?_)
                  refine WL.nil ?_
                  refine W.cond rfl (fun c97 => ?_) (fun c97 => ?_)
                  · try simp only [cs8] at c97
                    refine W.seq ?_
                    refine W.region ?_
                    refine WL.c rfl (o_fa 2 TI26 rfl TI9 rfl rfl ?_)
                    refine WL.c rfl (o_ld TI9 rfl rfl (cell_of hC1 rfl) ?_)
                    refine WL.c rfl (o_call Try.call42 (lc rfl ln) ((rname_spec x.name _ hn).mono ?_))
                    rintro v101 w101 ⟨rfl, rfl⟩
                    refine WL.c rfl (o_mvh (show _ = Value.bool _ from rfl) ?_)
                    refine WL.sp 3 rfl (fun g102 => ?_) (fun g102 => ?_)
                    · skip
                      refine WL.g rfl (g102) rfl (o_fa 5 TI26 rfl TI3 rfl rfl ?_)
                      refine WL.g rfl (g102) rfl (o_ld TI3 rfl rfl (cell_of hC1 rfl) ?_)
                      refine WL.g rfl (g102) rfl (o_eq rfl rfl ?_)
                      refine WL.c rfl (o_pickA rfl rfl ?_)
                      refine WL.c rfl (o_mvh (show _ = Value.bool _ from rfl) ?_)
                      refine WL.sp 8 rfl (fun g107 => ?_) (fun g107 => ?_)
                      · skip
                        refine WL.g rfl (g107) rfl (o_fa 1 TI26 rfl TI3 rfl rfl ?_)
                        refine WL.g rfl (g107) rfl (o_ld TI3 rfl rfl (cell_of hC1 rfl) ?_)
                        refine WL.g rfl (g107) rfl (o_eq rfl rfl ?_)
                        refine WL.c rfl (o_pickA rfl rfl ?_)
                        refine WL.c rfl (o_ash (show _ = Value.bool _ from rfl) ?_)
                        refine WL.nil ?_
                        refine W.ret ?_
                        refine ret1v rfl (show _ = Value.bool _ from rfl) ?_
                        exact ⟨congrArg Value.bool (by rw [Bool.eq_iff_iff]; simp_all [rgtB, okB, namB, nameB_nil] <;> omega), hx⟩
                      · skip
                        refine WL.s rfl (g107) rfl ?_
                        refine WL.s rfl (g107) rfl ?_
                        refine WL.s rfl (g107) rfl ?_
                        refine WL.c rfl (o_pickF rfl (g107) ?_)
                        refine WL.c rfl (o_ash (show _ = Value.bool _ from rfl) ?_)
                        refine WL.nil ?_
                        refine W.ret ?_
                        refine ret1v rfl (show _ = Value.bool _ from rfl) ?_
                        exact ⟨congrArg Value.bool (by rw [Bool.eq_iff_iff]; simp_all [rgtB, okB, namB, nameB_nil] <;> omega), hx⟩
                    · skip
                      refine WL.s rfl (g102) rfl ?_
                      refine WL.s rfl (g102) rfl ?_
                      refine WL.s rfl (g102) rfl ?_
                      refine WL.c rfl (o_pickF rfl (g102) ?_)
                      refine WL.c rfl (o_mvh (show _ = Value.bool _ from rfl) ?_)
                      refine WL.s rfl (rfl) rfl ?_
                      refine WL.s rfl (rfl) rfl ?_
                      refine WL.s rfl (rfl) rfl ?_
                      refine WL.c rfl (o_pickF rfl (rfl) ?_)
                      refine WL.c rfl (o_ash (show _ = Value.bool _ from rfl) ?_)
                      refine WL.nil ?_
                      refine W.ret ?_
                      refine ret1v rfl (show _ = Value.bool _ from rfl) ?_
                      exact ⟨congrArg Value.bool (by rw [Bool.eq_iff_iff]; simp_all [rgtB, okB, namB, nameB_nil] <;> omega), hx⟩
                  · try simp only [cs8] at c97
                    refine W.skip ?_
                    refine W.seq ?_
                    refine W.region ?_
                    refine WL.c rfl (o_ash (show _ = Value.bool _ from rfl) ?_)
                    refine WL.nil ?_
                    refine W.ret ?_
                    refine ret1v rfl (show _ = Value.bool _ from rfl) ?_
                    exact ⟨congrArg Value.bool (by rw [Bool.eq_iff_iff]; simp_all [rgtB, okB, namB, nameB_nil] <;> omega), hx⟩
              · try simp only [cs8] at c83
                refine W.region ?_
                refine WL.c rfl (o_eq rfl rfl ?_)
                refine WL.c rfl (o_ash (show _ = Value.bool _ from rfl) ?_)
                refine WL.nil ?_
                refine W.cond rfl (fun c83 => ?_) (fun c83 => ?_)
                · try simp only [cs8] at c83
                  refine W.seq ?_
                  refine W.region ?_
                  refine WL.c rfl (o_mvh (show _ = Value.bool _ from rfl) ?_)
                  refine WL.c rfl (o_mvh (show _ = Value.bool _ from rfl) ?_)
                  refine WL.sp 1 rfl (fun g87 => ?_) (fun g87 => ?_)
                  · skip
                    refine WL.g rfl (g87) rfl (o_fa 5 TI26 rfl TI3 rfl rfl ?_)
                    refine WL.g rfl (g87) rfl (o_ld TI3 rfl rfl (cell_of hC1 rfl) ?_)
                    refine WL.g rfl (g87) rfl (o_ge rfl rfl ?_)
                    refine WL.c rfl (o_pickA rfl rfl ?_)
                    refine WL.c rfl (o_mvh (show _ = Value.bool _ from rfl) ?_)
                    refine WL.sp 6 rfl (fun g92 => ?_) (fun g92 => ?_)
                    · skip
                      refine WL.g rfl (g92) rfl (o_fa 1 TI26 rfl TI3 rfl rfl ?_)
                      refine WL.g rfl (g92) rfl (o_ld TI3 rfl rfl (cell_of hC1 rfl) ?_)
                      refine WL.g rfl (g92) rfl (o_eq rfl rfl ?_)
                      refine WL.c rfl (o_pickA rfl rfl ?_)
                      refine WL.c rfl (o_ash (show _ = Value.bool _ from rfl) ?_)
                      refine WL.nil ?_
                      refine W.ret ?_
                      refine ret1v rfl (show _ = Value.bool _ from rfl) ?_
                      exact ⟨congrArg Value.bool (by rw [Bool.eq_iff_iff]; simp_all [rgtB, okB, namB, nameB_nil] <;> omega), hx⟩
                    · skip
                      refine WL.s rfl (g92) rfl ?_
                      refine WL.s rfl (g92) rfl ?_
                      refine WL.s rfl (g92) rfl ?_
                      refine WL.c rfl (o_pickF rfl (g92) ?_)
                      refine WL.c rfl (o_ash (show _ = Value.bool _ from rfl) ?_)
                      refine WL.nil ?_
                      refine W.ret ?_
                      refine ret1v rfl (show _ = Value.bool _ from rfl) ?_
                      exact ⟨congrArg Value.bool (by rw [Bool.eq_iff_iff]; simp_all [rgtB, okB, namB, nameB_nil] <;> omega), hx⟩
                  · skip
                    refine WL.s rfl (g87) rfl ?_
                    refine WL.s rfl (g87) rfl ?_
                    refine WL.s rfl (g87) rfl ?_
                    refine WL.c rfl (o_pickF rfl (g87) ?_)
                    refine WL.c rfl (o_mvh (show _ = Value.bool _ from rfl) ?_)
                    refine WL.s rfl (rfl) rfl ?_
                    refine WL.s rfl (rfl) rfl ?_
                    refine WL.s rfl (rfl) rfl ?_
                    refine WL.c rfl (o_pickF rfl (rfl) ?_)
                    refine WL.c rfl (o_ash (show _ = Value.bool _ from rfl) ?_)
                    refine WL.nil ?_
                    refine W.ret ?_
                    refine ret1v rfl (show _ = Value.bool _ from rfl) ?_
                    exact ⟨congrArg Value.bool (by rw [Bool.eq_iff_iff]; simp_all [rgtB, okB, namB, nameB_nil] <;> omega), hx⟩
                · try simp only [cs8] at c83
                  refine W.seq ?_
                  refine W.region ?_
                  refine WL.c rfl (o_eq rfl rfl ?_)
                  refine WL.c rfl (o_ash (show _ = Value.bool _ from rfl) ?_)
                  refine WL.nil ?_
                  refine W.cond rfl (fun c97 => ?_) (fun c97 => ?_)
                  · try simp only [cs8] at c97
                    refine W.seq ?_
                    refine W.region ?_
                    refine WL.c rfl (o_fa 2 TI26 rfl TI9 rfl rfl ?_)
                    refine WL.c rfl (o_ld TI9 rfl rfl (cell_of hC1 rfl) ?_)
                    refine WL.c rfl (o_call Try.call42 (lc rfl ln) ((rname_spec x.name _ hn).mono ?_))
                    rintro v101 w101 ⟨rfl, rfl⟩
                    refine WL.c rfl (o_mvh (show _ = Value.bool _ from rfl) ?_)
                    refine WL.sp 3 rfl (fun g102 => ?_) (fun g102 => ?_)
                    · skip
                      refine WL.g rfl (g102) rfl (o_fa 5 TI26 rfl TI3 rfl rfl ?_)
                      refine WL.g rfl (g102) rfl (o_ld TI3 rfl rfl (cell_of hC1 rfl) ?_)
                      refine WL.g rfl (g102) rfl (o_eq rfl rfl ?_)
                      refine WL.c rfl (o_pickA rfl rfl ?_)
                      refine WL.c rfl (o_mvh (show _ = Value.bool _ from rfl) ?_)
                      refine WL.sp 8 rfl (fun g107 => ?_) (fun g107 => ?_)
                      · skip
                        refine WL.g rfl (g107) rfl (o_fa 1 TI26 rfl TI3 rfl rfl ?_)
                        refine WL.g rfl (g107) rfl (o_ld TI3 rfl rfl (cell_of hC1 rfl) ?_)
                        refine WL.g rfl (g107) rfl (o_eq rfl rfl ?_)
                        refine WL.c rfl (o_pickA rfl rfl ?_)
                        refine WL.c rfl (o_ash (show _ = Value.bool _ from rfl) ?_)
                        refine WL.nil ?_
                        refine W.ret ?_
                        refine ret1v rfl (show _ = Value.bool _ from rfl) ?_
                        exact ⟨congrArg Value.bool (by rw [Bool.eq_iff_iff]; simp_all [rgtB, okB, namB, nameB_nil] <;> omega), hx⟩
                      · skip
                        refine WL.s rfl (g107) rfl ?_
                        refine WL.s rfl (g107) rfl ?_
                        refine WL.s rfl (g107) rfl ?_
                        refine WL.c rfl (o_pickF rfl (g107) ?_)
                        refine WL.c rfl (o_ash (show _ = Value.bool _ from rfl) ?_)
                        refine WL.nil ?_
                        refine W.ret ?_
                        refine ret1v rfl (show _ = Value.bool _ from rfl) ?_
                        exact ⟨congrArg Value.bool (by rw [Bool.eq_iff_iff]; simp_all [rgtB, okB, namB, nameB_nil] <;> omega), hx⟩
                    · skip
                      refine WL.s rfl (g102) rfl ?_
                      refine WL.s rfl (g102) rfl ?_
                      refine WL.s rfl (g102) rfl ?_
                      refine WL.c rfl (o_pickF rfl (g102) ?_)
                      refine WL.c rfl (o_mvh (show _ = Value.bool _ from rfl) ?_)
                      refine WL.s rfl (rfl) rfl ?_
                      refine WL.s rfl (rfl) rfl ?_
                      refine WL.s rfl (rfl) rfl ?_
                      refine WL.c rfl (o_pickF rfl (rfl) ?_)
                      refine WL.c rfl (o_ash (show _ = Value.bool _ from rfl) ?_)
                      refine WL.nil ?_
                      refine W.ret ?_
                      refine ret1v rfl (show _ = Value.bool _ from rfl) ?_
                      exact ⟨congrArg Value.bool (by rw [Bool.eq_iff_iff]; simp_all [rgtB, okB, namB, nameB_nil] <;> omega), hx⟩
                  · try simp only [cs8] at c97
                    refine W.skip ?_
                    refine W.seq ?_
                    refine W.region ?_
                    refine WL.c rfl (o_ash (show _ = Value.bool _ from rfl) ?_)
                    refine WL.nil ?_
                    refine W.ret ?_
                    refine ret1v rfl (show _ = Value.bool _ from rfl) ?_
                    exact ⟨congrArg Value.bool (by rw [Bool.eq_iff_iff]; simp_all [rgtB, okB, namB, nameB_nil] <;> omega), hx⟩
    · try simp only [cs8] at c37
      refine W.region ?_
      refine WL.c rfl (o_eq rfl rfl ?_)
      refine WL.c rfl (o_ash (show _ = Value.bool _ from rfl) ?_)
      refine WL.nil ?_
      refine W.cond rfl (fun c37 => ?_) (fun c37 => ?_)
      · try simp only [cs8] at c37
        refine W.seq ?_
        refine W.region ?_
        refine WL.c rfl (o_mvh (show _ = Value.bool _ from rfl) ?_)
        refine WL.c rfl (o_mvh (show _ = Value.bool _ from rfl) ?_)
        refine WL.sp 1 rfl (fun g41 => ?_) (fun g41 => ?_)
        · skip
          refine WL.g rfl (g41) rfl (o_fa 5 TI26 rfl TI3 rfl rfl ?_)
          refine WL.g rfl (g41) rfl (o_ld TI3 rfl rfl (cell_of hC1 rfl) ?_)
          refine WL.g rfl (g41) rfl (o_eq rfl rfl ?_)
          refine WL.c rfl (o_pickA rfl rfl ?_)
          refine WL.c rfl (o_mvh (show _ = Value.bool _ from rfl) ?_)
          refine WL.sp 6 rfl (fun g46 => ?_) (fun g46 => ?_)
          · skip
            refine WL.g rfl (g46) rfl (o_fa 1 TI26 rfl TI3 rfl rfl ?_)
            refine WL.g rfl (g46) rfl (o_ld TI3 rfl rfl (cell_of hC1 rfl) ?_)
            refine WL.g rfl (g46) rfl (o_eq rfl rfl ?_)
            refine WL.c rfl (o_pickA rfl rfl ?_)
            refine WL.c rfl (o_ash (show _ = Value.bool _ from rfl) ?_)
            refine WL.nil ?_
            refine W.ret ?_
            refine ret1v rfl (show _ = Value.bool _ from rfl) ?_
            exact ⟨congrArg Value.bool (by rw [Bool.eq_iff_iff]; simp_all [rgtB, okB, namB, nameB_nil] <;> omega), hx⟩
          · skip
            refine WL.s rfl (g46) rfl ?_
            refine WL.s rfl (g46) rfl ?_
            refine WL.s rfl (g46) rfl ?_
            refine WL.c rfl (o_pickF rfl (g46) ?_)
            refine WL.c rfl (o_ash (show _ = Value.bool _ from rfl) ?_)
            refine WL.nil ?_
            refine W.ret ?_
            refine ret1v rfl (show _ = Value.bool _ from rfl) ?_
            exact ⟨congrArg Value.bool (by rw [Bool.eq_iff_iff]; simp_all [rgtB, okB, namB, nameB_nil] <;> omega), hx⟩
        · skip
          refine WL.s rfl (g41) rfl ?_
          refine WL.s rfl (g41) rfl ?_
          refine WL.s rfl (g41) rfl ?_
          refine WL.c rfl (o_pickF rfl (g41) ?_)
          refine WL.c rfl (o_mvh (show _ = Value.bool _ from rfl) ?_)
          refine WL.s rfl (rfl) rfl ?_
          refine WL.s rfl (rfl) rfl ?_
          refine WL.s rfl (rfl) rfl ?_
          refine WL.c rfl (o_pickF rfl (rfl) ?_)
          refine WL.c rfl (o_ash (show _ = Value.bool _ from rfl) ?_)
          refine WL.nil ?_
          refine W.ret ?_
          refine ret1v rfl (show _ = Value.bool _ from rfl) ?_
          exact ⟨congrArg Value.bool (by rw [Bool.eq_iff_iff]; simp_all [rgtB, okB, namB, nameB_nil] <;> omega), hx⟩
      · try simp only [cs8] at c37
        refine W.seq ?_
        refine W.seq ?_
        refine W.region ?_
        refine WL.c rfl (o_eq rfl rfl ?_)
        refine WL.c rfl (o_ash (show _ = Value.bool _ from rfl) ?_)
        refine WL.nil ?_
        refine W.cond rfl (fun c51 => ?_) (fun c51 => ?_)
        · try simp only [cs8] at c51
          refine W.skip ?_
          refine W.cond rfl (fun c51 => ?_) (fun c51 => ?_)
          · try simp only [cs8] at c51
            refine W.seq ?_
            refine W.region ?_
            refine WL.c rfl (o_mvh (show _ = Value.bool _ from rfl) ?_)
            refine WL.c rfl (o_mvh (show _ = Value.bool _ from rfl) ?_)
            refine WL.sp 1 rfl (fun g55 => ?_) (fun g55 => ?_)
            · skip
              refine WL.g rfl (g55) rfl (o_fa 5 TI26 rfl TI3 rfl rfl ?_)
              refine WL.g rfl (g55) rfl (o_ld TI3 rfl rfl (cell_of hC1 rfl) ?_)
              refine WL.g rfl (g55) rfl (o_eq rfl rfl ?_)
              refine WL.c rfl (o_pickA rfl rfl ?_)
              refine WL.c rfl (o_mvh (show _ = Value.bool _ from rfl) ?_)
              refine WL.sp 6 rfl (fun g60 => ?_) (fun g60 => ?_)
              · skip
                refine WL.g rfl (g60) rfl (o_fa 1 TI26 rfl TI3 rfl rfl ?_)
                refine WL.g rfl (g60) rfl (o_ld TI3 rfl rfl (cell_of hC1 rfl) ?_)
                refine WL.g rfl (g60) rfl (o_ge rfl rfl ?_)
                refine WL.c rfl (o_pickA rfl rfl ?_)
                refine WL.c rfl (o_mvh (show _ = Value.bool _ from rfl) ?_)
                refine WL.sp 11 rfl (fun g65 => ?_) (fun g65 => ?_)
                · skip
                  refine WL.g rfl (g65) rfl (o_fa 1 TI26 rfl TI3 rfl rfl ?_)
                  refine WL.g rfl (g65) rfl (o_ld TI3 rfl rfl (cell_of hC1 rfl) ?_)
                  refine WL.g rfl (g65) rfl (o_le rfl rfl ?_)
                  refine WL.c rfl (o_pickA rfl rfl ?_)
                  refine WL.c rfl (o_ash (show _ = Value.bool _ from rfl) ?_)
                  refine WL.nil ?_
                  refine W.ret ?_
                  refine ret1v rfl (show _ = Value.bool _ from rfl) ?_
                  exact ⟨congrArg Value.bool (by rw [Bool.eq_iff_iff]; simp_all [rgtB, okB, namB, nameB_nil] <;> omega), hx⟩
                · skip
                  refine WL.s rfl (g65) rfl ?_
                  refine WL.s rfl (g65) rfl ?_
                  refine WL.s rfl (g65) rfl ?_
                  refine WL.c rfl (o_pickF rfl (g65) ?_)
                  refine WL.c rfl (o_ash (show _ = Value.bool _ from rfl) ?_)
                  refine WL.nil ?_
                  refine W.ret ?_
                  refine ret1v rfl (show _ = Value.bool _ from rfl) ?_
                  exact ⟨congrArg Value.bool (by rw [Bool.eq_iff_iff]; simp_all [rgtB, okB, namB, nameB_nil] <;> omega), hx⟩
              · skip
                refine WL.s rfl (g60) rfl ?_
                refine WL.s rfl (g60) rfl ?_
                refine WL.s rfl (g60) rfl ?_
                refine WL.c rfl (o_pickF rfl (g60) ?_)
                refine WL.c rfl (o_mvh (show _ = Value.bool _ from rfl) ?_)
                refine WL.s rfl (rfl) rfl ?_
                refine WL.s rfl (rfl) rfl ?_
                refine WL.s rfl (rfl) rfl ?_
                refine WL.c rfl (o_pickF rfl (rfl) ?_)
                refine WL.c rfl (o_ash (show _ = Value.bool _ from rfl) ?_)
                refine WL.nil ?_
                refine W.ret ?_
                refine ret1v rfl (show _ = Value.bool _ from rfl) ?_
                exact ⟨congrArg Value.bool (by rw [Bool.eq_iff_iff]; simp_all [rgtB, okB, namB, nameB_nil] <;> omega), hx⟩
            · skip
              refine WL.s rfl (g55) rfl ?_
              refine WL.s rfl (g55) rfl ?_
              refine WL.s rfl (g55) rfl ?_
              refine WL.c rfl (o_pickF rfl (g55) ?_)
              refine WL.c rfl (o_mvh (show _ = Value.bool _ from rfl) ?_)
              refine WL.s rfl (rfl) rfl ?_
              refine WL.s rfl (rfl) rfl ?_
              refine WL.s rfl (rfl) rfl ?_
              refine WL.c rfl (o_pickF rfl (rfl) ?_)
              refine WL.c rfl (o_mvh (show _ = Value.bool _ from rfl) ?_)
              refine WL.s rfl (rfl) rfl ?_
              refine WL.s rfl (rfl) rfl ?_
              refine WL.s rfl (rfl) rfl ?_
              refine WL.c rfl (o_pickF rfl (rfl) ?_)
              refine WL.c rfl (o_ash (show _ = Value.bool _ from rfl) ?_)
              refine WL.nil ?_
              refine W.ret ?_
              refine ret1v rfl (show _ = Value.bool _ from rfl) ?_
              exact ⟨congrArg Value.bool (by rw [Bool.eq_iff_iff]; simp_all [rgtB, okB, namB, nameB_nil] <;> omega), hx⟩
          · try simp only [cs8] at c51
            refine W.seq ?_
            refine W.region ?_
            refine WL.c rfl (o_eq rfl rfl ?_)
            refine WL.c rfl (o_ash (show _ = Value.bool _ from rfl) ?_)
            refine WL.nil ?_
            refine W.cond rfl (fun c70 => ?_) (fun c70 => ?_)
            · try simp only [cs8] at c70
              refine W.seq ?_
              refine W.region ?_
              refine WL.c rfl (o_mvh (show _ = Value.bool _ from rfl) ?_)
              refine WL.c rfl (o_mvh (show _ = Value.bool _ from rfl) ?_)
              refine WL.sp 1 rfl (fun g73 => ?_) (fun g73 => ?_)
              · skip
                refine WL.g rfl (g73) rfl (o_fa 5 TI26 rfl TI3 rfl rfl ?_)
                refine WL.g rfl (g73) rfl (o_ld TI3 rfl rfl (cell_of hC1 rfl) ?_)
                refine WL.g rfl (g73) rfl (o_eq rfl rfl ?_)
                refine WL.c rfl (o_pickA rfl rfl ?_)
                refine WL.c rfl (o_mvh (show _ = Value.bool _ from rfl) ?_)
                refine WL.sp 6 rfl (fun g78 => ?_) (fun g78 => ?_)
                · skip
                  refine WL.g rfl (g78) rfl (o_fa 1 TI26 rfl TI3 rfl rfl ?_)
                  refine WL.g rfl (g78) rfl (o_ld TI3 rfl rfl (cell_of hC1 rfl) ?_)
                  refine WL.g rfl (g78) rfl (o_eq rfl rfl ?_)
                  refine WL.c rfl (o_pickA rfl rfl ?_)
                  refine WL.c rfl (o_ash (show _ = Value.bool _ from rfl) ?_)
                  refine WL.nil ?_
                  refine W.ret ?_
                  refine ret1v rfl (show _ = Value.bool _ from rfl) ?_
                  exact ⟨congrArg Value.bool (by rw [Bool.eq_iff_iff]; simp_all [rgtB, okB, namB, nameB_nil] <;> omega), hx⟩
                · skip
                  refine WL.s rfl (g78) rfl ?_
                  refine WL.s rfl (g78) rfl ?_
                  refine WL.s rfl (g78) rfl ?_
                  refine WL.c rfl (o_pickF rfl (g78) ?_)
                  refine WL.c rfl (o_ash (show _ = Value.bool _ from rfl) ?_)
                  refine WL.nil ?_
                  refine W.ret ?_
                  refine ret1v rfl (show _ = Value.bool _ from rfl) ?_
                  exact ⟨congrArg Value.bool (by rw [Bool.eq_iff_iff]; simp_all [rgtB, okB, namB, nameB_nil] <;> omega), hx⟩
              · skip
                refine WL.s rfl (g73) rfl ?_
                refine WL.s rfl (g73) rfl ?_
                refine WL.s rfl (g73) rfl ?_
                refine WL.c rfl (o_pickF rfl (g73) ?_)
                refine WL.c rfl (o_mvh (show _ = Value.bool _ from rfl) ?_)
                refine WL.s rfl (rfl) rfl ?_
                refine WL.s rfl (rfl) rfl ?_
                refine WL.s rfl (rfl) rfl ?_
                refine WL.c rfl (o_pickF rfl (rfl) ?_)
                refine WL.c rfl (o_ash (show _ = Value.bool _ from rfl) ?_)
                refine WL.nil ?_
                refine W.ret ?_
                refine ret1v rfl (show _ = Value.bool _ from rfl) ?_
                exact ⟨congrArg Value.bool (by rw [Bool.eq_iff_iff]; simp_all [rgtB, okB, namB, nameB_nil] <;> omega), hx⟩
            · try simp only [cs8] at c70
              refine W.seq ?_
              refine W.seq ?_
              refine W.region ?_
              refine WL.c rfl (o_eq rfl rfl ?_)
              refine WL.c rfl (o_ash (show _ = Value.bool _ from rfl) ?_)
              refine WL.nil ?_
              refine W.cond rfl (fun c83 => ?_) (fun c83 => ?_)
              · try simp only [cs8] at c83
                refine W.skip ?_
                refine W.cond rfl (fun c83 => ?_) (fun c83 => ?_)
                · try simp only [cs8] at c83
                  refine W.seq ?_
                  refine W.region ?_
                  refine WL.c rfl (o_mvh (show _ = Value.bool _ from rfl) ?_)
                  refine WL.c rfl (o_mvh (show _ = Value.bool _ from rfl) ?_)
                  refine WL.sp 1 rfl (fun g87 => ?_) (fun g87 => ?_)
                  · skip
                    refine WL.g rfl (g87) rfl (o_fa 5 TI26 rfl TI3 rfl rfl ?_)
                    refine WL.g rfl (g87) rfl (o_ld TI3 rfl rfl (cell_of hC1 rfl) ?_)
                    refine WL.g rfl (g87) rfl (o_ge rfl rfl ?_)
                    refine WL.c rfl (o_pickA rfl rfl ?_)
                    refine WL.c rfl (o_mvh (show _ = Value.bool _ from rfl) ?_)
                    refine WL.sp 6 rfl (fun g92 => ?_) (fun g92 => ?_)
                    · skip
                      refine WL.g rfl (g92) rfl (o_fa 1 TI26 rfl TI3 rfl rfl ?_)
                      refine WL.g rfl (g92) rfl (o_ld TI3 rfl rfl (cell_of hC1 rfl) ?_)
                      refine WL.g rfl (g92) rfl (o_eq rfl rfl ?_)
                      refine WL.c rfl (o_pickA rfl rfl ?_)
                      refine WL.c rfl (o_ash (show _ = Value.bool _ from rfl) ?_)
                      refine WL.nil ?_
                      refine W.ret ?_
                      refine ret1v rfl (show _ = Value.bool _ from rfl) ?_
                      exact ⟨congrArg Value.bool (by rw [Bool.eq_iff_iff]; simp_all [rgtB, okB, namB, nameB_nil] <;> omega), hx⟩
                    · skip
                      refine WL.s rfl (g92) rfl ?_
                      refine WL.s rfl (g92) rfl ?_
                      refine WL.s rfl (g92) rfl ?_
                      refine WL.c rfl (o_pickF rfl (g92) ?_)
                      refine WL.c rfl (o_ash (show _ = Value.bool _ from rfl) ?_)
                      refine WL.nil ?_
                      refine W.ret ?_
                      refine ret1v rfl (show _ = Value.bool _ from rfl) ?_
                      exact ⟨congrArg Value.bool (by rw [Bool.eq_iff_iff]; simp_all [rgtB, okB, namB, nameB_nil] <;> omega), hx⟩
                  · skip
                    refine WL.s rfl (g87) rfl ?_
                    refine WL.s rfl (g87) rfl ?_
                    refine WL.s rfl (g87) rfl ?_
                    refine WL.c rfl (o_pickF rfl (g87) ?_)
                    refine WL.c rfl (o_mvh (show _ = Value.bool _ from rfl) ?_)
                    refine WL.s rfl (rfl) rfl ?_
                    refine WL.s rfl (rfl) rfl ?_
                    refine WL.s rfl (rfl) rfl ?_
                    refine WL.c rfl (o_pickF rfl (rfl) ?_)
                    refine WL.c rfl (o_ash (show _ = Value.bool _ from rfl) ?_)
                    refine WL.nil ?_
                    refine W.ret ?_
                    refine ret1v rfl (show _ = Value.bool _ from rfl) ?_
                    exact ⟨congrArg Value.bool (by rw [Bool.eq_iff_iff]; simp_all [rgtB, okB, namB, nameB_nil] <;> omega), hx⟩
                · try simp only [cs8] at c83
                  refine W.seq ?_
                  refine W.region ?_
                  refine WL.c rfl (o_eq rfl rfl ?_)
                  refine WL.c rfl (o_ash (show _ = Value.bool _ from rfl) ?_)
                  refine WL.nil ?_
                  refine W.cond rfl (fun c97 => ?_) (fun c97 => ?_)
                  · try simp only [cs8] at c97
                    refine W.seq ?_
                    refine W.region ?_
                    refine WL.c rfl (o_fa 2 TI26 rfl TI9 rfl rfl ?_)
                    refine WL.c rfl (o_ld TI9 rfl rfl (cell_of hC1 rfl) ?_)
                    refine WL.c rfl (o_call Try.call42 (lc rfl ln) ((rname_spec x.name _ hn).mono ?_))
                    rintro v101 w101 ⟨rfl, rfl⟩
                    refine WL.c rfl (o_mvh (show _ = Value.bool _ from rfl) ?_)
                    refine WL.sp 3 rfl (fun g102 => ?_) (fun g102 => ?_)
                    · skip
                      refine WL.g rfl (g102) rfl (o_fa 5 TI26 rfl TI3 rfl rfl ?_)
                      refine WL.g rfl (g102) rfl (o_ld TI3 rfl rfl (cell_of hC1 rfl) ?_)
                      refine WL.g rfl (g102) rfl (o_eq rfl rfl ?_)
                      refine WL.c rfl (o_pickA rfl rfl ?_)
                      refine WL.c rfl (o_mvh (show _ = Value.bool _ from rfl) ?_)
                      refine WL.sp 8 rfl (fun g107 => ?_) (fun g107 => ?_)
                      · skip
                        refine WL.g rfl (g107) rfl (o_fa 1 TI26 rfl TI3 rfl rfl ?_)
                        refine WL.g rfl (g107) rfl (o_ld TI3 rfl rfl (cell_of hC1 rfl) ?_)
                        refine WL.g rfl (g107) rfl (o_eq rfl rfl ?_)
                        refine WL.c rfl (o_pickA rfl rfl ?_)
                        refine WL.c rfl (o_ash (show _ = Value.bool _ from rfl) ?_)
                        refine WL.nil ?_
                        refine W.ret ?_
                        refine ret1v rfl (show _ = Value.bool _ from rfl) ?_
                        exact ⟨congrArg Value.bool (by rw [Bool.eq_iff_iff]; simp_all [rgtB, okB, namB, nameB_nil] <;> omega), hx⟩
                      · skip
                        refine WL.s rfl (g107) rfl ?_
                        refine WL.s rfl (g107) rfl ?_
                        refine WL.s rfl (g107) rfl ?_
                        refine WL.c rfl (o_pickF rfl (g107) ?_)
                        refine WL.c rfl (o_ash (show _ = Value.bool _ from rfl) ?_)
                        refine WL.nil ?_
                        refine W.ret ?_
                        refine ret1v rfl (show _ = Value.bool _ from rfl) ?_
                        exact ⟨congrArg Value.bool (by rw [Bool.eq_iff_iff]; simp_all [rgtB, okB, namB, nameB_nil] <;> omega), hx⟩
                    · skip
                      refine WL.s rfl (g102) rfl ?_
                      refine WL.s rfl (g102) rfl ?_
                      refine WL.s rfl (g102) rfl ?_
                      refine WL.c rfl (o_pickF rfl (g102) ?_)
                      refine WL.c rfl (o_mvh (show _ = Value.bool _ from rfl) ?_)
                      refine WL.s rfl (rfl) rfl ?_
                      refine WL.s rfl (rfl) rfl ?_
                      refine WL.s rfl (rfl) rfl ?_
                      refine WL.c rfl (o_pickF rfl (rfl) ?_)
                      refine WL.c rfl (o_ash (show _ = Value.bool _ from rfl) ?_)
                      refine WL.nil ?_
                      refine W.ret ?_
                      refine ret1v rfl (show _ = Value.bool _ from rfl) ?_
                      exact ⟨congrArg Value.bool (by rw [Bool.eq_iff_iff]; simp_all [rgtB, okB, namB, nameB_nil] <;> omega), hx⟩
                  · try simp only [cs8] at c97
                    refine W.skip ?_
                    refine W.seq ?_
                    refine W.region ?_
                    refine WL.c rfl (o_ash (show _ = Value.bool _ from rfl) ?_)
                    refine WL.nil ?_
                    refine W.ret ?_
                    refine ret1v rfl (show _ = Value.bool _ from rfl) ?_
                    exact ⟨congrArg Value.bool (by rw [Bool.eq_iff_iff]; simp_all [rgtB, okB, namB, nameB_nil] <;> omega), hx⟩
              · try simp only [cs8] at c83
                refine W.region ?_
                refine WL.c rfl (o_eq rfl rfl ?_)
                refine WL.c rfl (o_ash (show _ = Value.bool _ from rfl) ?_)
                refine WL.nil ?_
                refine W.cond rfl (fun c83 => ?_) (fun c83 => ?_)
                · try simp only [cs8] at c83
                  refine W.seq ?_
                  refine W.region ?_
                  refine WL.c rfl (o_mvh (show _ = Value.bool _ from rfl) ?_)
                  refine WL.c rfl (o_mvh (show _ = Value.bool _ from rfl) ?_)
                  refine WL.sp 1 rfl (fun g87 => ?_) (fun g87 => ?_)
                  · skip
                    refine WL.g rfl (g87) rfl (o_fa 5 TI26 rfl TI3 rfl rfl ?_)
                    refine WL.g rfl (g87) rfl (o_ld TI3 rfl rfl (cell_of hC1 rfl) ?_)
                    refine WL.g rfl (g87) rfl (o_ge rfl rfl ?_)
                    refine WL.c rfl (o_pickA rfl rfl ?_)
                    refine WL.c rfl (o_mvh (show _ = Value.bool _ from rfl) ?_)
                    refine WL.sp 6 rfl (fun g92 => ?_) (fun g92 => ?_)
                    · skip
                      refine WL.g rfl (g92) rfl (o_fa 1 TI26 rfl TI3 rfl rfl ?_)
                      refine WL.g rfl (g92) rfl (o_ld TI3 rfl rfl (cell_of hC1 rfl) ?_)
                      refine WL.g rfl (g92) rfl (o_eq rfl rfl ?_)
                      refine WL.c rfl (o_pickA rfl rfl ?_)
                      refine WL.c rfl (o_ash (show _ = Value.bool _ from rfl) ?_)
                      refine WL.nil ?_
                      refine W.ret ?_
                      refine ret1v rfl (show _ = Value.bool _ from rfl) ?_
                      exact ⟨congrArg Value.bool (by rw [Bool.eq_iff_iff]; simp_all [rgtB, okB, namB, nameB_nil] <;> omega), hx⟩
                    · skip
                      refine WL.s rfl (g92) rfl ?_
                      refine WL.s rfl (g92) rfl ?_
                      refine WL.s rfl (g92) rfl ?_
                      refine WL.c rfl (o_pickF rfl (g92) ?_)
                      refine WL.c rfl (o_ash (show _ = Value.bool _ from rfl) ?_)
                      refine WL.nil ?_
                      refine W.ret ?_
                      refine ret1v rfl (show _ = Value.bool _ from rfl) ?_
                      exact ⟨congrArg Value.bool (by rw [Bool.eq_iff_iff]; simp_all [rgtB, okB, namB, nameB_nil] <;> omega), hx⟩
                  · skip
                    refine WL.s rfl (g87) rfl ?_
                    refine WL.s rfl (g87) rfl ?_
                    refine WL.s rfl (g87) rfl ?_
                    refine WL.c rfl (o_pickF rfl (g87) ?_)
                    refine WL.c rfl (o_mvh (show _ = Value.bool _ from rfl) ?_)
                    refine WL.s rfl (rfl) rfl ?_
                    refine WL.s rfl (rfl) rfl ?_
                    refine WL.s rfl (rfl) rfl ?_
                    refine WL.c rfl (o_pickF rfl (rfl) ?_)
                    refine WL.c rfl (o_ash (show _ = Value.bool _ from rfl) ?_)
                    refine WL.nil ?_
                    refine W.ret ?_
                    refine ret1v rfl (show _ = Value.bool _ from rfl) ?_
                    exact ⟨congrArg Value.bool (by rw [Bool.eq_iff_iff]; simp_all [rgtB, okB, namB, nameB_nil] <;> omega), hx⟩
                · try simp only [cs8] at c83
                  refine W.seq ?_
                  refine W.region ?_
                  refine WL.c rfl (o_eq rfl rfl ?_)
                  refine WL.c rfl (o_ash (show _ = Value.bool _ from rfl) ?_)
                  refine WL.nil ?_
                  refine W.cond rfl (fun c97 => ?_) (fun c97 => ?_)
                  · try simp only [cs8] at c97
                    refine W.seq ?_
                    refine W.region ?_
                    refine WL.c rfl (o_fa 2 TI26 rfl TI9 rfl rfl ?_)
                    refine WL.c rfl (o_ld TI9 rfl rfl (cell_of hC1 rfl) ?_)
                    refine WL.c rfl (o_call Try.call42 (lc rfl ln) ((rname_spec x.name _ hn).mono ?_))
                    rintro v101 w101 ⟨rfl, rfl⟩
                    refine WL.c rfl (o_mvh (show _ = Value.bool _ from rfl) ?_)
                    refine WL.sp 3 rfl (fun g102 => ?_) (fun g102 => ?_)
                    · skip
                      refine WL.g rfl (g102) rfl (o_fa 5 TI26 rfl TI3 rfl rfl ?_)
                      refine WL.g rfl (g102) rfl (o_ld TI3 rfl rfl (cell_of hC1 rfl) ?_)
                      refine WL.g rfl (g102) rfl (o_eq rfl rfl ?_)
                      refine WL.c rfl (o_pickA rfl rfl ?_)
                      refine WL.c rfl (o_mvh (show _ = Value.bool _ from rfl) ?_)
                      refine WL.sp 8 rfl (fun g107 => ?_) (fun g107 => ?_)
                      · skip
                        refine WL.g rfl (g107) rfl (o_fa 1 TI26 rfl TI3 rfl rfl ?_)
                        refine WL.g rfl (g107) rfl (o_ld TI3 rfl rfl (cell_of hC1 rfl) ?_)
                        refine WL.g rfl (g107) rfl (o_eq rfl rfl ?_)
                        refine WL.c rfl (o_pickA rfl rfl ?_)
                        refine WL.c rfl (o_ash (show _ = Value.bool _ from rfl) ?_)
                        refine WL.nil ?_
                        refine W.ret ?_
                        refine ret1v rfl (show _ = Value.bool _ from rfl) ?_
                        exact ⟨congrArg Value.bool (by rw [Bool.eq_iff_iff]; simp_all [rgtB, okB, namB, nameB_nil] <;> omega), hx⟩
                      · skip
                        refine WL.s rfl (g107) rfl ?_
                        refine WL.s rfl (g107) rfl ?_
                        refine WL.s rfl (g107) rfl ?_
                        refine WL.c rfl (o_pickF rfl (g107) ?_)
                        refine WL.c rfl (o_ash (show _ = Value.bool _ from rfl) ?_)
                        refine WL.nil ?_
                        refine W.ret ?_
                        refine ret1v rfl (show _ = Value.bool _ from rfl) ?_
                        exact ⟨congrArg Value.bool (by rw [Bool.eq_iff_iff]; simp_all [rgtB, okB, namB, nameB_nil] <;> omega), hx⟩
                    · skip
                      refine WL.s rfl (g102) rfl ?_
                      refine WL.s rfl (g102) rfl ?_
                      refine WL.s rfl (g102) rfl ?_
                      refine WL.c rfl (o_pickF rfl (g102) ?_)
                      refine WL.c rfl (o_mvh (show _ = Value.bool _ from rfl) ?_)
                      refine WL.s rfl (rfl) rfl ?_
                      refine WL.s rfl (rfl) rfl ?_
                      refine WL.s rfl (rfl) rfl ?_
                      refine WL.c rfl (o_pickF rfl (rfl) ?_)
                      refine WL.c rfl (o_ash (show _ = Value.bool _ from rfl) ?_)
                      refine WL.nil ?_
                      refine W.ret ?_
                      refine ret1v rfl (show _ = Value.bool _ from rfl) ?_
                      exact ⟨congrArg Value.bool (by rw [Bool.eq_iff_iff]; simp_all [rgtB, okB, namB, nameB_nil] <;> omega), hx⟩
                  · try simp only [cs8] at c97
                    refine W.skip ?_
                    refine W.seq ?_
                    refine W.region ?_
                    refine WL.c rfl (o_ash (show _ = Value.bool _ from rfl) ?_)
                    refine WL.nil ?_
                    refine W.ret ?_
                    refine ret1v rfl (show _ = Value.bool _ from rfl) ?_
                    exact ⟨congrArg Value.bool (by rw [Bool.eq_iff_iff]; simp_all [rgtB, okB, namB, nameB_nil] <;> omega), hx⟩
        · try simp only [cs8] at c51
          refine W.region ?_
          refine WL.c rfl (o_eq rfl rfl ?_)
          refine WL.c rfl (o_ash (show _ = Value.bool _ from rfl) ?_)
          refine WL.nil ?_
          refine W.cond rfl (fun c51 => ?_) (fun c51 => ?_)
          · try simp only [cs8] at c51
            refine W.seq ?_
            refine W.region ?_
            refine WL.c rfl (o_mvh (show _ = Value.bool _ from rfl) ?_)
            refine WL.c rfl (o_mvh (show _ = Value.bool _ from rfl) ?_)
            refine WL.sp 1 rfl (fun g55 => ?_) (fun g55 => ?_)
            · skip
              refine WL.g rfl (g55) rfl (o_fa 5 TI26 rfl TI3 rfl rfl ?_)
              refine WL.g rfl (g55) rfl (o_ld TI3 rfl rfl (cell_of hC1 rfl) ?_)
              refine WL.g rfl (g55) rfl (o_eq rfl rfl ?_)
              refine WL.c rfl (o_pickA rfl rfl ?_)
              refine WL.c rfl (o_mvh (show _ = Value.bool _ from rfl) ?_)
              refine WL.sp 6 rfl (fun g60 => ?_) (fun g60 => ?_)
              · skip
                refine WL.g rfl (g60) rfl (o_fa 1 TI26 rfl TI3 rfl rfl ?_)
                refine WL.g rfl (g60) rfl (o_ld TI3 rfl rfl (cell_of hC1 rfl) ?_)
                refine WL.g rfl (g60) rfl (o_ge rfl rfl ?_)
                refine WL.c rfl (o_pickA rfl rfl ?_)
                refine WL.c rfl (o_mvh (show _ = Value.bool _ from rfl) ?_)
                refine WL.sp 11 rfl (fun g65 => ?_) (fun g65 => ?_)
                · skip
                  refine WL.g rfl (g65) rfl (o_fa 1 TI26 rfl TI3 rfl rfl ?_)
                  refine WL.g rfl (g65) rfl (o_ld TI3 rfl rfl (cell_of hC1 rfl) ?_)
                  refine WL.g rfl (g65) rfl (o_le rfl rfl ?_)
                  refine WL.c rfl (o_pickA rfl rfl ?_)
                  refine WL.c rfl (o_ash (show _ = Value.bool _ from rfl) ?_)
                  refine WL.nil ?_
                  refine W.ret ?_
                  refine ret1v rfl (show _ = Value.bool _ from rfl) ?_
                  exact ⟨congrArg Value.bool (by rw [Bool.eq_iff_iff]; simp_all [rgtB, okB, namB, nameB_nil] <;> omega), hx⟩
                · skip
                  refine WL.s rfl (g65) rfl ?_
                  refine WL.s rfl (g65) rfl ?_
                  refine WL.s rfl (g65) rfl ?_
                  refine WL.c rfl (o_pickF rfl (g65) ?_)
                  refine WL.c rfl (o_ash (show _ = Value.bool _ from rfl) ?_)
                  refine WL.nil ?_
                  refine W.ret ?_
                  refine ret1v rfl (show _ = Value.bool _ from rfl) ?_
                  exact ⟨congrArg Value.bool (by rw [Bool.eq_iff_iff]; simp_all [rgtB, okB, namB, nameB_nil] <;> omega), hx⟩
              · skip
                refine WL.s rfl (g60) rfl ?_
                refine WL.s rfl (g60) rfl ?_
                refine WL.s rfl (g60) rfl ?_
                refine WL.c rfl (o_pickF rfl (g60) ?_)
                refine WL.c rfl (o_mvh (show _ = Value.bool _ from rfl) ?_)
                refine WL.s rfl (rfl) rfl ?_
                refine WL.s rfl (rfl) rfl ?_
                refine WL.s rfl (rfl) rfl ?_
                refine WL.c rfl (o_pickF rfl (rfl) ?_)
                refine WL.c rfl (o_ash (show _ = Value.bool _ from rfl) ?_)
                refine WL.nil ?_
                refine W.ret ?_
                refine ret1v rfl (show _ = Value.bool _ from rfl) ?_
                exact ⟨congrArg Value.bool (by rw [Bool.eq_iff_iff]; simp_all [rgtB, okB, namB, nameB_nil] <;> omega), hx⟩
            · skip
              refine WL.s rfl (g55) rfl ?_
              refine WL.s rfl (g55) rfl ?_
              refine WL.s rfl (g55) rfl ?_
              refine WL.c rfl (o_pickF rfl (g55) ?_)
              refine WL.c rfl (o_mvh (show _ = Value.bool _ from rfl) ?_)
              refine WL.s rfl (rfl) rfl ?_
              refine WL.s rfl (rfl) rfl ?_
              refine WL.s rfl (rfl) rfl ?_
              refine WL.c rfl (o_pickF rfl (rfl) ?_)
              refine WL.c rfl (o_mvh (show _ = Value.bool _ from rfl) ?_)
              refine WL.s rfl (rfl) rfl ?_
              refine WL.s rfl (rfl) rfl ?_
              refine WL.s rfl (rfl) rfl ?_
              refine WL.c rfl (o_pickF rfl (rfl) ?_)
              refine WL.c rfl (o_ash (show _ = Value.bool _ from rfl) ?_)
              refine WL.nil ?_
              refine W.ret ?_
              refine ret1v rfl (show _ = Value.bool _ from rfl) ?_
              exact ⟨congrArg Value.bool (by rw [Bool.eq_iff_iff]; simp_all [rgtB, okB, namB, nameB_nil] <;> omega), hx⟩
          · try simp only [cs8] at c51
            refine W.seq ?_
            refine W.region ?_
            refine WL.c rfl (o_eq rfl rfl ?_)
            refine WL.c rfl (o_ash (show _ = Value.bool _ from rfl) ?_)
            refine WL.nil ?_
            refine W.cond rfl (fun c70 => ?_) (fun c70 => ?_)
            · try simp only [cs8] at c70
              refine W.seq ?_
              refine W.region ?_
              refine WL.c rfl (o_mvh (show _ = Value.bool _ from rfl) ?_)
              refine WL.c rfl (o_mvh (show _ = Value.bool _ from rfl) ?_)
              refine WL.sp 1 rfl (fun g73 => ?_) (fun g73 => ?_)
              · skip
                refine WL.g rfl (g73) rfl (o_fa 5 TI26 rfl TI3 rfl rfl ?_)
                refine WL.g rfl (g73) rfl (o_ld TI3 rfl rfl (cell_of hC1 rfl) ?_)
                refine WL.g rfl (g73) rfl (o_eq rfl rfl ?_)
                refine WL.c rfl (o_pickA rfl rfl ?_)
                refine WL.c rfl (o_mvh (show _ = Value.bool _ from rfl) ?_)
                refine WL.sp 6 rfl (fun g78 => ?_) (fun g78 => ?_)
                · skip
                  refine WL.g rfl (g78) rfl (o_fa 1 TI26 rfl TI3 rfl rfl ?_)
                  refine WL.g rfl (g78) rfl (o_ld TI3 rfl rfl (cell_of hC1 rfl) ?_)
                  refine WL.g rfl (g78) rfl (o_eq rfl rfl ?_)
                  refine WL.c rfl (o_pickA rfl rfl ?_)
                  refine WL.c rfl (o_ash (show _ = Value.bool _ from rfl) ?_)
                  refine WL.nil ?_
                  refine W.ret ?_
                  refine ret1v rfl (show _ = Value.bool _ from rfl) ?_
                  exact ⟨congrArg Value.bool (by rw [Bool.eq_iff_iff]; simp_all [rgtB, okB, namB, nameB_nil] <;> omega), hx⟩
                · skip
                  refine WL.s rfl (g78) rfl ?_
                  refine WL.s rfl (g78) rfl ?_
                  refine WL.s rfl (g78) rfl ?_
                  refine WL.c rfl (o_pickF rfl (g78) ?_)
                  refine WL.c rfl (o_ash (show _ = Value.bool _ from rfl) ?_)
                  refine WL.nil ?_
                  refine W.ret ?_
                  refine ret1v rfl (show _ = Value.bool _ from rfl) ?_
                  exact ⟨congrArg Value.bool (by rw [Bool.eq_iff_iff]; simp_all [rgtB, okB, namB, nameB_nil] <;> omega), hx⟩
              · skip
                refine WL.s rfl (g73) rfl ?_
                refine WL.s rfl (g73) rfl ?_
                refine WL.s rfl (g73) rfl ?_
                refine WL.c rfl (o_pickF rfl (g73) ?_)
                refine WL.c rfl (o_mvh (show _ = Value.bool _ from rfl) ?_)
                refine WL.s rfl (rfl) rfl ?_
                refine WL.s rfl (rfl) rfl ?_
                refine WL.s rfl (rfl) rfl ?_
                refine WL.c rfl (o_pickF rfl (rfl) ?_)
                refine WL.c rfl (o_ash (show _ = Value.bool _ from rfl) ?_)
                refine WL.nil ?_
                refine W.ret ?_
                refine ret1v rfl (show _ = Value.bool _ from rfl) ?_
                exact ⟨congrArg Value.bool (by rw [Bool.eq_iff_iff]; simp_all [rgtB, okB, namB, nameB_nil] <;> omega), hx⟩
            · try simp only [cs8] at c70
              refine W.seq ?_
              refine W.seq ?_
              refine W.region ?_
              refine WL.c rfl (o_eq rfl rfl ?_)
              refine WL.c rfl (o_ash (show _ = Value.bool _ from rfl) ?_)
              refine WL.nil ?_
              refine W.cond rfl (fun c83 => ?_) (fun c83 => ?_)
              · try simp only [cs8] at c83
                refine W.skip ?_
                refine W.cond rfl (fun c83 => ?_) (fun c83 => ?_)
                · try simp only [cs8] at c83
                  refine W.seq ?_
                  refine W.region ?_
                  refine WL.c rfl (o_mvh (show _ = Value.bool _ from rfl) ?_)
                  refine WL.c rfl (o_mvh (show _ = Value.bool _ from rfl) ?_)
                  refine WL.sp 1 rfl (fun g87 => ?_) (fun g87 => ?_)
                  · skip
                    refine WL.g rfl (g87) rfl (o_fa 5 TI26 rfl TI3 rfl rfl ?_)
                    refine WL.g rfl (g87) rfl (o_ld TI3 rfl rfl (cell_of hC1 rfl) ?_)
                    refine WL.g rfl (g87) rfl (o_ge rfl rfl ?_)
                    refine WL.c rfl (o_pickA rfl rfl ?_)
                    refine WL.c rfl (o_mvh (show _ = Value.bool _ from rfl) ?_)
                    refine WL.sp 6 rfl (fun g92 => ?_) (fun g92 => ?_)
                    · skip
                      refine WL.g rfl (g92) rfl (o_fa 1 TI26 rfl TI3 rfl rfl ?_)
                      refine WL.g rfl (g92) rfl (o_ld TI3 rfl rfl (cell_of hC1 rfl) ?_)
                      refine WL.g rfl (g92) rfl (o_eq rfl rfl ?_)
                      refine WL.c rfl (o_pickA rfl rfl ?_)
                      refine WL.c rfl (o_ash (show _ = Value.bool _ from rfl) ?_)
                      refine WL.nil ?_
                      refine W.ret ?_
                      refine ret1v rfl (show _ = Value.bool _ from rfl) ?_
                      exact ⟨congrArg Value.bool (by rw [Bool.eq_iff_iff]; simp_all [rgtB, okB, namB, nameB_nil] <;> omega), hx⟩
                    · skip
                      refine WL.s rfl (g92) rfl ?_
                      refine WL.s rfl (g92) rfl ?_
                      refine WL.s rfl (g92) rfl ?_
                      refine WL.c rfl (o_pickF rfl (g92) ?_)
                      refine WL.c rfl (o_ash (show _ = Value.bool _ from rfl) ?_)
                      refine WL.nil ?_
                      refine W.ret ?_
                      refine ret1v rfl (show _ = Value.bool _ from rfl) ?_
                      exact ⟨congrArg Value.bool (by rw [Bool.eq_iff_iff]; simp_all [rgtB, okB, namB, nameB_nil] <;> omega), hx⟩
                  · skip
                    refine WL.s rfl (g87) rfl ?_
                    refine WL.s rfl (g87) rfl ?_
                    refine WL.s rfl (g87) rfl ?_
                    refine WL.c rfl (o_pickF rfl (g87) ?_)
                    refine WL.c rfl (o_mvh (show _ = Value.bool _ from rfl) ?_)
                    refine WL.s rfl (rfl) rfl ?_
                    refine WL.s rfl (rfl) rfl ?_
                    refine WL.s rfl (rfl) rfl ?_
                    refine WL.c rfl (o_pickF rfl (rfl) ?_)
                    refine WL.c rfl (o_ash (show _ = Value.bool _ from rfl) ?_)
                    refine WL.nil ?_
                    refine W.ret ?_
                    refine ret1v rfl (show _ = Value.bool _ from rfl) ?_
                    exact ⟨congrArg Value.bool (by rw [Bool.eq_iff_iff]; simp_all [rgtB, okB, namB, nameB_nil] <;> omega), hx⟩
                · try simp only [cs8] at c83
                  refine W.seq ?_
                  refine W.region ?_
                  refine WL.c rfl (o_eq rfl rfl ?_)
                  refine WL.c rfl (o_ash (show _ = Value.bool _ from rfl) ?_)
                  refine WL.nil ?_
                  refine W.cond rfl (fun c97 => ?_) (fun c97 => ?_)
                  · try simp only [cs8] at c97
                    refine W.seq ?_
                    refine W.region ?_
                    refine WL.c rfl (o_fa 2 TI26 rfl TI9 rfl rfl ?_)
                    refine WL.c rfl (o_ld TI9 rfl rfl (cell_of hC1 rfl) ?_)
                    refine WL.c rfl (o_call Try.call42 (lc rfl ln) ((rname_spec x.name _ hn).mono ?_))
                    rintro v101 w101 ⟨rfl, rfl⟩
                    refine WL.c rfl (o_mvh (show _ = Value.bool _ from rfl) ?_)
                    refine WL.sp 3 rfl (fun g102 => ?_) (fun g102 => ?_)
                    · skip
                      refine WL.g rfl (g102) rfl (o_fa 5 TI26 rfl TI3 rfl rfl ?_)
                      refine WL.g rfl (g102) rfl (o_ld TI3 rfl rfl (cell_of hC1 rfl) ?_)
                      refine WL.g rfl (g102) rfl (o_eq rfl rfl ?_)
                      refine WL.c rfl (o_pickA rfl rfl ?_)
                      refine WL.c rfl (o_mvh (show _ = Value.bool _ from rfl) ?_)
                      refine WL.sp 8 rfl (fun g107 => ?_) (fun g107 => ?_)
                      · skip
                        refine WL.g rfl (g107) rfl (o_fa 1 TI26 rfl TI3 rfl rfl ?_)
                        refine WL.g rfl (g107) rfl (o_ld TI3 rfl rfl (cell_of hC1 rfl) ?_)
                        refine WL.g rfl (g107) rfl (o_eq rfl rfl ?_)
                        refine WL.c rfl (o_pickA rfl rfl ?_)
                        refine WL.c rfl (o_ash (show _ = Value.bool _ from rfl) ?_)
                        refine WL.nil ?_
                        refine W.ret ?_
                        refine ret1v rfl (show _ = Value.bool _ from rfl) ?_
                        exact ⟨congrArg Value.bool (by rw [Bool.eq_iff_iff]; simp_all [rgtB, okB, namB, nameB_nil] <;> omega), hx⟩
                      · skip
                        refine WL.s rfl (g107) rfl ?_
                        refine WL.s rfl (g107) rfl ?_
                        refine WL.s rfl (g107) rfl ?_
                        refine WL.c rfl (o_pickF rfl (g107) ?_)
                        refine WL.c rfl (o_ash (show _ = Value.bool _ from rfl) ?_)
                        refine WL.nil ?_
                        refine W.ret ?_
                        refine ret1v rfl (show _ = Value.bool _ from rfl) ?_
                        exact ⟨congrArg Value.bool (by rw [Bool.eq_iff_iff]; simp_all [rgtB, okB, namB, nameB_nil] <;> omega), hx⟩
                    · skip
                      refine WL.s rfl (g102) rfl ?_
                      refine WL.s rfl (g102) rfl ?_
                      refine WL.s rfl (g102) rfl ?_
                      refine WL.c rfl (o_pickF rfl (g102) ?_)
                      refine WL.c rfl (o_mvh (show _ = Value.bool _ from rfl) ?_)
                      refine WL.s rfl (rfl) rfl ?_
                      refine WL.s rfl (rfl) rfl ?_
                      refine WL.s rfl (rfl) rfl ?_
                      refine WL.c rfl (o_pickF rfl (rfl) ?_)
                      refine WL.c rfl (o_ash (show _ = Value.bool _ from rfl) ?_)
                      refine WL.nil ?_
                      refine W.ret ?_
                      refine ret1v rfl (show _ = Value.bool _ from rfl) ?_
                      exact ⟨congrArg Value.bool (by rw [Bool.eq_iff_iff]; simp_all [rgtB, okB, namB, nameB_nil] <;> omega), hx⟩
                  · try simp only [cs8] at c97
                    refine W.skip ?_
                    refine W.seq ?_
                    refine W.region ?_
                    refine WL.c rfl (o_ash (show _ = Value.bool _ from rfl) ?_)
                    refine WL.nil ?_
                    refine W.ret ?_
                    refine ret1v rfl (show _ = Value.bool _ from rfl) ?_
                    exact ⟨congrArg Value.bool (by rw [Bool.eq_iff_iff]; simp_all [rgtB, okB, namB, nameB_nil] <;> omega), hx⟩
              · try simp only [cs8] at c83
                refine W.region ?_
                refine WL.c rfl (o_eq rfl rfl ?_)
                refine WL.c rfl (o_ash (show _ = Value.bool _ from rfl) ?_)
                refine WL.nil ?_
                refine W.cond rfl (fun c83 => ?_) (fun c83 => ?_)
                · try simp only [cs8] at c83
                  refine W.seq ?_
                  refine W.region ?_
                  refine WL.c rfl (o_mvh (show _ = Value.bool _ from rfl) ?_)
                  refine WL.c rfl (o_mvh (show _ = Value.bool _ from rfl) ?_)
                  refine WL.sp 1 rfl (fun g87 => ?_) (fun g87 => ?_)
                  · skip
                    refine WL.g rfl (g87) rfl (o_fa 5 TI26 rfl TI3 rfl rfl ?_)
                    refine WL.g rfl (g87) rfl (o_ld TI3 rfl rfl (cell_of hC1 rfl) ?_)
                    refine WL.g rfl (g87) rfl (o_ge rfl rfl ?_)
                    refine WL.c rfl (o_pickA rfl rfl ?_)
                    refine WL.c rfl (o_mvh (show _ = Value.bool _ from rfl) ?_)
                    refine WL.sp 6 rfl (fun g92 => ?_) (fun g92 => ?_)
                    · skip
                      refine WL.g rfl (g92) rfl (o_fa 1 TI26 rfl TI3 rfl rfl ?_)
                      refine WL.g rfl (g92) rfl (o_ld TI3 rfl rfl (cell_of hC1 rfl) ?_)
                      refine WL.g rfl (g92) rfl (o_eq rfl rfl ?_)
                      refine WL.c rfl (o_pickA rfl rfl ?_)
                      refine WL.c rfl (o_ash (show _ = Value.bool _ from rfl) ?_)
                      refine WL.nil ?_
                      refine W.ret ?_
                      refine ret1v rfl (show _ = Value.bool _ from rfl) ?_
                      exact ⟨congrArg Value.bool (by rw [Bool.eq_iff_iff]; simp_all [rgtB, okB, namB, nameB_nil] <;> omega), hx⟩
                    · skip
                      refine WL.s rfl (g92) rfl ?_
                      refine WL.s rfl (g92) rfl ?_
                      refine WL.s rfl (g92) rfl ?_
                      refine WL.c rfl (o_pickF rfl (g92) ?_)
                      refine WL.c rfl (o_ash (show _ = Value.bool _ from rfl) ?_)
                      refine WL.nil ?_
                      refine W.ret ?_
                      refine ret1v rfl (show _ = Value.bool _ from rfl) ?_
                      exact ⟨congrArg Value.bool (by rw [Bool.eq_iff_iff]; simp_all [rgtB, okB, namB, nameB_nil] <;> omega), hx⟩
                  · skip
                    refine WL.s rfl (g87) rfl ?_
                    refine WL.s rfl (g87) rfl ?_
                    refine WL.s rfl (g87) rfl ?_
                    refine WL.c rfl (o_pickF rfl (g87) ?_)
                    refine WL.c rfl (o_mvh (show _ = Value.bool _ from rfl) ?_)
                    refine WL.s rfl (rfl) rfl ?_
                    refine WL.s rfl (rfl) rfl ?_
                    refine WL.s rfl (rfl) rfl ?_
                    refine WL.c rfl (o_pickF rfl (rfl) ?_)
                    refine WL.c rfl (o_ash (show _ = Value.bool _ from rfl) ?_)
                    refine WL.nil ?_
                    refine W.ret ?_
                    refine ret1v rfl (show _ = Value.bool _ from rfl) ?_
                    exact ⟨congrArg Value.bool (by rw [Bool.eq_iff_iff]; simp_all [rgtB, okB, namB, nameB_nil] <;> omega), hx⟩
                · try simp only [cs8] at c83
                  refine W.seq ?_
                  refine W.region ?_
                  refine WL.c rfl (o_eq rfl rfl ?_)
                  refine WL.c rfl (o_ash (show _ = Value.bool _ from rfl) ?_)
                  refine WL.nil ?_
                  refine W.cond rfl (fun c97 => ?_) (fun c97 => ?_)
                  · try simp only [cs8] at c97
                    refine W.seq ?_
                    refine W.region ?_
                    refine WL.c rfl (o_fa 2 TI26 rfl TI9 rfl rfl ?_)
                    refine WL.c rfl (o_ld TI9 rfl rfl (cell_of hC1 rfl) ?_)
                    refine WL.c rfl (o_call Try.call42 (lc rfl ln) ((rname_spec x.name _ hn).mono ?_))
                    rintro v101 w101 ⟨rfl, rfl⟩
                    refine WL.c rfl (o_mvh (show _ = Value.bool _ from rfl) ?_)
                    refine WL.sp 3 rfl (fun g102 => ?_) (fun g102 => ?_)
                    · skip
                      refine WL.g rfl (g102) rfl (o_fa 5 TI26 rfl TI3 rfl rfl ?_)
                      refine WL.g rfl (g102) rfl (o_ld TI3 rfl rfl (cell_of hC1 rfl) ?_)
                      refine WL.g rfl (g102) rfl (o_eq rfl rfl ?_)
                      refine WL.c rfl (o_pickA rfl rfl ?_)
                      refine WL.c rfl (o_mvh (show _ = Value.bool _ from rfl) ?_)
                      refine WL.sp 8 rfl (fun g107 => ?_) (fun g107 => ?_)
                      · skip
                        refine WL.g rfl (g107) rfl (o_fa 1 TI26 rfl TI3 rfl rfl ?_)
                        refine WL.g rfl (g107) rfl (o_ld TI3 rfl rfl (cell_of hC1 rfl) ?_)
                        refine WL.g rfl (g107) rfl (o_eq rfl rfl ?_)
                        refine WL.c rfl (o_pickA rfl rfl ?_)
                        refine WL.c rfl (o_ash (show _ = Value.bool _ from rfl) ?_)
                        refine WL.nil ?_
                        refine W.ret ?_
                        refine ret1v rfl (show _ = Value.bool _ from rfl) ?_
                        exact ⟨congrArg Value.bool (by rw [Bool.eq_iff_iff]; simp_all [rgtB, okB, namB, nameB_nil] <;> omega), hx⟩
                      · skip
                        refine WL.s rfl (g107) rfl ?_
                        refine WL.s rfl (g107) rfl ?_
                        refine WL.s rfl (g107) rfl ?_
                        refine WL.c rfl (o_pickF rfl (g107) ?_)
                        refine WL.c rfl (o_ash (show _ = Value.bool _ from rfl) ?_)
                        refine WL.nil ?_
                        refine W.ret ?_
                        refine ret1v rfl (show _ = Value.bool _ from rfl) ?_
                        exact ⟨congrArg Value.bool (by rw [Bool.eq_iff_iff]; simp_all [rgtB, okB, namB, nameB_nil] <;> omega), hx⟩
                    · skip
                      refine WL.s rfl (g102) rfl ?_
                      refine WL.s rfl (g102) rfl ?_
                      refine WL.s rfl (g102) rfl ?_
                      refine WL.c rfl (o_pickF rfl (g102) ?_)
                      refine WL.c rfl (o_mvh (show _ = Value.bool _ from rfl) ?_)
                      refine WL.s rfl (rfl) rfl ?_
                      refine WL.s rfl (rfl) rfl ?_
                      refine WL.s rfl (rfl) rfl ?_
                      refine WL.c rfl (o_pickF rfl (rfl) ?_)
                      refine WL.c rfl (o_ash (show _ = Value.bool _ from rfl) ?_)
                      refine WL.nil ?_
                      refine W.ret ?_
                      refine ret1v rfl (show _ = Value.bool _ from rfl) ?_
                      exact ⟨congrArg Value.bool (by rw [Bool.eq_iff_iff]; simp_all [rgtB, okB, namB, nameB_nil] <;> omega), hx⟩
                  · try simp only [cs8] at c97
                    refine W.skip ?_
                    refine W.seq ?_
                    refine W.region ?_
                    refine WL.c rfl (o_ash (show _ = Value.bool _ from rfl) ?_)
                    refine WL.nil ?_
                    refine W.ret ?_
                    refine ret1v rfl (show _ = Value.bool _ from rfl) ?_
                    exact ⟨congrArg Value.bool (by rw [Bool.eq_iff_iff]; simp_all [rgtB, okB, namB, nameB_nil] <;> omega), hx⟩
theorem placed_spec (x : Ex) (above : Int) (w0 : World) (hl : x.label.length ≤ 9223372036854775807) : Ca Try.prog 57 #[.agg (exV x).toArray, .int .i64 above] w0 (fun v w' => v = .bool (plcB x above) ∧ Ext w0 w') := by
  refine Ca.of Try.func57 Try.ntmps57 rfl rfl ?_
  refine W.seq ?_
  refine W.region ?_
  refine WL.c rfl (o_boxB rfl ?_)
  intro w1 hC1 hx hs1
  obtain ⟨c1, hc1⟩ : ∃ c, c = w0.heap.size := ⟨_, rfl⟩
  rw [← hc1] at hC1 ⊢
  replace hC1 : w1.heap[c1]? = some (.cells (exV x).toArray 26 (0, 0)) := hC1
  refine WL.c rfl (o_ash (show _ = Value.bool _ from rfl) ?_)
  refine WL.nil ?_
  refine W.seq ?_
  refine W.region ?_
  refine WL.c rfl (o_fa 3 TI26 rfl TI9 rfl rfl ?_)
  refine WL.c rfl (o_ld TI9 rfl rfl (cell_of hC1 rfl) ?_)
  refine WL.c rfl (o_eqT rfl rfl ?_)
  refine WL.c rfl (o_ash (show _ = Value.bool _ from rfl) ?_)
  refine WL.nil ?_
  refine W.seq ?_
  refine W.region ?_
  refine WL.c rfl (o_fa 4 TI26 rfl TI3 rfl rfl ?_)
  refine WL.c rfl (o_ld TI3 rfl rfl (cell_of hC1 rfl) ?_)
  refine WL.c rfl (o_eq rfl rfl ?_)
  refine WL.c rfl (o_ash (show _ = Value.bool _ from rfl) ?_)
  refine WL.nil ?_
  refine W.seq ?_
  refine W.seq ?_
  refine W.region ?_
  refine WL.c rfl (o_mvh (show _ = Value.int _ _ from rfl) ?_)
  refine WL.c rfl (o_eq rfl rfl ?_)
  refine WL.nil ?_
  refine W.cond rfl (fun c14 => ?_) (fun c14 => ?_)
  · try simp only [cs8] at c14
    refine W.region ?_
    refine WL.c rfl (o_fa 3 TI26 rfl TI9 rfl rfl ?_)
    refine WL.c rfl (o_ld TI9 rfl rfl (cell_of hC1 rfl) ?_)
    refine WL.c rfl (o_call Try.call42 (lc rfl ln) ((rname_spec x.label _ hl).mono ?_))
    rintro v17 w17 ⟨rfl, rfl⟩
    refine WL.c rfl (o_ash (show _ = Value.bool _ from rfl) ?_)
    refine WL.nil ?_
    refine W.seq ?_
    refine W.seq ?_
    refine W.region ?_
    refine WL.c rfl (o_mvh (show _ = Value.int _ _ from rfl) ?_)
    refine WL.c rfl (o_eq rfl rfl ?_)
    refine WL.nil ?_
    refine W.cond rfl (fun c19 => ?_) (fun c19 => ?_)
    · try simp only [cs8] at c19
      refine W.region ?_
      refine WL.c rfl (o_fa 4 TI26 rfl TI3 rfl rfl ?_)
      refine WL.c rfl (o_ld TI3 rfl rfl (cell_of hC1 rfl) ?_)
      refine WL.c rfl (o_ge rfl rfl ?_)
      refine WL.c rfl (o_mvh (show _ = Value.bool _ from rfl) ?_)
      refine WL.sp 3 rfl (fun g23 => ?_) (fun g23 => ?_)
      · skip
        refine WL.g rfl (g23) rfl (o_fa 4 TI26 rfl TI3 rfl rfl ?_)
        refine WL.g rfl (g23) rfl (o_ld TI3 rfl rfl (cell_of hC1 rfl) ?_)
        refine WL.g rfl (g23) rfl (o_le rfl rfl ?_)
        refine WL.c rfl (o_pickA rfl rfl ?_)
        refine WL.c rfl (o_ash (show _ = Value.bool _ from rfl) ?_)
        refine WL.nil ?_
        refine W.seq ?_
        refine W.region ?_
        refine WL.c rfl (o_mvh (show _ = Value.bool _ from rfl) ?_)
        refine WL.c rfl (o_mvh (show _ = Value.bool _ from rfl) ?_)
        refine WL.sp 1 rfl (fun g29 => ?_) (fun g29 => ?_)
        · skip
          refine WL.g rfl (g29) rfl (o_mvh (show _ = Value.bool _ from rfl) ?_)
          refine WL.c rfl (o_pickA rfl rfl ?_)
          refine WL.c rfl (o_ash (show _ = Value.bool _ from rfl) ?_)
          refine WL.nil ?_
          refine W.ret ?_
          refine ret1v rfl (show _ = Value.bool _ from rfl) ?_
          exact ⟨congrArg Value.bool (by rw [Bool.eq_iff_iff]; simp_all [plcB, labB, tagB] <;> omega), hx⟩
        · skip
          refine WL.s rfl (g29) rfl ?_
          refine WL.c rfl (o_pickF rfl (g29) ?_)
          refine WL.c rfl (o_ash (show _ = Value.bool _ from rfl) ?_)
          refine WL.nil ?_
          refine W.ret ?_
          refine ret1v rfl (show _ = Value.bool _ from rfl) ?_
          exact ⟨congrArg Value.bool (by rw [Bool.eq_iff_iff]; simp_all [plcB, labB, tagB] <;> omega), hx⟩
      · skip
        refine WL.s rfl (g23) rfl ?_
        refine WL.s rfl (g23) rfl ?_
        refine WL.s rfl (g23) rfl ?_
        refine WL.c rfl (o_pickF rfl (g23) ?_)
        refine WL.c rfl (o_ash (show _ = Value.bool _ from rfl) ?_)
        refine WL.nil ?_
        refine W.seq ?_
        refine W.region ?_
        refine WL.c rfl (o_mvh (show _ = Value.bool _ from rfl) ?_)
        refine WL.c rfl (o_mvh (show _ = Value.bool _ from rfl) ?_)
        refine WL.sp 1 rfl (fun g29 => ?_) (fun g29 => ?_)
        · skip
          refine WL.g rfl (g29) rfl (o_mvh (show _ = Value.bool _ from rfl) ?_)
          refine WL.c rfl (o_pickA rfl rfl ?_)
          refine WL.c rfl (o_ash (show _ = Value.bool _ from rfl) ?_)
          refine WL.nil ?_
          refine W.ret ?_
          refine ret1v rfl (show _ = Value.bool _ from rfl) ?_
          exact ⟨congrArg Value.bool (by rw [Bool.eq_iff_iff]; simp_all [plcB, labB, tagB] <;> omega), hx⟩
        · skip
          refine WL.s rfl (g29) rfl ?_
          refine WL.c rfl (o_pickF rfl (g29) ?_)
          refine WL.c rfl (o_ash (show _ = Value.bool _ from rfl) ?_)
          refine WL.nil ?_
          refine W.ret ?_
          refine ret1v rfl (show _ = Value.bool _ from rfl) ?_
          exact ⟨congrArg Value.bool (by rw [Bool.eq_iff_iff]; simp_all [plcB, labB, tagB] <;> omega), hx⟩
    · try simp only [cs8] at c19
      refine W.skip ?_
      refine W.seq ?_
      refine W.region ?_
      refine WL.c rfl (o_mvh (show _ = Value.bool _ from rfl) ?_)
      refine WL.c rfl (o_mvh (show _ = Value.bool _ from rfl) ?_)
      refine WL.sp 1 rfl (fun g29 => ?_) (fun g29 => ?_)
      · skip
        refine WL.g rfl (g29) rfl (o_mvh (show _ = Value.bool _ from rfl) ?_)
        refine WL.c rfl (o_pickA rfl rfl ?_)
        refine WL.c rfl (o_ash (show _ = Value.bool _ from rfl) ?_)
        refine WL.nil ?_
        refine W.ret ?_
        refine ret1v rfl (show _ = Value.bool _ from rfl) ?_
        exact ⟨congrArg Value.bool (by rw [Bool.eq_iff_iff]; simp_all [plcB, labB, tagB] <;> omega), hx⟩
      · skip
        refine WL.s rfl (g29) rfl ?_
        refine WL.c rfl (o_pickF rfl (g29) ?_)
        refine WL.c rfl (o_ash (show _ = Value.bool _ from rfl) ?_)
        refine WL.nil ?_
        refine W.ret ?_
        refine ret1v rfl (show _ = Value.bool _ from rfl) ?_
        exact ⟨congrArg Value.bool (by rw [Bool.eq_iff_iff]; simp_all [plcB, labB, tagB] <;> omega), hx⟩
  · try simp only [cs8] at c14
    refine W.skip ?_
    refine W.seq ?_
    refine W.seq ?_
    refine W.region ?_
    refine WL.c rfl (o_mvh (show _ = Value.int _ _ from rfl) ?_)
    refine WL.c rfl (o_eq rfl rfl ?_)
    refine WL.nil ?_
    refine W.cond rfl (fun c19 => ?_) (fun c19 => ?_)
    · try simp only [cs8] at c19
      refine W.region ?_
      refine WL.c rfl (o_fa 4 TI26 rfl TI3 rfl rfl ?_)
      refine WL.c rfl (o_ld TI3 rfl rfl (cell_of hC1 rfl) ?_)
      refine WL.c rfl (o_ge rfl rfl ?_)
      refine WL.c rfl (o_mvh (show _ = Value.bool _ from rfl) ?_)
      refine WL.sp 3 rfl (fun g23 => ?_) (fun g23 => ?_)
      · skip
        refine WL.g rfl (g23) rfl (o_fa 4 TI26 rfl TI3 rfl rfl ?_)
        refine WL.g rfl (g23) rfl (o_ld TI3 rfl rfl (cell_of hC1 rfl) ?_)
        refine WL.g rfl (g23) rfl (o_le rfl rfl ?_)
        refine WL.c rfl (o_pickA rfl rfl ?_)
        refine WL.c rfl (o_ash (show _ = Value.bool _ from rfl) ?_)
        refine WL.nil ?_
        refine W.seq ?_
        refine W.region ?_
        refine WL.c rfl (o_mvh (show _ = Value.bool _ from rfl) ?_)
        refine WL.c rfl (o_mvh (show _ = Value.bool _ from rfl) ?_)
        refine WL.sp 1 rfl (fun g29 => ?_) (fun g29 => ?_)
        · skip
          refine WL.g rfl (g29) rfl (o_mvh (show _ = Value.bool _ from rfl) ?_)
          refine WL.c rfl (o_pickA rfl rfl ?_)
          refine WL.c rfl (o_ash (show _ = Value.bool _ from rfl) ?_)
          refine WL.nil ?_
          refine W.ret ?_
          refine ret1v rfl (show _ = Value.bool _ from rfl) ?_
          exact ⟨congrArg Value.bool (by rw [Bool.eq_iff_iff]; simp_all [plcB, labB, tagB] <;> omega), hx⟩
        · skip
          refine WL.s rfl (g29) rfl ?_
          refine WL.c rfl (o_pickF rfl (g29) ?_)
          refine WL.c rfl (o_ash (show _ = Value.bool _ from rfl) ?_)
          refine WL.nil ?_
          refine W.ret ?_
          refine ret1v rfl (show _ = Value.bool _ from rfl) ?_
          exact ⟨congrArg Value.bool (by rw [Bool.eq_iff_iff]; simp_all [plcB, labB, tagB] <;> omega), hx⟩
      · skip
        refine WL.s rfl (g23) rfl ?_
        refine WL.s rfl (g23) rfl ?_
        refine WL.s rfl (g23) rfl ?_
        refine WL.c rfl (o_pickF rfl (g23) ?_)
        refine WL.c rfl (o_ash (show _ = Value.bool _ from rfl) ?_)
        refine WL.nil ?_
        refine W.seq ?_
        refine W.region ?_
        refine WL.c rfl (o_mvh (show _ = Value.bool _ from rfl) ?_)
        refine WL.c rfl (o_mvh (show _ = Value.bool _ from rfl) ?_)
        refine WL.sp 1 rfl (fun g29 => ?_) (fun g29 => ?_)
        · skip
          refine WL.g rfl (g29) rfl (o_mvh (show _ = Value.bool _ from rfl) ?_)
          refine WL.c rfl (o_pickA rfl rfl ?_)
          refine WL.c rfl (o_ash (show _ = Value.bool _ from rfl) ?_)
          refine WL.nil ?_
          refine W.ret ?_
          refine ret1v rfl (show _ = Value.bool _ from rfl) ?_
          exact ⟨congrArg Value.bool (by rw [Bool.eq_iff_iff]; simp_all [plcB, labB, tagB] <;> omega), hx⟩
        · skip
          refine WL.s rfl (g29) rfl ?_
          refine WL.c rfl (o_pickF rfl (g29) ?_)
          refine WL.c rfl (o_ash (show _ = Value.bool _ from rfl) ?_)
          refine WL.nil ?_
          refine W.ret ?_
          refine ret1v rfl (show _ = Value.bool _ from rfl) ?_
          exact ⟨congrArg Value.bool (by rw [Bool.eq_iff_iff]; simp_all [plcB, labB, tagB] <;> omega), hx⟩
    · try simp only [cs8] at c19
      refine W.skip ?_
      refine W.seq ?_
      refine W.region ?_
      refine WL.c rfl (o_mvh (show _ = Value.bool _ from rfl) ?_)
      refine WL.c rfl (o_mvh (show _ = Value.bool _ from rfl) ?_)
      refine WL.sp 1 rfl (fun g29 => ?_) (fun g29 => ?_)
      · skip
        refine WL.g rfl (g29) rfl (o_mvh (show _ = Value.bool _ from rfl) ?_)
        refine WL.c rfl (o_pickA rfl rfl ?_)
        refine WL.c rfl (o_ash (show _ = Value.bool _ from rfl) ?_)
        refine WL.nil ?_
        refine W.ret ?_
        refine ret1v rfl (show _ = Value.bool _ from rfl) ?_
        exact ⟨congrArg Value.bool (by rw [Bool.eq_iff_iff]; simp_all [plcB, labB, tagB] <;> omega), hx⟩
      · skip
        refine WL.s rfl (g29) rfl ?_
        refine WL.c rfl (o_pickF rfl (g29) ?_)
        refine WL.c rfl (o_ash (show _ = Value.bool _ from rfl) ?_)
        refine WL.nil ?_
        refine W.ret ?_
        refine ret1v rfl (show _ = Value.bool _ from rfl) ?_
        exact ⟨congrArg Value.bool (by rw [Bool.eq_iff_iff]; simp_all [plcB, labB, tagB] <;> omega), hx⟩
end Go.Proofs.Ytgcehajdldicfaa

set_option linter.unusedSimpArgs false
set_option linter.unusedVariables false
set_option maxRecDepth 100000
namespace Go.Proofs.Ytgcehajdldicfaa
open Go Go.Vc Go.RowKit Go.Proofs

def opV2 (o : Opn) : List Value := [.int .i64 o.kind, .int .i64 o.left]
def opsQ (S : List Opn) : List Value := S.reverse.flatMap opV2
theorem opsQ_cons (o : Opn) (S : List Opn) : opsQ (o :: S) = opsQ S ++ opV2 o := by simp [opsQ]
theorem opsQ_len (S : List Opn) : (opsQ S).length = S.length * 2 := by
  induction S with
  | nil => rfl
  | cons o S ih => rw [opsQ_cons, List.length_append, ih, List.length_cons]; show _ + 2 = _; omega
theorem opsQ_get {o : Opn} {S : List Opn} {k : Nat} (v : Value) (h : (opV2 o)[k]? = some v) : (opsQ (o :: S))[S.length * 2 + k]? = some v := by
  rw [opsQ_cons, List.getElem?_append_right (by rw [opsQ_len]; omega), opsQ_len, Nat.add_sub_cancel_left, h]
theorem opsQ_take {o : Opn} {S : List Opn} : (opsQ (o :: S)).take (S.length * 2) = opsQ S := by
  rw [opsQ_cons]; exact List.take_left' (opsQ_len S)
theorem opsQ_set {o : Opn} {S : List Opn} {z : Int} : (opsQ (o :: S)).set (S.length * 2 + 1) (.int .i64 z) = opsQ ({ o with left := z } :: S) := by
  rw [opsQ_cons, opsQ_cons, List.set_append_right _ _ (by rw [opsQ_len]; omega), opsQ_len, Nat.add_sub_cancel_left]
  rfl
theorem leftB_z {o : Opn} {S : List Opn} (h : o.left = 0) : leftB (o :: S) = leftB S := by rw [leftB, List.any_cons, h]; rfl
theorem leftB_n {o : Opn} {S : List Opn} (h : ¬ o.left = 0) (h0 : 0 ≤ o.left) : leftB (o :: S) = true := by rw [leftB, List.any_cons, decide_eq_true (by omega)]; rfl

set_option maxHeartbeats 4000000 in
theorem nodes_spec (l : List Ex) (v : Value) (w0 : World) (hS : Sl w0 7 v l.length (exs l)) (hl : l.length ≤ 4611686018427387904) (hln : ∀ x ∈ l, x.name.length ≤ 9223372036854775807 ∧ x.label.length ≤ 9223372036854775807) : Ca Try.prog 43 #[v] w0 (fun r w' => r = .tuple #[.int .i64 ((chkT l).1 : Int), .int .i64 ((chkT l).2 : Int)] ∧ Ext w0 w') := by
  have hx : Ext w0 w0 := Only.refl _ _
  refine Ca.of Try.func43 Try.ntmps43 rfl rfl ?_
  refine W.seq ?_
  refine W.region ?_
  refine WL.c rfl (o_ash (show _ = Value.int _ _ from rfl) ?_)
  refine WL.c rfl (o_ash (show _ = Value.int _ _ from rfl) ?_)
  refine WL.nil ?_
  refine W.seq ?_
  refine W.region ?_
  refine WL.c rfl (o_bldC (cs := [(.int .i64 0), (.int .i64 1)]) TI99 (Sizes.cons TI3 (Sizes.cons TI3 Sizes.nil)) rfl (lcp (show _ = Value.int _ _ from rfl) (lcp (show _ = Value.int _ _ from rfl) lnp)) rfl rfl ?_)
  refine WL.c rfl (o_bs1 TI100 TI99 (show _ = Value.agg #[.int .i64 0, .int .i64 1] from rfl) (by decide) (by decide) rfl ?_)
  have hown : (w0.alloc (.cells (Value.agg #[.int .i64 0, .int .i64 1]).cells 99)).ownsRow w0.heap.size 99 2 (.slice (some ⟨w0.heap.size, 0, none⟩) 1 1) [(⟨0, 1, 0⟩ : Opn)].length (opsQ [⟨0, 1, 0⟩]) := own_new1 rfl
  replace hx : Ext w0 (w0.alloc (.cells (Value.agg #[.int .i64 0, .int .i64 1]).cells 99)) := Only.alloc w0 _
  generalize w0.alloc (.cells (Value.agg #[.int .i64 0, .int .i64 1]).cells 99) = w1 at *
  refine WL.c rfl (o_ash (by first | exact (show _ = Value.slice _ _ _ from rfl) | exact rfl) ?_)
  refine WL.nil ?_
  refine W.seq ?_
  refine W.region ?_
  refine WL.c rfl (o_ash (show _ = Value.int _ _ from rfl) ?_)
  refine WL.nil ?_
  refine W.block ?_
  refine W.loop (fun e w => ∃ (i : Nat) (S : List Opn) (sv : Value), i ≤ l.length ∧ e 0 = v ∧ e 4 = sv ∧ e 5 = .int .i64 (i : Int) ∧ w.ownsRow w0.heap.size 99 2 sv S.length (opsQ S) ∧ OkS S ∧ S.length ≤ 18 ∧ chkT l = chkE S i (l.drop i) ∧ Ext w0 w) (fun e w => l.length - (intOf (e 5)).toNat) ?_ ?_
  · refine ⟨0, [⟨0, 1, 0⟩], _, Nat.zero_le _, rfl, rfl, rfl, hown, ⟨rfl, by decide, by decide, trivial⟩, by decide, rfl, hx⟩
  rintro e w ⟨i, S0, sv0, hi, h0, h4, h5, hown, hok, hSl, hres, hx⟩
  have hm5 := h5
  refine W.seq ?_
  refine W.block ?_
  refine W.seq ?_
  refine W.block ?_
  refine W.loop (fun e w => ∃ (S : List Opn) (sv : Value), e 0 = v ∧ e 4 = sv ∧ e 5 = .int .i64 (i : Int) ∧ w.ownsRow w0.heap.size 99 2 sv S.length (opsQ S) ∧ OkS S ∧ S.length ≤ 18 ∧ popZ S0 = popZ S ∧ leftB S0 = leftB S ∧ Ext w0 w) (fun e w => slen (e 4)) ?_ ?_
  · exact ⟨S0, sv0, h0, h4, h5, hown, hok, hSl, rfl, rfl, hx⟩
  rintro e w ⟨S, sv, h0, h4, h5, hown, hok, hSl, hpz, hlb, hx⟩
  have hm4 := h4
  refine W.seq ?_
  refine W.seq ?_
  rcases S with _ | ⟨o, S⟩
  · skip
    skip
    refine W.region ?_
    refine WL.c rfl (o_mvh h4 ?_)
    refine WL.c rfl (o_lenR TI100 rfl (Sl.own hown) ?_)
    refine WL.c rfl (o_gt rfl rfl ?_)
    refine WL.c rfl (o_mvh (show _ = Value.bool _ from rfl) ?_)
    refine WL.s rfl (decide_eq_false (by simp)) rfl ?_
    refine WL.s rfl (decide_eq_false (by simp)) rfl ?_
    refine WL.s rfl (decide_eq_false (by simp)) rfl ?_
    refine WL.s rfl (decide_eq_false (by simp)) rfl ?_
    refine WL.s rfl (decide_eq_false (by simp)) rfl ?_
    refine WL.s rfl (decide_eq_false (by simp)) rfl ?_
    refine WL.s rfl (decide_eq_false (by simp)) rfl ?_
    refine WL.s rfl (decide_eq_false (by simp)) rfl ?_
    refine WL.c rfl (o_pickF rfl (decide_eq_false (by simp)) ?_)
    refine WL.nil ?_
    refine W.condF' rfl (rfl) ?_
    refine W.exit ?_
    refine W.seq ?_
    refine W.seq ?_
    refine W.region ?_
    refine WL.c rfl (o_mvh h4 ?_)
    refine WL.c rfl (o_lenR TI100 rfl (Sl.own hown) ?_)
    refine WL.c rfl (o_eq rfl rfl ?_)
    refine WL.c rfl (o_mvh (show _ = Value.bool _ from rfl) ?_)
    refine WL.g rfl (by simp) rfl (o_mvh h5 ?_)
    refine WL.g rfl (by simp) rfl (o_mvh h0 ?_)
    refine WL.g rfl (by simp) rfl (o_lenR TI37 rfl (hS.ext hx) ?_)
    refine WL.g rfl (by simp) rfl (o_eq rfl rfl ?_)
    refine WL.c rfl (o_pickA rfl rfl ?_)
    refine WL.nil ?_
    refine W.cond rfl (fun c38 => ?_) (fun c38 => ?_)
    · try simp only [cs8] at c38
      have hil : i = l.length := by simp at c38; omega
      rw [hil, List.drop_length, chkE_nil, hlb, if_neg (by simp [leftB])] at hres
      refine W.seq ?_
      refine W.region ?_
      refine WL.c rfl (o_ash (show _ = Value.int _ _ from rfl) ?_)
      refine WL.c rfl (o_ash (show _ = Value.int _ _ from rfl) ?_)
      refine WL.nil ?_
      refine W.ret ?_
      refine ret2v rfl (show _ = Value.int _ _ from rfl) (show _ = Value.int _ _ from rfl) ?_
      rw [hres]
      exact ⟨rfl, hx⟩
    · try simp only [cs8] at c38
      have hil : i < l.length := by simp at c38; omega
      have hlc : l.drop i = l[i] :: l.drop (i + 1) := (List.getElem_cons_drop hil).symm
      have h062 := hres.trans (by rw [hlc, chkE_z hpz])
      refine W.skip ?_
      refine W.seq ?_
      refine W.seq ?_
      refine W.region ?_
      refine WL.c rfl (o_mvh h4 ?_)
      refine WL.c rfl (o_lenR TI100 rfl (Sl.own hown) ?_)
      refine WL.c rfl (o_eq rfl rfl ?_)
      refine WL.c rfl (o_mvh (show _ = Value.bool _ from rfl) ?_)
      refine WL.s rfl (by simp) rfl ?_
      refine WL.s rfl (by simp) rfl ?_
      refine WL.s rfl (by simp) rfl ?_
      refine WL.s rfl (by simp) rfl ?_
      refine WL.c rfl (o_pickT rfl (by simp) ?_)
      refine WL.nil ?_
      refine W.condT' rfl (by simp) ?_
      refine W.seq ?_
      refine W.region ?_
      refine WL.c rfl (o_mvh h5 ?_)
      refine WL.c rfl (o_ash (show _ = Value.int _ _ from rfl) ?_)
      refine WL.c rfl (o_ash (show _ = Value.int _ _ from rfl) ?_)
      refine WL.nil ?_
      refine W.ret ?_
      refine ret2v rfl (show _ = Value.int _ _ from rfl) (show _ = Value.int _ _ from rfl) ?_
      rw [h062]
      exact ⟨rfl, hx⟩
  · skip
    replace hown : w.ownsRow w0.heap.size 99 2 sv (S.length + 1) (opsQ (o :: S)) := hown
    obtain ⟨g, cap, rfl, hgb⟩ := own_some hown (by omega)
    have hcap : S.length + 1 ≤ cap := by obtain ⟨_, _, hv, hh⟩ := own_form hown; cases hv; exact hh
    obtain ⟨hdp, hlo, hhi, hok2⟩ := OkS_cons.1 hok
    have hSl2 : S.length + 1 ≤ 18 := hSl
    refine W.region ?_
    refine WL.c rfl (o_mvh h4 ?_)
    refine WL.c rfl (o_lenR TI100 rfl (Sl.own hown) ?_)
    refine WL.c rfl (o_gt rfl rfl ?_)
    refine WL.c rfl (o_mvh (show _ = Value.bool _ from rfl) ?_)
    refine WL.g rfl (decide_eq_true (by omega)) rfl (o_mvh h4 ?_)
    refine WL.g rfl (decide_eq_true (by omega)) rfl (o_mvh h4 ?_)
    refine WL.g rfl (decide_eq_true (by omega)) rfl (o_lenR TI100 rfl (Sl.own hown) ?_)
    refine WL.g rfl (decide_eq_true (by omega)) rfl (o_subi rfl rfl (by omega) ?_)
    refine WL.g rfl (decide_eq_true (by omega)) rfl (o_ixB (i := S.length) TI100 TI99 rfl (by show Value.int .i64 _ = _; congr 1; omega) (by omega) ?_)
    refine WL.g rfl (decide_eq_true (by omega)) rfl (o_fa 1 TI99 rfl TI3 rfl rfl ?_)
    refine WL.g rfl (decide_eq_true (by omega)) rfl (o_ld TI3 rfl rfl (own_cell hown (j := 0 + S.length * 2 + 1) (by rw [Nat.zero_add]; exact opsQ_get _ rfl)) ?_)
    refine WL.g rfl (decide_eq_true (by omega)) rfl (o_eq rfl rfl ?_)
    refine WL.c rfl (o_pickA rfl rfl ?_)
    refine WL.nil ?_
    refine W.cond rfl (fun c24 => ?_) (fun c24 => ?_)
    · try simp only [cs8] at c24
      have hz : o.left = 0 := c24.2
      refine W.skip ?_
      refine W.block ?_
      refine W.region ?_
      refine WL.c rfl (o_mvh h4 ?_)
      refine WL.c rfl (o_mvh h4 ?_)
      refine WL.c rfl (o_lenR TI100 rfl (Sl.own hown) ?_)
      refine WL.c rfl (o_subi rfl rfl (by omega) ?_)
      refine WL.c rfl (o_slv (h := S.length) TI100 TI99 rfl Lo.n (Hi.s (by show Value.int .i64 _ = _; congr 1; omega)) (Nat.zero_le _) (by omega) ?_)
      rw [sliced0]
      have hown2 := own_take hown (m := S.length) (by omega)
      rw [opsQ_take] at hown2
      refine WL.c rfl (o_ash (by first | exact (show _ = Value.slice _ _ _ from rfl) | exact rfl) ?_)
      refine WL.nil ?_
      refine ⟨⟨S, _, h0, rfl, h5, hown2, hok.2.2.2, by omega, by rw [hpz, popZ_z hz], by rw [hlb, leftB_z hz], hx⟩, ?_⟩
      rw [hm4]; show S.length < S.length + 1; omega
    · try simp only [cs8] at c24
      have hz : ¬ o.left = 0 := fun hz => by rcases c24 with c | c; omega; exact c hz
      have hpz2 := hpz.trans (popZ_n hz)
      refine W.exit ?_
      refine W.seq ?_
      refine W.seq ?_
      refine W.region ?_
      refine WL.c rfl (o_mvh h4 ?_)
      refine WL.c rfl (o_lenR TI100 rfl (Sl.own hown) ?_)
      refine WL.c rfl (o_eq rfl rfl ?_)
      refine WL.c rfl (o_mvh (show _ = Value.bool _ from rfl) ?_)
      refine WL.s rfl (decide_eq_false (by omega)) rfl ?_
      refine WL.s rfl (decide_eq_false (by omega)) rfl ?_
      refine WL.s rfl (decide_eq_false (by omega)) rfl ?_
      refine WL.s rfl (decide_eq_false (by omega)) rfl ?_
      refine WL.c rfl (o_pickF rfl (decide_eq_false (by omega)) ?_)
      refine WL.nil ?_
      refine W.condF' rfl (rfl) ?_
      refine W.skip ?_
      refine W.seq ?_
      refine W.seq ?_
      refine W.region ?_
      refine WL.c rfl (o_mvh h4 ?_)
      refine WL.c rfl (o_lenR TI100 rfl (Sl.own hown) ?_)
      refine WL.c rfl (o_eq rfl rfl ?_)
      refine WL.c rfl (o_mvh (show _ = Value.bool _ from rfl) ?_)
      refine WL.g rfl (decide_eq_false (by omega)) rfl (o_mvh h5 ?_)
      refine WL.g rfl (decide_eq_false (by omega)) rfl (o_mvh h0 ?_)
      refine WL.g rfl (decide_eq_false (by omega)) rfl (o_lenR TI37 rfl (hS.ext hx) ?_)
      refine WL.g rfl (decide_eq_false (by omega)) rfl (o_eq rfl rfl ?_)
      refine WL.c rfl (o_pickO rfl rfl ?_)
      refine WL.nil ?_
      refine W.cond rfl (fun c47 => ?_) (fun c47 => ?_)
      · try simp only [cs8] at c47
        have hil : i = l.length := by simp at c47; omega
        rw [hil, List.drop_length, chkE_nil, hlb, leftB_n hz hlo, if_pos rfl] at hres
        refine W.seq ?_
        refine W.region ?_
        refine WL.c rfl (o_mvh h5 ?_)
        refine WL.c rfl (o_ash (show _ = Value.int _ _ from rfl) ?_)
        refine WL.c rfl (o_ash (show _ = Value.int _ _ from rfl) ?_)
        refine WL.nil ?_
        refine W.ret ?_
        refine ret2v rfl (show _ = Value.int _ _ from rfl) (show _ = Value.int _ _ from rfl) ?_
        rw [hres]
        exact ⟨by rw [hil]; rfl, hx⟩
      · try simp only [cs8] at c47
        have hil : i < l.length := by simp at c47; omega
        have hlc : l.drop i = l[i] :: l.drop (i + 1) := (List.getElem_cons_drop hil).symm
        have hres2 := hres.trans (by rw [hlc, chkE_o hpz2])
        obtain ⟨tb, to_, tc, hvv, htc⟩ := Sl.exq (hS.ext hx) hil
        refine W.skip ?_
        refine W.seq ?_
        refine W.region ?_
        refine WL.c rfl (o_mvh h0 ?_)
        refine WL.c rfl (o_mvh h5 ?_)
        refine WL.c rfl (o_ixB (i := i) TI37 TI26 (show _ = _ from hvv) rfl (by omega) ?_)
        refine WL.c rfl (o_ldA TI26 rfl rfl htc rfl ?_)
        refine WL.c rfl (o_alB TI26 ?_)
        intro w6 hC6 hx6 hs6
        refine WL.u (o_stA TI26 rfl (show _ = Value.agg (exV l[i]).toArray from rfl) rfl rfl hC6 rfl ?_)
        intro w7 hC7 ho7 hs7
        have hxb := Ext.own hx6 (Nat.le_refl _) ho7
        clear hC6 hx6 hs6 ho7 hs7 htc
        have hgw := (hown.lt g rfl).2
        have hgl := (hown.lt g rfl).1
        replace hown := own_ext hown hxb
        replace hx := hx.tr hxb
        obtain ⟨c6, hc6⟩ : ∃ c, c = w.heap.size := ⟨_, rfl⟩
        rw [← hc6] at hC7 ⊢
        have hcg : ¬ g = c6 := by omega
        refine WL.nil ?_
        refine W.seq ?_
        refine W.region ?_
        refine WL.c rfl (o_mvh h4 ?_)
        refine WL.c rfl (o_lenR TI100 rfl (Sl.own hown) ?_)
        refine WL.c rfl (o_subi rfl rfl (by omega) ?_)
        rw [show (((S.length + 1 : Nat) : Int) - 1) = (S.length : Int) by omega]
        refine WL.c rfl (o_ash (show _ = Value.int _ _ from rfl) ?_)
        refine WL.nil ?_
        refine W.seq ?_
        refine W.block ?_
        refine W.seq ?_
        refine W.region ?_
        refine WL.c rfl (o_mvh (show _ = Value.int _ _ from rfl) ?_)
        refine WL.c rfl (o_gt rfl rfl ?_)
        refine WL.c rfl (o_ash (show _ = Value.bool _ from rfl) ?_)
        refine WL.nil ?_
        refine W.cond rfl (fun c56 => ?_) (fun c56 => ?_)
        · try simp only [cs8] at c56
          have hdeep : 16 < o.deep := by omega
          rw [if_pos hdeep] at hres2
          refine W.seq ?_
          refine W.region ?_
          refine WL.c rfl (o_mvh h5 ?_)
          refine WL.c rfl (o_ash (show _ = Value.int _ _ from rfl) ?_)
          refine WL.c rfl (o_ash (show _ = Value.int _ _ from rfl) ?_)
          refine WL.nil ?_
          refine W.ret ?_
          refine ret2v rfl (show _ = Value.int _ _ from rfl) (show _ = Value.int _ _ from rfl) ?_
          rw [hres2]
          exact ⟨rfl, hx⟩
        · try simp only [cs8] at c56
          have hdeep : ¬ 16 < o.deep := by omega
          rw [if_neg hdeep] at hres2
          refine W.seq ?_
          refine W.seq ?_
          refine W.region ?_
          refine WL.c rfl (o_fa 0 TI26 rfl TI3 rfl rfl ?_)
          refine WL.c rfl (o_ld TI3 rfl rfl (cell_of hC7 rfl) ?_)
          refine WL.c rfl (o_eq rfl rfl ?_)
          refine WL.c rfl (o_mvh (show _ = Value.bool _ from rfl) ?_)
          refine WL.sp 3 rfl (fun g64 => ?_) (fun g64 => ?_)
          · skip
            refine WL.g rfl (g64) rfl (o_fa 5 TI26 rfl TI3 rfl rfl ?_)
            refine WL.g rfl (g64) rfl (o_ld TI3 rfl rfl (cell_of hC7 rfl) ?_)
            refine WL.g rfl (g64) rfl (o_gt rfl rfl ?_)
            refine WL.c rfl (o_pickA rfl rfl ?_)
            refine WL.c rfl (o_ash (show _ = Value.bool _ from rfl) ?_)
            refine WL.nil ?_
            refine W.cut (fun e1 w1 => e1 0 = v ∧ e1 4 = Value.slice (some ⟨g, 0, none⟩) (S.length + 1) cap ∧ e1 5 = .int .i64 (i : Int) ∧ e1 6 = .pointer (some ⟨c6, 0, none⟩) ∧ e1 7 = .int .i64 (S.length : Int) ∧ e1 60 = .bool (manyB l[i]) ∧ w1 = w7) ?_ ?_
            · -- both ways
              refine W.cond rfl (fun c60 => ?_) (fun c60 => ?_)
              · try simp only [cs8] at c60
                refine W.skip ?_
                exact ⟨h0, h4, h5, rfl, rfl, congrArg Value.bool (by rw [Bool.eq_iff_iff]; (try simp only [decide_eq_true_eq, decide_eq_false_iff_not] at g64); (try simp only [decide_eq_true_eq, decide_eq_false_iff_not] at g72); (try (cases c60; done)); all_goals simp only [manyB, Bool.or_eq_true, Bool.and_eq_true, decide_eq_true_eq, Bool.false_eq_true, false_iff]; all_goals omega), rfl⟩
              · try simp only [cs8] at c60
                refine W.region ?_
                refine WL.c rfl (o_fa 0 TI26 rfl TI3 rfl rfl ?_)
                refine WL.c rfl (o_ld TI3 rfl rfl (cell_of hC7 rfl) ?_)
                refine WL.c rfl (o_eq rfl rfl ?_)
                refine WL.c rfl (o_mvh (show _ = Value.bool _ from rfl) ?_)
                refine WL.sp 3 rfl (fun g72 => ?_) (fun g72 => ?_)
                · skip
                  refine WL.g rfl (g72) rfl (o_fa 5 TI26 rfl TI3 rfl rfl ?_)
                  refine WL.g rfl (g72) rfl (o_ld TI3 rfl rfl (cell_of hC7 rfl) ?_)
                  refine WL.g rfl (g72) rfl (o_gt rfl rfl ?_)
                  refine WL.c rfl (o_pickA rfl rfl ?_)
                  refine WL.c rfl (o_ash (show _ = Value.bool _ from rfl) ?_)
                  refine WL.nil ?_
                  exact ⟨h0, h4, h5, rfl, rfl, congrArg Value.bool (by rw [Bool.eq_iff_iff]; (try simp only [decide_eq_true_eq, decide_eq_false_iff_not] at g64); (try simp only [decide_eq_true_eq, decide_eq_false_iff_not] at g72); (try (cases c60; done)); all_goals simp only [manyB, Bool.or_eq_true, Bool.and_eq_true, decide_eq_true_eq, Bool.false_eq_true, false_iff]; all_goals omega), rfl⟩
                · skip
                  refine WL.s rfl (g72) rfl ?_
                  refine WL.s rfl (g72) rfl ?_
                  refine WL.s rfl (g72) rfl ?_
                  refine WL.c rfl (o_pickF rfl (g72) ?_)
                  refine WL.c rfl (o_ash (show _ = Value.bool _ from rfl) ?_)
                  refine WL.nil ?_
                  exact ⟨h0, h4, h5, rfl, rfl, congrArg Value.bool (by rw [Bool.eq_iff_iff]; (try simp only [decide_eq_true_eq, decide_eq_false_iff_not] at g64); (try simp only [decide_eq_true_eq, decide_eq_false_iff_not] at g72); (try (cases c60; done)); all_goals simp only [manyB, Bool.or_eq_true, Bool.and_eq_true, decide_eq_true_eq, Bool.false_eq_true, false_iff]; all_goals omega), rfl⟩
            rintro e w ⟨h0, h4, h5, h6, h7, h60, rfl⟩
            refine W.cond h60 (fun c60 => ?_) (fun c60 => ?_)
            · try simp only [cs8] at c60
              refine W.seq ?_
              have hmany : manyB l[i] = true := by simpa using c60
              rw [if_pos hmany] at hres2
              refine W.region ?_
              refine WL.c rfl (o_mvh h5 ?_)
              refine WL.c rfl (o_ash (show _ = Value.int _ _ from rfl) ?_)
              refine WL.c rfl (o_ash (show _ = Value.int _ _ from rfl) ?_)
              refine WL.nil ?_
              refine W.ret ?_
              refine ret2v rfl (show _ = Value.int _ _ from rfl) (show _ = Value.int _ _ from rfl) ?_
              rw [hres2]
              exact ⟨rfl, hx⟩
            · try simp only [cs8] at c60
              refine W.seq ?_
              cases hrgt : rgtB l[i]
              · skip
                skip
                have hmany : manyB l[i] = false := by simpa using c60
                rw [if_neg (by simp [hmany])] at hres2
                obtain ⟨wd, hwd⟩ : ∃ wd, wd = w.drew := ⟨_, rfl⟩
                have hxd : Ext w wd := hwd ▸ Only.drew w
                replace hown := own_ext hown hxd
                replace hC7 := hxd.blk hC7 (fun h => h)
                replace hx := hx.tr hxd
                refine W.draw (Ext) [(0, fun v _ => v = _), (4, fun v _ => v = _), (5, fun v _ => v = _), (6, fun v _ => v = _), (7, fun v _ => v = _)] rfl (by kernel_rfl) (Only.refl No) (fun _ _ _ h k => h.trans k) ⟨Mono.eq, Mono.eq, Mono.eq, Mono.eq, Mono.eq, trivial⟩ ⟨h0, h4, h5, h6, h7, trivial⟩ ?_
                refine WD.p rfl (fun e w hR hh => by obtain ⟨h6, -⟩ := hh; rw [← hwd] at hR; exact SG.n (o_ldA TI26 rfl h6 (show Cells w c6 0 (exV l[i]) from Cells.of (hR.blk hC7 (fun h => h)) 0 _ (by simp)) rfl ⟨rfl, Only.refl No _⟩)) ?_
                refine WD.p rfl (fun e w hR hh => by obtain ⟨h79, -⟩ := hh; exact SG.n (o_call Try.call56 (lc h79 ln) ((rright_spec l[i] _ (hln _ (List.getElem_mem hil)).1).mono (fun v w' h => h)))) ?_
                refine WD.p rfl (fun e w hR hh => by obtain ⟨h80, -⟩ := hh; exact SG.n (o_not' h80 ⟨rfl, Only.refl No _⟩)) ?_
                refine WD.p rfl (fun e w hR hh => by obtain ⟨h81, -⟩ := hh; exact SG.n (o_mvh h81 ⟨rfl, Only.refl No _⟩)) ?_
                refine WD.p rfl (fun e w hR hh => by obtain ⟨h82, h6, -⟩ := hh; rw [← hwd] at hR; exact SG.s h82 (by simp [hrgt]) ⟨rfl, Only.refl No _⟩) ?_
                refine WD.p rfl (fun e w hR hh => by obtain ⟨h82, h4, -⟩ := hh; exact SG.s h82 (by simp [hrgt]) ⟨rfl, Only.refl No _⟩) ?_
                refine WD.p rfl (fun e w hR hh => by obtain ⟨h82, h7, -⟩ := hh; exact SG.s h82 (by simp [hrgt]) ⟨rfl, Only.refl No _⟩) ?_
                refine WD.p rfl (fun e w hR hh => by obtain ⟨h85, h84, h82, -⟩ := hh; exact SG.s h82 (by simp [hrgt]) ⟨rfl, Only.refl No _⟩) ?_
                refine WD.p rfl (fun e w hR hh => by obtain ⟨h86, h82, -⟩ := hh; exact SG.s h82 (by simp [hrgt]) ⟨rfl, Only.refl No _⟩) ?_
                refine WD.p rfl (fun e w hR hh => by obtain ⟨h87, h82, -⟩ := hh; rw [← hwd] at hR; exact SG.s h82 (by simp [hrgt]) ⟨rfl, Only.refl No _⟩) ?_
                refine WD.p rfl (fun e w hR hh => by obtain ⟨h88, h83, h82, -⟩ := hh; exact SG.s h82 (by simp [hrgt]) ⟨rfl, Only.refl No _⟩) ?_
                refine WD.p rfl (fun e w hR hh => by obtain ⟨h89, h82, -⟩ := hh; exact SG.s h82 (by simp [hrgt]) ⟨rfl, Only.refl No _⟩) ?_
                refine WD.p rfl (fun e w hR hh => by obtain ⟨h90, h82, -⟩ := hh; exact SG.n (o_pickT h82 (by simp [hrgt]) ⟨rfl, Only.refl No _⟩)) ?_
                refine WD.p rfl (fun e w hR hh => by obtain ⟨h91, -⟩ := hh; exact SG.n (o_ash h91 ⟨rfl, Only.refl No _⟩)) ?_
                rintro e w hR ⟨h78, h91, h90, h89, h88, h87, h86, h85, h84, h83, h82, h81, h80, h79, h0, h4, h5, h6, h7, -⟩
                rw [← hwd] at hR
                replace hown := own_ext hown hR
                replace hC7 := hR.blk hC7 (fun h => h)
                replace hx := hx.tr hR
                refine W.condT' h78 (rfl) ?_
                refine W.seq ?_
                have hright : rightB l[i] o.kind = false := by rw [rightB_two, hrgt]; rfl
                rw [if_pos hright] at hres2
                refine W.region ?_
                refine WL.c rfl (o_mvh h5 ?_)
                refine WL.c rfl (o_ash (show _ = Value.int _ _ from rfl) ?_)
                refine WL.c rfl (o_ash (show _ = Value.int _ _ from rfl) ?_)
                refine WL.nil ?_
                refine W.ret ?_
                refine ret2v rfl (show _ = Value.int _ _ from rfl) (show _ = Value.int _ _ from rfl) ?_
                rw [hres2]
                exact ⟨rfl, hx⟩
              · skip
                skip
                have hmany : manyB l[i] = false := by simpa using c60
                rw [if_neg (by simp [hmany])] at hres2
                obtain ⟨wd, hwd⟩ : ∃ wd, wd = w.drew := ⟨_, rfl⟩
                have hxd : Ext w wd := hwd ▸ Only.drew w
                replace hown := own_ext hown hxd
                replace hC7 := hxd.blk hC7 (fun h => h)
                replace hx := hx.tr hxd
                refine W.draw (Ext) [(0, fun v _ => v = _), (4, fun v _ => v = _), (5, fun v _ => v = _), (6, fun v _ => v = _), (7, fun v _ => v = _)] rfl (by kernel_rfl) (Only.refl No) (fun _ _ _ h k => h.trans k) ⟨Mono.eq, Mono.eq, Mono.eq, Mono.eq, Mono.eq, trivial⟩ ⟨h0, h4, h5, h6, h7, trivial⟩ ?_
                refine WD.p rfl (fun e w hR hh => by obtain ⟨h6, -⟩ := hh; rw [← hwd] at hR; exact SG.n (o_ldA TI26 rfl h6 (show Cells w c6 0 (exV l[i]) from Cells.of (hR.blk hC7 (fun h => h)) 0 _ (by simp)) rfl ⟨rfl, Only.refl No _⟩)) ?_
                refine WD.p rfl (fun e w hR hh => by obtain ⟨h79, -⟩ := hh; exact SG.n (o_call Try.call56 (lc h79 ln) ((rright_spec l[i] _ (hln _ (List.getElem_mem hil)).1).mono (fun v w' h => h)))) ?_
                refine WD.p rfl (fun e w hR hh => by obtain ⟨h80, -⟩ := hh; exact SG.n (o_not' h80 ⟨rfl, Only.refl No _⟩)) ?_
                refine WD.p rfl (fun e w hR hh => by obtain ⟨h81, -⟩ := hh; exact SG.n (o_mvh h81 ⟨rfl, Only.refl No _⟩)) ?_
                refine WD.p rfl (fun e w hR hh => by obtain ⟨h82, h6, -⟩ := hh; rw [← hwd] at hR; exact SG.g h82 (by simp [hrgt]) (o_ldA TI26 rfl h6 (show Cells w c6 0 (exV l[i]) from Cells.of (hR.blk hC7 (fun h => h)) 0 _ (by simp)) rfl ⟨rfl, Only.refl No _⟩)) ?_
                refine WD.p rfl (fun e w hR hh => by obtain ⟨h82, h4, -⟩ := hh; exact SG.g h82 (by simp [hrgt]) (o_mvh h4 ⟨rfl, Only.refl No _⟩)) ?_
                refine WD.p rfl (fun e w hR hh => by obtain ⟨h82, h7, -⟩ := hh; exact SG.g h82 (by simp [hrgt]) (o_mvh h7 ⟨rfl, Only.refl No _⟩)) ?_
                refine WD.p rfl (fun e w hR hh => by obtain ⟨h85, h84, h82, -⟩ := hh; exact SG.g h82 (by simp [hrgt]) (o_ixB (i := S.length) TI100 TI99 h84 h85 (by omega) ⟨rfl, Only.refl No _⟩)) ?_
                refine WD.p rfl (fun e w hR hh => by obtain ⟨h86, h82, -⟩ := hh; exact SG.g h82 (by simp [hrgt]) (o_fa 0 TI99 rfl TI3 rfl h86 ⟨rfl, Only.refl No _⟩)) ?_
                refine WD.p rfl (fun e w hR hh => by obtain ⟨h87, h82, -⟩ := hh; rw [← hwd] at hR; exact SG.g h82 (by simp [hrgt]) (o_ld TI3 rfl h87 (own_cell (own_ext hown hR) (j := 0 + S.length * 2 + 0) (by rw [Nat.zero_add]; exact opsQ_get _ rfl)) ⟨rfl, Only.refl No _⟩)) ?_
                refine WD.p rfl (fun e w hR hh => by obtain ⟨h88, h83, h82, -⟩ := hh; exact SG.g h82 (by simp [hrgt]) (o_call Try.call57 (lc h83 (lc h88 ln)) ((placed_spec l[i] o.kind _ (hln _ (List.getElem_mem hil)).2).mono (fun v w' h => h)))) ?_
                refine WD.p rfl (fun e w hR hh => by obtain ⟨h89, h82, -⟩ := hh; exact SG.g h82 (by simp [hrgt]) (o_not' h89 ⟨rfl, Only.refl No _⟩)) ?_
                refine WD.p rfl (fun e w hR hh => by obtain ⟨h90, h82, -⟩ := hh; exact SG.n (o_pickO h82 h90 ⟨rfl, Only.refl No _⟩)) ?_
                refine WD.p rfl (fun e w hR hh => by obtain ⟨h91, -⟩ := hh; exact SG.n (o_ash h91 ⟨rfl, Only.refl No _⟩)) ?_
                rintro e w hR ⟨h78, h91, h90, h89, h88, h87, h86, h85, h84, h83, h82, h81, h80, h79, h0, h4, h5, h6, h7, -⟩
                rw [← hwd] at hR
                replace hown := own_ext hown hR
                replace hC7 := hR.blk hC7 (fun h => h)
                replace hx := hx.tr hR
                refine W.cond h78 (fun c78 => ?_) (fun c78 => ?_)
                · try simp only [cs8] at c78
                  have hright : rightB l[i] o.kind = false := by rw [rightB_two, hrgt]; simpa [hrgt] using c78
                  rw [if_pos hright] at hres2
                  refine W.seq ?_
                  refine W.region ?_
                  refine WL.c rfl (o_mvh h5 ?_)
                  refine WL.c rfl (o_ash (show _ = Value.int _ _ from rfl) ?_)
                  refine WL.c rfl (o_ash (show _ = Value.int _ _ from rfl) ?_)
                  refine WL.nil ?_
                  refine W.ret ?_
                  refine ret2v rfl (show _ = Value.int _ _ from rfl) (show _ = Value.int _ _ from rfl) ?_
                  rw [hres2]
                  exact ⟨rfl, hx⟩
                · try simp only [cs8] at c78
                  have hright : rightB l[i] o.kind = true := by rw [rightB_two, hrgt]; simpa [hrgt] using c78
                  rw [if_neg (by simp [hright])] at hres2
                  have hkd := rightB_kids hright hmany
                  refine W.skip ?_
                  refine W.seq ?_
                  refine W.region ?_
                  refine WL.c rfl (o_mvh h4 ?_)
                  refine WL.c rfl (o_mvh h7 ?_)
                  refine WL.c rfl (o_ixB (i := S.length) TI100 TI99 rfl rfl (by omega) ?_)
                  refine WL.c rfl (o_fa 1 TI99 rfl TI3 rfl rfl ?_)
                  refine WL.c rfl (o_ld TI3 rfl rfl (own_cell hown (j := 0 + S.length * 2 + 1) (by rw [Nat.zero_add]; exact opsQ_get _ rfl)) ?_)
                  refine WL.c rfl (o_subi rfl rfl (by omega) ?_)
                  refine WL.c rfl (o_ixB (i := S.length) TI100 TI99 rfl rfl (by omega) ?_)
                  refine WL.c rfl (o_fa 1 TI99 rfl TI3 rfl rfl ?_)
                  refine WL.u (o_stRj (i := S.length * 2 + 1) TI3 rfl (by omega) (show _ = Value.int .i64 (o.left - 1) from rfl) rfl hown rfl (by omega) ?_)
                  intro wA hown' hoA hsA
                  replace hown : wA.ownsRow w0.heap.size 99 2 (Value.slice (some ⟨g, 0, none⟩) (S.length + 1) cap) (S.length + 1) (opsQ ({ o with left := o.left - 1 } :: S)) := by rw [← opsQ_set]; exact hown'
                  clear hown'
                  replace hC7 := hoA.blk hC7 (fun hk => hcg (by simpa [Value.ownBlock] using hk))
                  replace hx := hx.trans' hoA (fun _ h => h) (fun k hk he => by have := ob he; omega)
                  have hok3 : OkS ({ o with left := o.left - 1 } :: S) := ⟨hdp, by show 0 ≤ o.left - 1; omega, by show o.left - 1 ≤ 64; omega, hok2⟩
                  refine WL.nil ?_
                  refine W.seq ?_
                  refine W.region ?_
                  refine WL.c rfl (o_fa 5 TI26 rfl TI3 rfl h6 ?_)
                  refine WL.c rfl (o_ld TI3 rfl rfl (cell_of hC7 rfl) ?_)
                  refine WL.c rfl (o_gt rfl rfl ?_)
                  refine WL.nil ?_
                  refine W.cond rfl (fun c103 => ?_) (fun c103 => ?_)
                  · try simp only [cs8] at c103
                    have hkp : 0 < l[i].kids := by omega
                    refine W.region ?_
                    refine WL.c rfl (o_mvh h4 ?_)
                    refine WL.c rfl (o_fa 0 TI26 rfl TI3 rfl h6 ?_)
                    refine WL.c rfl (o_ld TI3 rfl rfl (cell_of hC7 rfl) ?_)
                    refine WL.c rfl (o_fa 5 TI26 rfl TI3 rfl h6 ?_)
                    refine WL.c rfl (o_ld TI3 rfl rfl (cell_of hC7 rfl) ?_)
                    refine WL.c rfl (o_bldC (cs := [_, _]) TI99 (Sizes.cons TI3 (Sizes.cons TI3 Sizes.nil)) rfl (lcp (show _ = Value.int _ _ from rfl) (lcp (show _ = Value.int _ _ from rfl) lnp)) rfl rfl ?_)
                    refine WL.apO (w0.heap.size) rfl rfl TI100 TI99 rfl rfl hown (by decide) (by decide) rfl (fun a ha => List.all_eq_true.1 (show List.all _ (fun a => a.oneCell') = true from rfl) a ha) rfl (by rw [maxLen_eq]; omega) (by omega) hx.size ?_
                    intro v111 w111 hown111 ho111 hb111 _
                    have hrow : w111.ownsRow w0.heap.size 99 2 v111 (⟨l[i].kind, l[i].kids, o.deep + 1⟩ :: { o with left := o.left - 1 } :: S).length (opsQ (⟨l[i].kind, l[i].kids, o.deep + 1⟩ :: { o with left := o.left - 1 } :: S)) := by rw [opsQ_cons ⟨l[i].kind, l[i].kids, o.deep + 1⟩]; exact hown111
                    replace ho111 : Only (fun k => (Value.slice (some ⟨g, 0, none⟩) (S.length + 1) cap).ownBlock = some k) wA w111 := ho111
                    replace hx := hx.trans' ho111 (fun _ h => h) (fun k hk he => by have := ob he; omega)
                    have hokN : OkS (⟨l[i].kind, l[i].kids, o.deep + 1⟩ :: { o with left := o.left - 1 } :: S) := ⟨by simp only [List.length_cons]; omega, hkd.1, hkd.2, hok3⟩
                    refine WL.c rfl (o_ash (by first | exact (show _ = Value.slice _ _ _ from rfl) | exact rfl) ?_)
                    refine WL.nil ?_
                    refine W.region ?_
                    refine WL.c rfl (o_mvh h5 ?_)
                    refine WL.c rfl (o_addi rfl rfl (by omega) ?_)
                    refine WL.c rfl (o_ash (show _ = Value.int _ _ from rfl) ?_)
                    refine WL.nil ?_
                    refine ⟨⟨i + 1, _, _, by omega, h0, by first | exact h4 | exact rfl, rfl, hrow, hokN, by simp only [List.length_cons]; omega, ?_, hx⟩, ?_⟩
                    · rw [hres, hlc, chkE_o hpz2, if_neg hdeep, if_neg (by simp [hmany]), if_neg (by simp [hright])]
                      all_goals first | rfl | exact chkE_pz hkz
                    · show l.length - ((i : Int) + 1).toNat < _
                      rw [hm5]; simp [intOf]; omega
                  · try simp only [cs8] at c103
                    have hkz : l[i].kids = 0 := by omega
                    have hrow := hown
                    have hokN := hok3
                    refine W.skip ?_
                    refine W.region ?_
                    refine WL.c rfl (o_mvh h5 ?_)
                    refine WL.c rfl (o_addi rfl rfl (by omega) ?_)
                    refine WL.c rfl (o_ash (show _ = Value.int _ _ from rfl) ?_)
                    refine WL.nil ?_
                    refine ⟨⟨i + 1, _, _, by omega, h0, by first | exact h4 | exact rfl, rfl, hrow, hokN, by simp only [List.length_cons]; omega, ?_, hx⟩, ?_⟩
                    · rw [hres, hlc, chkE_o hpz2, if_neg hdeep, if_neg (by simp [hmany]), if_neg (by simp [hright])]
                      all_goals first | rfl | exact chkE_pz hkz
                    · show l.length - ((i : Int) + 1).toNat < _
                      rw [hm5]; simp [intOf]; omega
          · skip
            refine WL.s rfl (g64) rfl ?_
            refine WL.s rfl (g64) rfl ?_
            refine WL.s rfl (g64) rfl ?_
            refine WL.c rfl (o_pickF rfl (g64) ?_)
            refine WL.c rfl (o_ash (show _ = Value.bool _ from rfl) ?_)
            refine WL.nil ?_
            refine W.cut (fun e1 w1 => e1 0 = v ∧ e1 4 = Value.slice (some ⟨g, 0, none⟩) (S.length + 1) cap ∧ e1 5 = .int .i64 (i : Int) ∧ e1 6 = .pointer (some ⟨c6, 0, none⟩) ∧ e1 7 = .int .i64 (S.length : Int) ∧ e1 60 = .bool (manyB l[i]) ∧ w1 = w7) ?_ ?_
            · -- both ways
              refine W.cond rfl (fun c60 => ?_) (fun c60 => ?_)
              · try simp only [cs8] at c60
                refine W.skip ?_
                exact ⟨h0, h4, h5, rfl, rfl, congrArg Value.bool (by rw [Bool.eq_iff_iff]; (try simp only [decide_eq_true_eq, decide_eq_false_iff_not] at g64); (try simp only [decide_eq_true_eq, decide_eq_false_iff_not] at g72); (try (cases c60; done)); all_goals simp only [manyB, Bool.or_eq_true, Bool.and_eq_true, decide_eq_true_eq, Bool.false_eq_true, false_iff]; all_goals omega), rfl⟩
              · try simp only [cs8] at c60
                refine W.region ?_
                refine WL.c rfl (o_fa 0 TI26 rfl TI3 rfl rfl ?_)
                refine WL.c rfl (o_ld TI3 rfl rfl (cell_of hC7 rfl) ?_)
                refine WL.c rfl (o_eq rfl rfl ?_)
                refine WL.c rfl (o_mvh (show _ = Value.bool _ from rfl) ?_)
                refine WL.sp 3 rfl (fun g72 => ?_) (fun g72 => ?_)
                · skip
                  refine WL.g rfl (g72) rfl (o_fa 5 TI26 rfl TI3 rfl rfl ?_)
                  refine WL.g rfl (g72) rfl (o_ld TI3 rfl rfl (cell_of hC7 rfl) ?_)
                  refine WL.g rfl (g72) rfl (o_gt rfl rfl ?_)
                  refine WL.c rfl (o_pickA rfl rfl ?_)
                  refine WL.c rfl (o_ash (show _ = Value.bool _ from rfl) ?_)
                  refine WL.nil ?_
                  exact ⟨h0, h4, h5, rfl, rfl, congrArg Value.bool (by rw [Bool.eq_iff_iff]; (try simp only [decide_eq_true_eq, decide_eq_false_iff_not] at g64); (try simp only [decide_eq_true_eq, decide_eq_false_iff_not] at g72); (try (cases c60; done)); all_goals simp only [manyB, Bool.or_eq_true, Bool.and_eq_true, decide_eq_true_eq, Bool.false_eq_true, false_iff]; all_goals omega), rfl⟩
                · skip
                  refine WL.s rfl (g72) rfl ?_
                  refine WL.s rfl (g72) rfl ?_
                  refine WL.s rfl (g72) rfl ?_
                  refine WL.c rfl (o_pickF rfl (g72) ?_)
                  refine WL.c rfl (o_ash (show _ = Value.bool _ from rfl) ?_)
                  refine WL.nil ?_
                  exact ⟨h0, h4, h5, rfl, rfl, congrArg Value.bool (by rw [Bool.eq_iff_iff]; (try simp only [decide_eq_true_eq, decide_eq_false_iff_not] at g64); (try simp only [decide_eq_true_eq, decide_eq_false_iff_not] at g72); (try (cases c60; done)); all_goals simp only [manyB, Bool.or_eq_true, Bool.and_eq_true, decide_eq_true_eq, Bool.false_eq_true, false_iff]; all_goals omega), rfl⟩
            rintro e w ⟨h0, h4, h5, h6, h7, h60, rfl⟩
            refine W.cond h60 (fun c60 => ?_) (fun c60 => ?_)
            · try simp only [cs8] at c60
              refine W.seq ?_
              have hmany : manyB l[i] = true := by simpa using c60
              rw [if_pos hmany] at hres2
              refine W.region ?_
              refine WL.c rfl (o_mvh h5 ?_)
              refine WL.c rfl (o_ash (show _ = Value.int _ _ from rfl) ?_)
              refine WL.c rfl (o_ash (show _ = Value.int _ _ from rfl) ?_)
              refine WL.nil ?_
              refine W.ret ?_
              refine ret2v rfl (show _ = Value.int _ _ from rfl) (show _ = Value.int _ _ from rfl) ?_
              rw [hres2]
              exact ⟨rfl, hx⟩
            · try simp only [cs8] at c60
              refine W.seq ?_
              cases hrgt : rgtB l[i]
              · skip
                skip
                have hmany : manyB l[i] = false := by simpa using c60
                rw [if_neg (by simp [hmany])] at hres2
                obtain ⟨wd, hwd⟩ : ∃ wd, wd = w.drew := ⟨_, rfl⟩
                have hxd : Ext w wd := hwd ▸ Only.drew w
                replace hown := own_ext hown hxd
                replace hC7 := hxd.blk hC7 (fun h => h)
                replace hx := hx.tr hxd
                refine W.draw (Ext) [(0, fun v _ => v = _), (4, fun v _ => v = _), (5, fun v _ => v = _), (6, fun v _ => v = _), (7, fun v _ => v = _)] rfl (by kernel_rfl) (Only.refl No) (fun _ _ _ h k => h.trans k) ⟨Mono.eq, Mono.eq, Mono.eq, Mono.eq, Mono.eq, trivial⟩ ⟨h0, h4, h5, h6, h7, trivial⟩ ?_
                refine WD.p rfl (fun e w hR hh => by obtain ⟨h6, -⟩ := hh; rw [← hwd] at hR; exact SG.n (o_ldA TI26 rfl h6 (show Cells w c6 0 (exV l[i]) from Cells.of (hR.blk hC7 (fun h => h)) 0 _ (by simp)) rfl ⟨rfl, Only.refl No _⟩)) ?_
                refine WD.p rfl (fun e w hR hh => by obtain ⟨h79, -⟩ := hh; exact SG.n (o_call Try.call56 (lc h79 ln) ((rright_spec l[i] _ (hln _ (List.getElem_mem hil)).1).mono (fun v w' h => h)))) ?_
                refine WD.p rfl (fun e w hR hh => by obtain ⟨h80, -⟩ := hh; exact SG.n (o_not' h80 ⟨rfl, Only.refl No _⟩)) ?_
                refine WD.p rfl (fun e w hR hh => by obtain ⟨h81, -⟩ := hh; exact SG.n (o_mvh h81 ⟨rfl, Only.refl No _⟩)) ?_
                refine WD.p rfl (fun e w hR hh => by obtain ⟨h82, h6, -⟩ := hh; rw [← hwd] at hR; exact SG.s h82 (by simp [hrgt]) ⟨rfl, Only.refl No _⟩) ?_
                refine WD.p rfl (fun e w hR hh => by obtain ⟨h82, h4, -⟩ := hh; exact SG.s h82 (by simp [hrgt]) ⟨rfl, Only.refl No _⟩) ?_
                refine WD.p rfl (fun e w hR hh => by obtain ⟨h82, h7, -⟩ := hh; exact SG.s h82 (by simp [hrgt]) ⟨rfl, Only.refl No _⟩) ?_
                refine WD.p rfl (fun e w hR hh => by obtain ⟨h85, h84, h82, -⟩ := hh; exact SG.s h82 (by simp [hrgt]) ⟨rfl, Only.refl No _⟩) ?_
                refine WD.p rfl (fun e w hR hh => by obtain ⟨h86, h82, -⟩ := hh; exact SG.s h82 (by simp [hrgt]) ⟨rfl, Only.refl No _⟩) ?_
                refine WD.p rfl (fun e w hR hh => by obtain ⟨h87, h82, -⟩ := hh; rw [← hwd] at hR; exact SG.s h82 (by simp [hrgt]) ⟨rfl, Only.refl No _⟩) ?_
                refine WD.p rfl (fun e w hR hh => by obtain ⟨h88, h83, h82, -⟩ := hh; exact SG.s h82 (by simp [hrgt]) ⟨rfl, Only.refl No _⟩) ?_
                refine WD.p rfl (fun e w hR hh => by obtain ⟨h89, h82, -⟩ := hh; exact SG.s h82 (by simp [hrgt]) ⟨rfl, Only.refl No _⟩) ?_
                refine WD.p rfl (fun e w hR hh => by obtain ⟨h90, h82, -⟩ := hh; exact SG.n (o_pickT h82 (by simp [hrgt]) ⟨rfl, Only.refl No _⟩)) ?_
                refine WD.p rfl (fun e w hR hh => by obtain ⟨h91, -⟩ := hh; exact SG.n (o_ash h91 ⟨rfl, Only.refl No _⟩)) ?_
                rintro e w hR ⟨h78, h91, h90, h89, h88, h87, h86, h85, h84, h83, h82, h81, h80, h79, h0, h4, h5, h6, h7, -⟩
                rw [← hwd] at hR
                replace hown := own_ext hown hR
                replace hC7 := hR.blk hC7 (fun h => h)
                replace hx := hx.tr hR
                refine W.condT' h78 (rfl) ?_
                refine W.seq ?_
                have hright : rightB l[i] o.kind = false := by rw [rightB_two, hrgt]; rfl
                rw [if_pos hright] at hres2
                refine W.region ?_
                refine WL.c rfl (o_mvh h5 ?_)
                refine WL.c rfl (o_ash (show _ = Value.int _ _ from rfl) ?_)
                refine WL.c rfl (o_ash (show _ = Value.int _ _ from rfl) ?_)
                refine WL.nil ?_
                refine W.ret ?_
                refine ret2v rfl (show _ = Value.int _ _ from rfl) (show _ = Value.int _ _ from rfl) ?_
                rw [hres2]
                exact ⟨rfl, hx⟩
              · skip
                skip
                have hmany : manyB l[i] = false := by simpa using c60
                rw [if_neg (by simp [hmany])] at hres2
                obtain ⟨wd, hwd⟩ : ∃ wd, wd = w.drew := ⟨_, rfl⟩
                have hxd : Ext w wd := hwd ▸ Only.drew w
                replace hown := own_ext hown hxd
                replace hC7 := hxd.blk hC7 (fun h => h)
                replace hx := hx.tr hxd
                refine W.draw (Ext) [(0, fun v _ => v = _), (4, fun v _ => v = _), (5, fun v _ => v = _), (6, fun v _ => v = _), (7, fun v _ => v = _)] rfl (by kernel_rfl) (Only.refl No) (fun _ _ _ h k => h.trans k) ⟨Mono.eq, Mono.eq, Mono.eq, Mono.eq, Mono.eq, trivial⟩ ⟨h0, h4, h5, h6, h7, trivial⟩ ?_
                refine WD.p rfl (fun e w hR hh => by obtain ⟨h6, -⟩ := hh; rw [← hwd] at hR; exact SG.n (o_ldA TI26 rfl h6 (show Cells w c6 0 (exV l[i]) from Cells.of (hR.blk hC7 (fun h => h)) 0 _ (by simp)) rfl ⟨rfl, Only.refl No _⟩)) ?_
                refine WD.p rfl (fun e w hR hh => by obtain ⟨h79, -⟩ := hh; exact SG.n (o_call Try.call56 (lc h79 ln) ((rright_spec l[i] _ (hln _ (List.getElem_mem hil)).1).mono (fun v w' h => h)))) ?_
                refine WD.p rfl (fun e w hR hh => by obtain ⟨h80, -⟩ := hh; exact SG.n (o_not' h80 ⟨rfl, Only.refl No _⟩)) ?_
                refine WD.p rfl (fun e w hR hh => by obtain ⟨h81, -⟩ := hh; exact SG.n (o_mvh h81 ⟨rfl, Only.refl No _⟩)) ?_
                refine WD.p rfl (fun e w hR hh => by obtain ⟨h82, h6, -⟩ := hh; rw [← hwd] at hR; exact SG.g h82 (by simp [hrgt]) (o_ldA TI26 rfl h6 (show Cells w c6 0 (exV l[i]) from Cells.of (hR.blk hC7 (fun h => h)) 0 _ (by simp)) rfl ⟨rfl, Only.refl No _⟩)) ?_
                refine WD.p rfl (fun e w hR hh => by obtain ⟨h82, h4, -⟩ := hh; exact SG.g h82 (by simp [hrgt]) (o_mvh h4 ⟨rfl, Only.refl No _⟩)) ?_
                refine WD.p rfl (fun e w hR hh => by obtain ⟨h82, h7, -⟩ := hh; exact SG.g h82 (by simp [hrgt]) (o_mvh h7 ⟨rfl, Only.refl No _⟩)) ?_
                refine WD.p rfl (fun e w hR hh => by obtain ⟨h85, h84, h82, -⟩ := hh; exact SG.g h82 (by simp [hrgt]) (o_ixB (i := S.length) TI100 TI99 h84 h85 (by omega) ⟨rfl, Only.refl No _⟩)) ?_
                refine WD.p rfl (fun e w hR hh => by obtain ⟨h86, h82, -⟩ := hh; exact SG.g h82 (by simp [hrgt]) (o_fa 0 TI99 rfl TI3 rfl h86 ⟨rfl, Only.refl No _⟩)) ?_
                refine WD.p rfl (fun e w hR hh => by obtain ⟨h87, h82, -⟩ := hh; rw [← hwd] at hR; exact SG.g h82 (by simp [hrgt]) (o_ld TI3 rfl h87 (own_cell (own_ext hown hR) (j := 0 + S.length * 2 + 0) (by rw [Nat.zero_add]; exact opsQ_get _ rfl)) ⟨rfl, Only.refl No _⟩)) ?_
                refine WD.p rfl (fun e w hR hh => by obtain ⟨h88, h83, h82, -⟩ := hh; exact SG.g h82 (by simp [hrgt]) (o_call Try.call57 (lc h83 (lc h88 ln)) ((placed_spec l[i] o.kind _ (hln _ (List.getElem_mem hil)).2).mono (fun v w' h => h)))) ?_
                refine WD.p rfl (fun e w hR hh => by obtain ⟨h89, h82, -⟩ := hh; exact SG.g h82 (by simp [hrgt]) (o_not' h89 ⟨rfl, Only.refl No _⟩)) ?_
                refine WD.p rfl (fun e w hR hh => by obtain ⟨h90, h82, -⟩ := hh; exact SG.n (o_pickO h82 h90 ⟨rfl, Only.refl No _⟩)) ?_
                refine WD.p rfl (fun e w hR hh => by obtain ⟨h91, -⟩ := hh; exact SG.n (o_ash h91 ⟨rfl, Only.refl No _⟩)) ?_
                rintro e w hR ⟨h78, h91, h90, h89, h88, h87, h86, h85, h84, h83, h82, h81, h80, h79, h0, h4, h5, h6, h7, -⟩
                rw [← hwd] at hR
                replace hown := own_ext hown hR
                replace hC7 := hR.blk hC7 (fun h => h)
                replace hx := hx.tr hR
                refine W.cond h78 (fun c78 => ?_) (fun c78 => ?_)
                · try simp only [cs8] at c78
                  have hright : rightB l[i] o.kind = false := by rw [rightB_two, hrgt]; simpa [hrgt] using c78
                  rw [if_pos hright] at hres2
                  refine W.seq ?_
                  refine W.region ?_
                  refine WL.c rfl (o_mvh h5 ?_)
                  refine WL.c rfl (o_ash (show _ = Value.int _ _ from rfl) ?_)
                  refine WL.c rfl (o_ash (show _ = Value.int _ _ from rfl) ?_)
                  refine WL.nil ?_
                  refine W.ret ?_
                  refine ret2v rfl (show _ = Value.int _ _ from rfl) (show _ = Value.int _ _ from rfl) ?_
                  rw [hres2]
                  exact ⟨rfl, hx⟩
                · try simp only [cs8] at c78
                  have hright : rightB l[i] o.kind = true := by rw [rightB_two, hrgt]; simpa [hrgt] using c78
                  rw [if_neg (by simp [hright])] at hres2
                  have hkd := rightB_kids hright hmany
                  refine W.skip ?_
                  refine W.seq ?_
                  refine W.region ?_
                  refine WL.c rfl (o_mvh h4 ?_)
                  refine WL.c rfl (o_mvh h7 ?_)
                  refine WL.c rfl (o_ixB (i := S.length) TI100 TI99 rfl rfl (by omega) ?_)
                  refine WL.c rfl (o_fa 1 TI99 rfl TI3 rfl rfl ?_)
                  refine WL.c rfl (o_ld TI3 rfl rfl (own_cell hown (j := 0 + S.length * 2 + 1) (by rw [Nat.zero_add]; exact opsQ_get _ rfl)) ?_)
                  refine WL.c rfl (o_subi rfl rfl (by omega) ?_)
                  refine WL.c rfl (o_ixB (i := S.length) TI100 TI99 rfl rfl (by omega) ?_)
                  refine WL.c rfl (o_fa 1 TI99 rfl TI3 rfl rfl ?_)
                  refine WL.u (o_stRj (i := S.length * 2 + 1) TI3 rfl (by omega) (show _ = Value.int .i64 (o.left - 1) from rfl) rfl hown rfl (by omega) ?_)
                  intro wA hown' hoA hsA
                  replace hown : wA.ownsRow w0.heap.size 99 2 (Value.slice (some ⟨g, 0, none⟩) (S.length + 1) cap) (S.length + 1) (opsQ ({ o with left := o.left - 1 } :: S)) := by rw [← opsQ_set]; exact hown'
                  clear hown'
                  replace hC7 := hoA.blk hC7 (fun hk => hcg (by simpa [Value.ownBlock] using hk))
                  replace hx := hx.trans' hoA (fun _ h => h) (fun k hk he => by have := ob he; omega)
                  have hok3 : OkS ({ o with left := o.left - 1 } :: S) := ⟨hdp, by show 0 ≤ o.left - 1; omega, by show o.left - 1 ≤ 64; omega, hok2⟩
                  refine WL.nil ?_
                  refine W.seq ?_
                  refine W.region ?_
                  refine WL.c rfl (o_fa 5 TI26 rfl TI3 rfl h6 ?_)
                  refine WL.c rfl (o_ld TI3 rfl rfl (cell_of hC7 rfl) ?_)
                  refine WL.c rfl (o_gt rfl rfl ?_)
                  refine WL.nil ?_
                  refine W.cond rfl (fun c103 => ?_) (fun c103 => ?_)
                  · try simp only [cs8] at c103
                    have hkp : 0 < l[i].kids := by omega
                    refine W.region ?_
                    refine WL.c rfl (o_mvh h4 ?_)
                    refine WL.c rfl (o_fa 0 TI26 rfl TI3 rfl h6 ?_)
                    refine WL.c rfl (o_ld TI3 rfl rfl (cell_of hC7 rfl) ?_)
                    refine WL.c rfl (o_fa 5 TI26 rfl TI3 rfl h6 ?_)
                    refine WL.c rfl (o_ld TI3 rfl rfl (cell_of hC7 rfl) ?_)
                    refine WL.c rfl (o_bldC (cs := [_, _]) TI99 (Sizes.cons TI3 (Sizes.cons TI3 Sizes.nil)) rfl (lcp (show _ = Value.int _ _ from rfl) (lcp (show _ = Value.int _ _ from rfl) lnp)) rfl rfl ?_)
                    refine WL.apO (w0.heap.size) rfl rfl TI100 TI99 rfl rfl hown (by decide) (by decide) rfl (fun a ha => List.all_eq_true.1 (show List.all _ (fun a => a.oneCell') = true from rfl) a ha) rfl (by rw [maxLen_eq]; omega) (by omega) hx.size ?_
                    intro v111 w111 hown111 ho111 hb111 _
                    have hrow : w111.ownsRow w0.heap.size 99 2 v111 (⟨l[i].kind, l[i].kids, o.deep + 1⟩ :: { o with left := o.left - 1 } :: S).length (opsQ (⟨l[i].kind, l[i].kids, o.deep + 1⟩ :: { o with left := o.left - 1 } :: S)) := by rw [opsQ_cons ⟨l[i].kind, l[i].kids, o.deep + 1⟩]; exact hown111
                    replace ho111 : Only (fun k => (Value.slice (some ⟨g, 0, none⟩) (S.length + 1) cap).ownBlock = some k) wA w111 := ho111
                    replace hx := hx.trans' ho111 (fun _ h => h) (fun k hk he => by have := ob he; omega)
                    have hokN : OkS (⟨l[i].kind, l[i].kids, o.deep + 1⟩ :: { o with left := o.left - 1 } :: S) := ⟨by simp only [List.length_cons]; omega, hkd.1, hkd.2, hok3⟩
                    refine WL.c rfl (o_ash (by first | exact (show _ = Value.slice _ _ _ from rfl) | exact rfl) ?_)
                    refine WL.nil ?_
                    refine W.region ?_
                    refine WL.c rfl (o_mvh h5 ?_)
                    refine WL.c rfl (o_addi rfl rfl (by omega) ?_)
                    refine WL.c rfl (o_ash (show _ = Value.int _ _ from rfl) ?_)
                    refine WL.nil ?_
                    refine ⟨⟨i + 1, _, _, by omega, h0, by first | exact h4 | exact rfl, rfl, hrow, hokN, by simp only [List.length_cons]; omega, ?_, hx⟩, ?_⟩
                    · rw [hres, hlc, chkE_o hpz2, if_neg hdeep, if_neg (by simp [hmany]), if_neg (by simp [hright])]
                      all_goals first | rfl | exact chkE_pz hkz
                    · show l.length - ((i : Int) + 1).toNat < _
                      rw [hm5]; simp [intOf]; omega
                  · try simp only [cs8] at c103
                    have hkz : l[i].kids = 0 := by omega
                    have hrow := hown
                    have hokN := hok3
                    refine W.skip ?_
                    refine W.region ?_
                    refine WL.c rfl (o_mvh h5 ?_)
                    refine WL.c rfl (o_addi rfl rfl (by omega) ?_)
                    refine WL.c rfl (o_ash (show _ = Value.int _ _ from rfl) ?_)
                    refine WL.nil ?_
                    refine ⟨⟨i + 1, _, _, by omega, h0, by first | exact h4 | exact rfl, rfl, hrow, hokN, by simp only [List.length_cons]; omega, ?_, hx⟩, ?_⟩
                    · rw [hres, hlc, chkE_o hpz2, if_neg hdeep, if_neg (by simp [hmany]), if_neg (by simp [hright])]
                      all_goals first | rfl | exact chkE_pz hkz
                    · show l.length - ((i : Int) + 1).toNat < _
                      rw [hm5]; simp [intOf]; omega
set_option maxHeartbeats 2000000 in
theorem rcheck_spec (D : List Df) (dv : Value) (V : Nat → Value) (w0 : World) (hD : DefR w0 D dv V) (hlim : DLim D) : Ca Try.prog 26 #[.agg #[dv]] w0 (fun r w' => r = rs3 (chkS D) ∧ Ext w0 w') := by
  refine Ca.of Try.func26 Try.ntmps26 rfl rfl ?_
  refine W.seq ?_
  refine W.region ?_
  refine WL.c rfl (o_boxB rfl ?_)
  intro w1 hC1 hx1 hs1
  have hx := hx1
  replace hC1 : w1.heap[w0.heap.size]? = some (.cells #[dv] 24 (0, 0)) := hC1
  obtain ⟨c1, hc1⟩ : ∃ c, c = w0.heap.size := ⟨_, rfl⟩
  rw [← hc1] at hC1 ⊢
  replace hD := hD.ext hx1
  refine WL.c rfl (o_ash (show _ = Value.int _ _ from rfl) ?_)
  refine WL.c rfl (o_ash (show _ = Value.int _ _ from rfl) ?_)
  refine WL.c rfl (o_ash (show _ = Value.int _ _ from rfl) ?_)
  refine WL.nil ?_
  refine W.seq ?_
  refine W.seq ?_
  refine W.region ?_
  refine WL.c rfl (o_fa 0 TI24 rfl TI22 rfl rfl ?_)
  refine WL.c rfl (o_ld TI22 rfl rfl (cell_of hC1 rfl) ?_)
  refine WL.c rfl (o_lenR TI22 rfl hD.row ?_)
  refine WL.c rfl (o_gt rfl rfl ?_)
  refine WL.nil ?_
  refine W.cond rfl (fun c11 => ?_) (fun c11 => ?_)
  · try simp only [cs8] at c11
    have hn : 256 < D.length := by omega
    refine W.seq ?_
    refine W.region ?_
    refine WL.c rfl (o_ash (show _ = Value.int _ _ from rfl) ?_)
    refine WL.c rfl (o_ash (show _ = Value.int _ _ from rfl) ?_)
    refine WL.c rfl (o_ash (show _ = Value.int _ _ from rfl) ?_)
    refine WL.nil ?_
    refine W.ret ?_
    refine ret3v rfl (show _ = Value.int _ _ from rfl) (show _ = Value.int _ _ from rfl) (show _ = Value.int _ _ from rfl) ?_
    exact ⟨by rw [chkS, if_pos hn]; rfl, hx⟩
  · try simp only [cs8] at c11
    have hn : ¬ 256 < D.length := by omega
    refine W.skip ?_
    refine W.seq ?_
    refine W.seq ?_
    refine W.region ?_
    refine WL.c rfl (o_ash (show _ = Value.int _ _ from rfl) ?_)
    refine WL.nil ?_
    refine W.block ?_
    refine W.loop (fun e w => ∃ i : Nat, i ≤ D.length ∧ e 1 = .pointer (some ⟨c1, 0, none⟩) ∧ e 5 = .int .i64 (i : Int) ∧ w.heap[c1]? = some (.cells #[dv] 24 (0, 0)) ∧ chkS D = chkA i (D.drop i) ∧ DefR w D dv V ∧ Ext w0 w) (fun e w => D.length - (intOf (e 5)).toNat) ?_ ?_
    · exact ⟨0, Nat.zero_le _, rfl, rfl, hC1, by rw [chkS, if_neg hn]; rfl, hD, hx⟩
    rintro e w ⟨i, hi, h1, h5, hC1, hres, hD, hx⟩
    have hm5 := h5
    refine W.seq ?_
    refine W.seq ?_
    refine W.region ?_
    refine WL.c rfl (o_mvh h5 ?_)
    refine WL.c rfl (o_fa 0 TI24 rfl TI22 rfl h1 ?_)
    refine WL.c rfl (o_ld TI22 rfl rfl (cell_of hC1 rfl) ?_)
    refine WL.c rfl (o_lenR TI22 rfl hD.row ?_)
    refine WL.c rfl (o_lt rfl rfl ?_)
    refine WL.nil ?_
    refine W.cond rfl (fun c16 => ?_) (fun c16 => ?_)
    · try simp only [cs8] at c16
      have hil : i < D.length := by omega
      obtain ⟨tb, to_, tc, rfl, htc, hty⟩ := hD.atk hil
      have hdr : D.drop i = D[i] :: D.drop (i + 1) := (List.getElem_cons_drop hil).symm
      have hli := hlim _ (List.getElem_mem hil)
      refine W.skip ?_
      refine W.seq ?_
      refine W.block ?_
      refine W.seq ?_
      refine W.seq ?_
      refine W.region ?_
      refine WL.c rfl (o_fa 0 TI24 rfl TI22 rfl h1 ?_)
      refine WL.c rfl (o_ld TI22 rfl rfl (cell_of hC1 rfl) ?_)
      refine WL.c rfl (o_mvh h5 ?_)
      refine WL.c rfl (o_ixB TI22 TI39 rfl rfl (by omega) ?_)
      refine WL.c rfl (o_fa 0 TI39 rfl TI9 rfl rfl ?_)
      refine WL.c rfl (o_ld TI9 rfl rfl (htc 0 _ rfl) ?_)
      refine WL.c rfl (o_call Try.call42 (lc rfl ln) ((rname_spec D[i].name _ hli.1).mono ?_))
      rintro v25 w25 ⟨rfl, rfl⟩
      refine WL.c rfl (o_not' rfl ?_)
      refine WL.nil ?_
      refine W.cond rfl (fun c26 => ?_) (fun c26 => ?_)
      · try simp only [cs8] at c26
        have hnm : nameB D[i].name = false := by simpa using c26
        refine W.seq ?_
        refine W.region ?_
        refine WL.c rfl (o_mvh h5 ?_)
        refine WL.c rfl (o_ash (show _ = Value.int _ _ from rfl) ?_)
        refine WL.c rfl (o_ash (show _ = Value.int _ _ from rfl) ?_)
        refine WL.c rfl (o_ash (show _ = Value.int _ _ from rfl) ?_)
        refine WL.nil ?_
        refine W.ret ?_
        refine ret3v rfl (show _ = Value.int _ _ from rfl) (show _ = Value.int _ _ from rfl) (show _ = Value.int _ _ from rfl) ?_
        rw [hres, hdr, chkA_cons, if_pos hnm]
        exact ⟨rfl, hx⟩
      · try simp only [cs8] at c26
        have hnm : nameB D[i].name = true := by simpa using c26
        refine W.skip ?_
        refine W.seq ?_
        refine W.region ?_
        refine WL.c rfl (o_fa 0 TI24 rfl TI22 rfl h1 ?_)
        refine WL.c rfl (o_ld TI22 rfl rfl (cell_of hC1 rfl) ?_)
        refine WL.c rfl (o_mvh h5 ?_)
        refine WL.c rfl (o_ixB TI22 TI39 rfl rfl (by omega) ?_)
        refine WL.c rfl (o_fa 2 TI39 rfl TI37 rfl rfl ?_)
        refine WL.c rfl (o_ld TI37 rfl rfl (htc 2 _ rfl) ?_)
        refine WL.c rfl (o_call Try.call43 (lc rfl ln) ((nodes_spec D[i].ty (V i) _ hty hli.2.1 hli.2.2).mono ?_))
        rintro v35 w35 ⟨rfl, hx35⟩
        replace hx := hx.tr hx35
        replace hD := hD.ext hx35
        replace hC1 := hx35.blk hC1 (fun h => h)
        refine WL.c rfl (o_mvh (by first | exact (show _ = Value.tuple _ from rfl) | exact rfl) ?_)
        refine WL.c rfl (o_ext rfl rfl ?_)
        refine WL.c rfl (o_ext rfl rfl ?_)
        refine WL.c rfl (o_ash (show _ = Value.int _ _ from rfl) ?_)
        refine WL.c rfl (o_ash (show _ = Value.int _ _ from rfl) ?_)
        refine WL.nil ?_
        refine W.seq ?_
        refine W.region ?_
        refine WL.c rfl (o_mvh (show _ = Value.int _ _ from rfl) ?_)
        refine WL.c rfl (o_ne rfl rfl ?_)
        refine WL.nil ?_
        refine W.cond rfl (fun c39 => ?_) (fun c39 => ?_)
        · try simp only [cs8] at c39
          have hce : ¬ (chkT D[i].ty).2 = 0 := by omega
          refine W.seq ?_
          refine W.region ?_
          refine WL.c rfl (o_mvh h5 ?_)
          refine WL.c rfl (o_mvh (show _ = Value.int _ _ from rfl) ?_)
          refine WL.c rfl (o_mvh (show _ = Value.int _ _ from rfl) ?_)
          refine WL.c rfl (o_ash (show _ = Value.int _ _ from rfl) ?_)
          refine WL.c rfl (o_ash (show _ = Value.int _ _ from rfl) ?_)
          refine WL.c rfl (o_ash (show _ = Value.int _ _ from rfl) ?_)
          refine WL.nil ?_
          refine W.ret ?_
          refine ret3v rfl (show _ = Value.int _ _ from rfl) (show _ = Value.int _ _ from rfl) (show _ = Value.int _ _ from rfl) ?_
          rw [hres, hdr, chkA_cons, if_neg (by simp [hnm]), if_neg hce]
          exact ⟨rfl, hx⟩
        · try simp only [cs8] at c39
          have hce : (chkT D[i].ty).2 = 0 := by omega
          refine W.skip ?_
          refine W.region ?_
          refine WL.c rfl (o_mvh h5 ?_)
          refine WL.c rfl (o_addi rfl rfl (by omega) ?_)
          refine WL.c rfl (o_ash (show _ = Value.int _ _ from rfl) ?_)
          refine WL.nil ?_
          refine ⟨⟨i + 1, by omega, h1, rfl, hC1, ?_, hD, hx⟩, ?_⟩
          · rw [hres, hdr, chkA_cons, if_neg (by simp [hnm]), if_pos hce]
          · show D.length - ((i : Int) + 1).toNat < _
            rw [hm5]; simp [intOf]; omega
    · try simp only [cs8] at c16
      have hil : i = D.length := by omega
      rw [hil, List.drop_length, chkA_nil] at hres
      refine W.exit ?_
      refine W.seq ?_
      refine W.region ?_
      refine WL.c rfl (o_ash (show _ = Value.int _ _ from rfl) ?_)
      refine WL.c rfl (o_ash (show _ = Value.int _ _ from rfl) ?_)
      refine WL.c rfl (o_ash (show _ = Value.int _ _ from rfl) ?_)
      refine WL.nil ?_
      refine W.ret ?_
      refine ret3v rfl (show _ = Value.int _ _ from rfl) (show _ = Value.int _ _ from rfl) (show _ = Value.int _ _ from rfl) ?_
      rw [hres]
      exact ⟨rfl, hx⟩
end Go.Proofs.Ytgcehajdldicfaa

set_option linter.unusedSimpArgs false
set_option linter.unusedVariables false
namespace Go.Vc
open Go Go.RowKit Go.ChangeShapes Go.WideShapes

theorem addr_add (a : Addr) (m k : Nat) : (a.add m).add k = a.add (m + k) := by
  unfold Addr.add
  by_cases hm : m = 0 <;> by_cases hk : k = 0 <;> simp [hm, hk, Nat.add_assoc]

theorem list_of {α : Type} (p : Nat → α → Prop) : ∀ n, (∀ i, i < n → ∃ o, p i o) → ∃ os : List α, os.length = n ∧ ∀ i (h : i < os.length), p i os[i]
  | 0, _ => ⟨[], rfl, fun i h => by simp at h⟩
  | n + 1, h => by
    obtain ⟨os, h1, h2⟩ := list_of p n (fun i hi => h i (by omega))
    obtain ⟨o, ho⟩ := h n (by omega)
    refine ⟨os ++ [o], by simp [h1], fun i hi => ?_⟩
    by_cases e : i < os.length
    · rw [List.getElem_append_left e]; exact h2 i e
    · simp at hi
      have e2 : i = n := by omega
      subst e2
      rw [List.getElem_append_right (by omega)]
      simpa [h1] using ho
theorem flatMap_get {α : Type} {cells : α → List Value} {s : Nat} (hlen : ∀ o, (cells o).length = s) : ∀ (os : List α) (idx : Nat) (v : Value), (os.flatMap cells)[idx]? = some v → ∃ i j, ∃ h : i < os.length, idx = i * s + j ∧ (cells os[i])[j]? = some v
  | [], idx, v, h => by simp at h
  | o :: os, idx, v, h => by
    rw [List.flatMap_cons] at h
    by_cases e : idx < s
    · rw [List.getElem?_append_left (by rw [hlen]; exact e)] at h
      exact ⟨0, idx, by simp, by omega, h⟩
    · rw [List.getElem?_append_right (by rw [hlen]; omega), hlen] at h
      obtain ⟨i, j, hi, h1, h2⟩ := flatMap_get hlen os (idx - s) v h
      refine ⟨i + 1, j, by simp; omega, ?_, by simpa using h2⟩
      rw [Nat.add_mul]; omega
theorem weightsAll_mem {H : Type} {P : Program} {e : TypeId} : ∀ {l : List (DataW H)} {d : DataW H} {n : Nat}, d ∈ l → n ∈ d.weights P e → n ∈ DataW.weightsAll P e l
  | d0 :: l, d, n, hd, hn => by
    simp only [DataW.weightsAll, List.mem_append]
    rcases List.mem_cons.1 hd with rfl | hd
    · exact .inl hn
    · exact .inr (weightsAll_mem hd hn)
/-- its weights are within reach -/
def Small {H : Type} (P : Program) (t : TypeId) (d : DataW H) : Prop := ∀ n ∈ d.weights P t, n ≤ reachBytes
theorem Small.top {H : Type} {P : Program} {ts : List TypeId} {ds : List (DataW H)} {j : Nat} {t : TypeId} {d : DataW H} (h : (DataW.weightsEach P ts ds).all (· ≤ reachBytes) = true) (ht : ts[j]? = some t) (hd : ds[j]? = some d) : Small P t d := fun n hn => by
  have := List.all_eq_true.1 h _ (DataW.weights_mem_each ht hd n hn)
  simpa using this
theorem Small.elem {H : Type} {P : Program} {t e : TypeId} {elems spare : List (DataW H)} {d : DataW H} (h : Small P t (.slice elems spare)) (hu : P.underlying t = some (.slice e)) (hd : d ∈ elems) : Small P e d := fun n hn =>
  h n (by simp only [DataW.weights, hu]; exact List.mem_cons_of_mem _ (List.mem_append_left _ (weightsAll_mem hd hn)))
theorem Small.size {H : Type} {P : Program} {t e : TypeId} {elems spare : List (DataW H)} (h : Small P t (.slice elems spare)) (hu : P.underlying t = some (.slice e)) : (elems.length + spare.length) * P.bytesOf e ≤ reachBytes :=
  h _ (by simp only [DataW.weights, hu]; exact List.mem_cons_self ..)
theorem Small.part {H : Type} {P : Program} {t u : TypeId} {fs : Array Field} {parts : List (DataW H)} {i : Nat} {d : DataW H} (h : Small P t (.agg parts)) (hu : P.underlying t = some (.struct fs)) (hf : (fs.toList.map (·.type))[i]? = some u) (hd : parts[i]? = some d) : Small P u d := fun n hn =>
  h n (by simp only [DataW.weights, hu]; exact DataW.weights_mem_each hf hd n hn)
section
variable {H : Type} {enc : TypeId × Value → H} {P : Program} {W : World} {held : Bool}
/-- a slice of what is opened by 'hc' -/
theorem open_rows {α : Type} {t e : TypeId} (s : Nat) (cells : α → List Value) (p : α → Prop) (hu : P.underlying t = some (.slice e)) (hs : P.cellsOf e = s) (hs0 : 0 < s) (hlen : ∀ o, (cells o).length = s)
    (hc : ∀ (n : Nat) (cs : List Value) (y : DataW H × List MemPlace), DataW.trod enc P W 0 (fun _ => true) held n e cs = some y → Small P e y.1 → ∃ o, cs = cells o ∧ p o)
    {fuel : Nat} {v : Value} {x : DataW H × List MemPlace} (h : DataW.trod enc P W 0 (fun _ => true) held fuel t [v] = some x) (hz : Small P t x.1) :
    ∃ os : List α, os.length ≤ maxLen ∧ Sl W s v os.length (os.flatMap cells) ∧ ∀ o ∈ os, p o := by
  rcases DataW.trod_slice hu h with ⟨hcs, hd⟩ | ⟨a, len, cap, elems, rest, n, -, hcs, hx, -, hl, hm, hle, hel, -, -⟩
  · simp only [List.cons.injEq, and_true] at hcs
    subst hcs
    exact ⟨[], Nat.zero_le _, Sl.nil W s, fun o h => by cases h⟩
  · simp only [List.cons.injEq, and_true] at hcs
    subst hcs
    subst hx
    have key : ∀ i, i < len → ∃ o : α, (∀ j v, (cells o)[j]? = some v → W.cell? (a.add (i * s + j)) = some v) ∧ p o := by
      intro i hi
      have he := hel i hi
      rw [List.getElem?_eq_getElem (by omega), hs, Option.bind_eq_some_iff] at he
      obtain ⟨cs, h1, h2⟩ := he
      obtain ⟨-, h4, h5⟩ := World.cells?_some h1
      obtain ⟨o, ho, hp⟩ := hc n cs _ h2 (hz.elem hu (List.mem_map.2 ⟨_, List.getElem_mem (by omega), rfl⟩))
      subst ho
      refine ⟨o, fun j v hj => ?_, hp⟩
      have hjs : j < s := by have := (List.getElem?_eq_some_iff.1 hj).1; rw [hlen] at this; exact this
      have := h5 j hjs
      rw [← hj, ← this, addr_add]
    obtain ⟨os, ho1, ho2⟩ := list_of _ len key
    refine ⟨os, by omega, ⟨?_, ?_⟩, fun o ho => ?_⟩
    · clear ho2 ho1
      induction os with
      | nil => simp
      | cons o os ih => rw [List.flatMap_cons, List.length_append, hlen, ih, List.length_cons, Nat.add_mul]; omega
    · by_cases h0 : len = 0
      · subst h0; exact .inl ⟨ho1, _, _, rfl⟩
      · obtain ⟨b, off, spot⟩ := a
        have h00 := (ho2 0 (by omega)).1 0 ((cells (os[0]'(by omega)))[0]'(by rw [hlen]; exact hs0)) (List.getElem?_eq_getElem _)
        have hsp : spot = none := by simpa [Addr.add] using World.cell?_spot h00
        subst hsp
        refine .inr ⟨b, off, cap, by rw [ho1], by omega, fun idx u hu => ?_⟩
        obtain ⟨i, j, hi, h1, h2⟩ := flatMap_get hlen os idx u hu
        have h3 := (ho2 i hi).1 j u h2
        rw [h1, ← h3, add_none]
    · obtain ⟨i, hi, rfl⟩ := List.getElem_of_mem ho
      exact (ho2 i hi).2
/-- a struct's field -/
theorem open_field {t u : TypeId} {fs : Array Field} {f : Field} (i off s : Nat) (hu : P.underlying t = some (.struct fs)) (hf : fs[i]? = some f) (ht : f.type = u) (ho : f.offset = off) (hs : P.cellsOf u = s) {fuel : Nat} {cs : List Value} {x : DataW H × List MemPlace}
    (h : DataW.trod enc P W 0 (fun _ => true) held fuel t cs = some x) (hz : Small P t x.1) : ∃ n y, DataW.trod enc P W 0 (fun _ => true) held n u ((cs.drop off).take s) = some y ∧ Small P u y.1 := by
  subst ht ho hs
  obtain ⟨xs, n, -, hx, -, hl, hall⟩ := DataW.trod_struct hu h
  have hi : i < fs.size := (Array.getElem?_eq_some_iff.1 hf).1
  have h1 := hall i f hf
  rw [List.getElem?_eq_getElem (by omega)] at h1
  refine ⟨n, _, h1, ?_⟩
  subst hx
  refine hz.part hu (i := i) ?_ ?_
  · rw [List.getElem?_map, Array.getElem?_toList, hf]; rfl
  · rw [List.getElem?_map, List.getElem?_eq_getElem (by omega)]; rfl
theorem open_struct_len {t : TypeId} {fs : Array Field} {s : Nat} (hu : P.underlying t = some (.struct fs)) (hs : P.cellsOf t = s) {fuel : Nat} {cs : List Value} {x : DataW H × List MemPlace} (h : DataW.trod enc P W 0 (fun _ => true) held fuel t cs = some x) : cs.length = s := by
  obtain ⟨xs, n, -, -, h1, -⟩ := DataW.trod_struct hu h
  rw [h1, hs]
end
end Go.Vc
