/-
  Walks. Written by program out of specs of mine.
-/
import Derived.Test.YtcljkkfpcomdcaaO
set_option linter.unusedSimpArgs false
set_option linter.unusedVariables false
set_option maxRecDepth 100000
namespace Go.Proofs.Ytcljkkfpcomdcaa
open Go Go.Vc Go.RowKit Go.Proofs

def rgtB (x : Ex) : Bool := okB x && namB x
def plcB (x : Ex) (above : Int) : Bool := labB x above && tagB x above
theorem rightB_two (x : Ex) (above : Int) : rightB x above = (rgtB x && plcB x above) := by simp only [rightB, rgtB, plcB, Bool.and_assoc]
theorem chkE_pz {z : Opn} {S : List Opn} {i : Nat} {l : List Ex} (h : z.left = 0) : chkE (z :: S) i l = chkE S i l := by
  cases l with
  | nil => rw [chkE_nil, chkE_nil, leftB, List.any_cons, h]; rfl
  | cons x xs => rw [chkE_cons, chkE_cons, popZ_z h]

set_option maxHeartbeats 2000000 in
theorem rright_spec (x : Ex) (w0 : World) (hn : x.name.length ≤ 9223372036854775807) : Ca Try.prog 52 #[.agg (exV x).toArray] w0 (fun v w' => v = .bool (rgtB x) ∧ Ext w0 w') := by
  refine Ca.of Try.func52 Try.ntmps52 rfl rfl ?_
  refine W.seq ?_
  refine W.region ?_
  refine WL.c rfl (o_boxB rfl ?_)
  intro w1 hC1 hx hs1
  obtain ⟨c1, hc1⟩ : ∃ c, c = w0.heap.size := ⟨_, rfl⟩
  rw [← hc1] at hC1 ⊢
  replace hC1 : w1.heap[c1]? = some (.cells (exV x).toArray 30 (0, 0)) := hC1
  refine WL.c rfl (o_ash (show _ = Value.bool _ from rfl) ?_)
  refine WL.nil ?_
  refine W.seq ?_
  refine W.region ?_
  refine WL.c rfl (o_fa 2 TI30 rfl TI9 rfl rfl ?_)
  refine WL.c rfl (o_ld TI9 rfl rfl (cell_of hC1 rfl) ?_)
  refine WL.c rfl (o_eqT rfl rfl ?_)
  refine WL.c rfl (o_ash (show _ = Value.bool _ from rfl) ?_)
  refine WL.nil ?_
  refine W.seq ?_
  refine W.seq ?_
  refine W.region ?_
  refine WL.c rfl (o_fa 0 TI30 rfl TI3 rfl rfl ?_)
  refine WL.c rfl (o_ld TI3 rfl rfl (cell_of hC1 rfl) ?_)
  refine WL.nil ?_
  refine W.block ?_
  refine W.seq ?_
  refine W.region ?_
  refine WL.c rfl (o_eq rfl rfl ?_)
  refine WL.c rfl (o_ash (show _ = Value.bool _ from rfl) ?_)
  refine WL.nil ?_
  refine W.cond rfl (fun c9 => ?_) (fun c9 => ?_)
  · try simp only [decide_eq_true_eq, decide_eq_false_iff_not, Bool.not_eq_true', Bool.not_eq_false', Bool.and_eq_true, Bool.or_eq_true, Bool.and_eq_false_iff, Bool.or_eq_false_iff] at c9
    refine W.seq ?_
    refine W.region ?_
    refine WL.c rfl (o_mvh (show _ = Value.bool _ from rfl) ?_)
    refine WL.c rfl (o_mvh (show _ = Value.bool _ from rfl) ?_)
    refine WL.sp 1 rfl (fun g12 => ?_) (fun g12 => ?_)
    · skip
      refine WL.g rfl (g12) rfl (o_fa 5 TI30 rfl TI3 rfl rfl ?_)
      refine WL.g rfl (g12) rfl (o_ld TI3 rfl rfl (cell_of hC1 rfl) ?_)
      refine WL.g rfl (g12) rfl (o_eq rfl rfl ?_)
      refine WL.c rfl (o_pickA rfl rfl ?_)
      refine WL.c rfl (o_mvh (show _ = Value.bool _ from rfl) ?_)
      refine WL.sp 6 rfl (fun g17 => ?_) (fun g17 => ?_)
      · skip
        refine WL.g rfl (g17) rfl (o_fa 1 TI30 rfl TI3 rfl rfl ?_)
        refine WL.g rfl (g17) rfl (o_ld TI3 rfl rfl (cell_of hC1 rfl) ?_)
        refine WL.g rfl (g17) rfl (o_eq rfl rfl ?_)
        refine WL.g rfl (g17) rfl (o_mvh (show _ = Value.bool _ from rfl) ?_)
        refine WL.sp 10 rfl (fun g21 => ?_) (fun g21 => ?_)
        · skip
          refine WL.s rfl (g21) rfl ?_
          refine WL.s rfl (g21) rfl ?_
          refine WL.s rfl (g21) rfl ?_
          refine WL.g rfl (g17) rfl (o_pickT rfl (g21) ?_)
          refine WL.g rfl (g17) rfl (o_mvh (show _ = Value.bool _ from rfl) ?_)
          refine WL.s rfl (rfl) rfl ?_
          refine WL.s rfl (rfl) rfl ?_
          refine WL.s rfl (rfl) rfl ?_
          refine WL.g rfl (g17) rfl (o_pickT rfl (rfl) ?_)
          refine WL.g rfl (g17) rfl (o_mvh (show _ = Value.bool _ from rfl) ?_)
          refine WL.s rfl (rfl) rfl ?_
          refine WL.s rfl (rfl) rfl ?_
          refine WL.s rfl (rfl) rfl ?_
          refine WL.g rfl (g17) rfl (o_pickT rfl (rfl) ?_)
          refine WL.c rfl (o_pickA rfl rfl ?_)
          refine WL.c rfl (o_ash (show _ = Value.bool _ from rfl) ?_)
          refine WL.nil ?_
          refine W.ret ?_
          refine ret1v rfl (show _ = Value.bool _ from rfl) ?_
          exact ⟨congrArg Value.bool (by rw [Bool.eq_iff_iff]; simp_all [rgtB, okB, namB, nameB_nil] <;> omega), hx⟩
        · skip
          refine WL.g rfl (g21) rfl (o_fa 1 TI30 rfl TI3 rfl rfl ?_)
          refine WL.g rfl (g21) rfl (o_ld TI3 rfl rfl (cell_of hC1 rfl) ?_)
          refine WL.g rfl (g21) rfl (o_eq rfl rfl ?_)
          refine WL.g rfl (g17) rfl (o_pickO rfl rfl ?_)
          refine WL.g rfl (g17) rfl (o_mvh (show _ = Value.bool _ from rfl) ?_)
          refine WL.sp 15 rfl (fun g26 => ?_) (fun g26 => ?_)
          · skip
            refine WL.s rfl (g26) rfl ?_
            refine WL.s rfl (g26) rfl ?_
            refine WL.s rfl (g26) rfl ?_
            refine WL.g rfl (g17) rfl (o_pickT rfl (g26) ?_)
            refine WL.g rfl (g17) rfl (o_mvh (show _ = Value.bool _ from rfl) ?_)
            refine WL.s rfl (rfl) rfl ?_
            refine WL.s rfl (rfl) rfl ?_
            refine WL.s rfl (rfl) rfl ?_
            refine WL.g rfl (g17) rfl (o_pickT rfl (rfl) ?_)
            refine WL.c rfl (o_pickA rfl rfl ?_)
            refine WL.c rfl (o_ash (show _ = Value.bool _ from rfl) ?_)
            refine WL.nil ?_
            refine W.ret ?_
            refine ret1v rfl (show _ = Value.bool _ from rfl) ?_
            exact ⟨congrArg Value.bool (by rw [Bool.eq_iff_iff]; simp_all [rgtB, okB, namB, nameB_nil] <;> omega), hx⟩
          · skip
            refine WL.g rfl (g26) rfl (o_fa 1 TI30 rfl TI3 rfl rfl ?_)
            refine WL.g rfl (g26) rfl (o_ld TI3 rfl rfl (cell_of hC1 rfl) ?_)
            refine WL.g rfl (g26) rfl (o_eq rfl rfl ?_)
            refine WL.g rfl (g17) rfl (o_pickO rfl rfl ?_)
            refine WL.g rfl (g17) rfl (o_mvh (show _ = Value.bool _ from rfl) ?_)
            refine WL.sp 20 rfl (fun g31 => ?_) (fun g31 => ?_)
            · skip
              refine WL.s rfl (g31) rfl ?_
              refine WL.s rfl (g31) rfl ?_
              refine WL.s rfl (g31) rfl ?_
              refine WL.g rfl (g17) rfl (o_pickT rfl (g31) ?_)
              refine WL.c rfl (o_pickA rfl rfl ?_)
              refine WL.c rfl (o_ash (show _ = Value.bool _ from rfl) ?_)
              refine WL.nil ?_
              refine W.ret ?_
              refine ret1v rfl (show _ = Value.bool _ from rfl) ?_
              exact ⟨congrArg Value.bool (by rw [Bool.eq_iff_iff]; simp_all [rgtB, okB, namB, nameB_nil] <;> omega), hx⟩
            · skip
              refine WL.g rfl (g31) rfl (o_fa 1 TI30 rfl TI3 rfl rfl ?_)
              refine WL.g rfl (g31) rfl (o_ld TI3 rfl rfl (cell_of hC1 rfl) ?_)
              refine WL.g rfl (g31) rfl (o_eq rfl rfl ?_)
              refine WL.g rfl (g17) rfl (o_pickO rfl rfl ?_)
              refine WL.c rfl (o_pickA rfl rfl ?_)
              refine WL.c rfl (o_ash (show _ = Value.bool _ from rfl) ?_)
              refine WL.nil ?_
              refine W.ret ?_
              refine ret1v rfl (show _ = Value.bool _ from rfl) ?_
              exact ⟨congrArg Value.bool (by rw [Bool.eq_iff_iff]; simp_all [rgtB, okB, namB, nameB_nil] <;> omega), hx⟩
      · skip
        refine WL.s rfl (g17) rfl ?_
        refine WL.s rfl (g17) rfl ?_
        refine WL.s rfl (g17) rfl ?_
        refine WL.s rfl (g17) rfl ?_
        refine WL.z rfl rfl ?_
        refine WL.z rfl rfl ?_
        refine WL.z rfl rfl ?_
        refine WL.s rfl (g17) rfl ?_
        refine WL.s rfl (g17) rfl ?_
        refine WL.z rfl rfl ?_
        refine WL.z rfl rfl ?_
        refine WL.z rfl rfl ?_
        refine WL.s rfl (g17) rfl ?_
        refine WL.s rfl (g17) rfl ?_
        refine WL.z rfl rfl ?_
        refine WL.z rfl rfl ?_
        refine WL.z rfl rfl ?_
        refine WL.s rfl (g17) rfl ?_
        refine WL.c rfl (o_pickF rfl (g17) ?_)
        refine WL.c rfl (o_ash (show _ = Value.bool _ from rfl) ?_)
        refine WL.nil ?_
        refine W.ret ?_
        refine ret1v rfl (show _ = Value.bool _ from rfl) ?_
        exact ⟨congrArg Value.bool (by rw [Bool.eq_iff_iff]; simp_all [rgtB, okB, namB, nameB_nil] <;> omega), hx⟩
    · skip
      refine WL.s rfl (g12) rfl ?_
      refine WL.s rfl (g12) rfl ?_
      refine WL.s rfl (g12) rfl ?_
      refine WL.c rfl (o_pickF rfl (g12) ?_)
      refine WL.c rfl (o_mvh (show _ = Value.bool _ from rfl) ?_)
      refine WL.s rfl (rfl) rfl ?_
      refine WL.s rfl (rfl) rfl ?_
      refine WL.s rfl (rfl) rfl ?_
      refine WL.s rfl (rfl) rfl ?_
      refine WL.z rfl rfl ?_
      refine WL.z rfl rfl ?_
      refine WL.z rfl rfl ?_
      refine WL.s rfl (rfl) rfl ?_
      refine WL.s rfl (rfl) rfl ?_
      refine WL.z rfl rfl ?_
      refine WL.z rfl rfl ?_
      refine WL.z rfl rfl ?_
      refine WL.s rfl (rfl) rfl ?_
      refine WL.s rfl (rfl) rfl ?_
      refine WL.z rfl rfl ?_
      refine WL.z rfl rfl ?_
      refine WL.z rfl rfl ?_
      refine WL.s rfl (rfl) rfl ?_
      refine WL.c rfl (o_pickF rfl (rfl) ?_)
      refine WL.c rfl (o_ash (show _ = Value.bool _ from rfl) ?_)
      refine WL.nil ?_
      refine W.ret ?_
      refine ret1v rfl (show _ = Value.bool _ from rfl) ?_
      exact ⟨congrArg Value.bool (by rw [Bool.eq_iff_iff]; simp_all [rgtB, okB, namB, nameB_nil] <;> omega), hx⟩
  · try simp only [decide_eq_true_eq, decide_eq_false_iff_not, Bool.not_eq_true', Bool.not_eq_false', Bool.and_eq_true, Bool.or_eq_true, Bool.and_eq_false_iff, Bool.or_eq_false_iff] at c9
    refine W.seq ?_
    refine W.seq ?_
    refine W.region ?_
    refine WL.c rfl (o_eq rfl rfl ?_)
    refine WL.c rfl (o_ash (show _ = Value.bool _ from rfl) ?_)
    refine WL.nil ?_
    refine W.cond rfl (fun c37 => ?_) (fun c37 => ?_)
    · try simp only [decide_eq_true_eq, decide_eq_false_iff_not, Bool.not_eq_true', Bool.not_eq_false', Bool.and_eq_true, Bool.or_eq_true, Bool.and_eq_false_iff, Bool.or_eq_false_iff] at c37
      refine W.skip ?_
      refine W.cond rfl (fun c37 => ?_) (fun c37 => ?_)
      · try simp only [decide_eq_true_eq, decide_eq_false_iff_not, Bool.not_eq_true', Bool.not_eq_false', Bool.and_eq_true, Bool.or_eq_true, Bool.and_eq_false_iff, Bool.or_eq_false_iff] at c37
        refine W.seq ?_
        refine W.region ?_
        refine WL.c rfl (o_mvh (show _ = Value.bool _ from rfl) ?_)
        refine WL.c rfl (o_mvh (show _ = Value.bool _ from rfl) ?_)
        refine WL.sp 1 rfl (fun g41 => ?_) (fun g41 => ?_)
        · skip
          refine WL.g rfl (g41) rfl (o_fa 5 TI30 rfl TI3 rfl rfl ?_)
          refine WL.g rfl (g41) rfl (o_ld TI3 rfl rfl (cell_of hC1 rfl) ?_)
          refine WL.g rfl (g41) rfl (o_eq rfl rfl ?_)
          refine WL.c rfl (o_pickA rfl rfl ?_)
          refine WL.c rfl (o_mvh (show _ = Value.bool _ from rfl) ?_)
          refine WL.sp 6 rfl (fun g46 => ?_) (fun g46 => ?_)
          · skip
            refine WL.g rfl (g46) rfl (o_fa 1 TI30 rfl TI3 rfl rfl ?_)
            refine WL.g rfl (g46) rfl (o_ld TI3 rfl rfl (cell_of hC1 rfl) ?_)
            refine WL.g rfl (g46) rfl (o_eq rfl rfl ?_)
            refine WL.c rfl (o_pickA rfl rfl ?_)
            refine WL.c rfl (o_ash (show _ = Value.bool _ from rfl) ?_)
            refine WL.nil ?_
            refine W.ret ?_
            refine ret1v rfl (show _ = Value.bool _ from rfl) ?_
            exact ⟨congrArg Value.bool (by rw [Bool.eq_iff_iff]; simp_all [rgtB, okB, namB, nameB_nil] <;> omega), hx⟩
          · skip
            refine WL.s rfl (g46) rfl ?_
            refine WL.s rfl (g46) rfl ?_
            refine WL.s rfl (g46) rfl ?_
            refine WL.c rfl (o_pickF rfl (g46) ?_)
            refine WL.c rfl (o_ash (show _ = Value.bool _ from rfl) ?_)
            refine WL.nil ?_
            refine W.ret ?_
            refine ret1v rfl (show _ = Value.bool _ from rfl) ?_
            exact ⟨congrArg Value.bool (by rw [Bool.eq_iff_iff]; simp_all [rgtB, okB, namB, nameB_nil] <;> omega), hx⟩
        · skip
          refine WL.s rfl (g41) rfl ?_
          refine WL.s rfl (g41) rfl ?_
          refine WL.s rfl (g41) rfl ?_
          refine WL.c rfl (o_pickF rfl (g41) ?_)
          refine WL.c rfl (o_mvh (show _ = Value.bool _ from rfl) ?_)
          refine WL.s rfl (rfl) rfl ?_
          refine WL.s rfl (rfl) rfl ?_
          refine WL.s rfl (rfl) rfl ?_
          refine WL.c rfl (o_pickF rfl (rfl) ?_)
          refine WL.c rfl (o_ash (show _ = Value.bool _ from rfl) ?_)
          refine WL.nil ?_
          refine W.ret ?_
          refine ret1v rfl (show _ = Value.bool _ from rfl) ?_
          exact ⟨congrArg Value.bool (by rw [Bool.eq_iff_iff]; simp_all [rgtB, okB, namB, nameB_nil] <;> omega), hx⟩
      · try simp only [decide_eq_true_eq, decide_eq_false_iff_not, Bool.not_eq_true', Bool.not_eq_false', Bool.and_eq_true, Bool.or_eq_true, Bool.and_eq_false_iff, Bool.or_eq_false_iff] at c37
        refine W.seq ?_
        refine W.seq ?_
        refine W.region ?_
        refine WL.c rfl (o_eq rfl rfl ?_)
        refine WL.c rfl (o_ash (show _ = Value.bool _ from rfl) ?_)
        refine WL.nil ?_
        refine W.cond rfl (fun c51 => ?_) (fun c51 => ?_)
        · try simp only [decide_eq_true_eq, decide_eq_false_iff_not, Bool.not_eq_true', Bool.not_eq_false', Bool.and_eq_true, Bool.or_eq_true, Bool.and_eq_false_iff, Bool.or_eq_false_iff] at c51
          refine W.skip ?_
          refine W.cond rfl (fun c51 => ?_) (fun c51 => ?_)
          · try simp only [decide_eq_true_eq, decide_eq_false_iff_not, Bool.not_eq_true', Bool.not_eq_false', Bool.and_eq_true, Bool.or_eq_true, Bool.and_eq_false_iff, Bool.or_eq_false_iff] at c51
            refine W.seq ?_
            refine W.region ?_
            refine WL.c rfl (o_mvh (show _ = Value.bool _ from rfl) ?_)
            refine WL.c rfl (o_mvh (show _ = Value.bool _ from rfl) ?_)
            refine WL.sp 1 rfl (fun g55 => ?_) (fun g55 => ?_)
            · skip
              refine WL.g rfl (g55) rfl (o_fa 5 TI30 rfl TI3 rfl rfl ?_)
              refine WL.g rfl (g55) rfl (o_ld TI3 rfl rfl (cell_of hC1 rfl) ?_)
              refine WL.g rfl (g55) rfl (o_eq rfl rfl ?_)
              refine WL.c rfl (o_pickA rfl rfl ?_)
              refine WL.c rfl (o_mvh (show _ = Value.bool _ from rfl) ?_)
              refine WL.sp 6 rfl (fun g60 => ?_) (fun g60 => ?_)
              · skip
                refine WL.g rfl (g60) rfl (o_fa 1 TI30 rfl TI3 rfl rfl ?_)
                refine WL.g rfl (g60) rfl (o_ld TI3 rfl rfl (cell_of hC1 rfl) ?_)
                refine WL.g rfl (g60) rfl (o_ge rfl rfl ?_)
                refine WL.c rfl (o_pickA rfl rfl ?_)
                refine WL.c rfl (o_mvh (show _ = Value.bool _ from rfl) ?_)
                refine WL.sp 11 rfl (fun g65 => ?_) (fun g65 => ?_)
                · skip
                  refine WL.g rfl (g65) rfl (o_fa 1 TI30 rfl TI3 rfl rfl ?_)
                  refine WL.g rfl (g65) rfl (o_ld TI3 rfl rfl (cell_of hC1 rfl) ?_)
                  refine WL.g rfl (g65) rfl (o_le rfl rfl ?_)
                  refine WL.c rfl (o_pickA rfl rfl ?_)
                  refine WL.c rfl (o_ash (show _ = Value.bool _ from rfl) ?_)
                  refine WL.nil ?_
                  refine W.ret ?_
                  refine ret1v rfl (show _ = Value.bool _ from rfl) ?_
                  exact ⟨congrArg Value.bool (by rw [Bool.eq_iff_iff]; simp_all [rgtB, okB, namB, nameB_nil] <;> omega), hx⟩
                · skip
                  refine WL.s rfl (g65) rfl ?_
                  refine WL.s rfl (g65) rfl ?_
                  refine WL.s rfl (g65) rfl ?_
                  refine WL.c rfl (o_pickF rfl (g65) ?_)
                  refine WL.c rfl (o_ash (show _ = Value.bool _ from rfl) ?_)
                  refine WL.nil ?_
                  refine W.ret ?_
                  refine ret1v rfl (show _ = Value.bool _ from rfl) ?_
                  exact ⟨congrArg Value.bool (by rw [Bool.eq_iff_iff]; simp_all [rgtB, okB, namB, nameB_nil] <;> omega), hx⟩
              · skip
                refine WL.s rfl (g60) rfl ?_
                refine WL.s rfl (g60) rfl ?_
                refine WL.s rfl (g60) rfl ?_
                refine WL.c rfl (o_pickF rfl (g60) ?_)
                refine WL.c rfl (o_mvh (show _ = Value.bool _ from rfl) ?_)
                refine WL.s rfl (rfl) rfl ?_
                refine WL.s rfl (rfl) rfl ?_
                refine WL.s rfl (rfl) rfl ?_
                refine WL.c rfl (o_pickF rfl (rfl) ?_)
                refine WL.c rfl (o_ash (show _ = Value.bool _ from rfl) ?_)
                refine WL.nil ?_
                refine W.ret ?_
                refine ret1v rfl (show _ = Value.bool _ from rfl) ?_
                exact ⟨congrArg Value.bool (by rw [Bool.eq_iff_iff]; simp_all [rgtB, okB, namB, nameB_nil] <;> omega), hx⟩
            · skip
              refine WL.s rfl (g55) rfl ?_
              refine WL.s rfl (g55) rfl ?_
              refine WL.s rfl (g55) rfl ?_
              refine WL.c rfl (o_pickF rfl (g55) ?_)
              refine WL.c rfl (o_mvh (show _ = Value.bool _ from rfl) ?_)
              refine WL.s rfl (rfl) rfl ?_
              refine WL.s rfl (rfl) rfl ?_
              refine WL.s rfl (rfl) rfl ?_
              refine WL.c rfl (o_pickF rfl (rfl) ?_)
              refine WL.c rfl (o_mvh (show _ = Value.bool _ from rfl) ?_)
              refine WL.s rfl (rfl) rfl ?_
              refine WL.s rfl (rfl) rfl ?_
              refine WL.s rfl (rfl) rfl ?_
              refine WL.c rfl (o_pickF rfl (rfl) ?_)
              refine WL.c rfl (o_ash (show _ = Value.bool _ from rfl) ?_)
              refine WL.nil ?_
              refine W.ret ?_
              refine ret1v rfl (show _ = Value.bool _ from rfl) ?_
              exact ⟨congrArg Value.bool (by rw [Bool.eq_iff_iff]; simp_all [rgtB, okB, namB, nameB_nil] <;> omega), hx⟩
          · try simp only [decide_eq_true_eq, decide_eq_false_iff_not, Bool.not_eq_true', Bool.not_eq_false', Bool.and_eq_true, Bool.or_eq_true, Bool.and_eq_false_iff, Bool.or_eq_false_iff] at c51
            refine W.seq ?_
            refine W.region ?_
            refine WL.c rfl (o_eq rfl rfl ?_)
            refine WL.c rfl (o_ash (show _ = Value.bool _ from rfl) ?_)
            refine WL.nil ?_
            refine W.cond rfl (fun c70 => ?_) (fun c70 => ?_)
            · try simp only [decide_eq_true_eq, decide_eq_false_iff_not, Bool.not_eq_true', Bool.not_eq_false', Bool.and_eq_true, Bool.or_eq_true, Bool.and_eq_false_iff, Bool.or_eq_false_iff] at c70
              refine W.seq ?_
              refine W.region ?_
              refine WL.c rfl (o_mvh (show _ = Value.bool _ from rfl) ?_)
              refine WL.c rfl (o_mvh (show _ = Value.bool _ from rfl) ?_)
              refine WL.sp 1 rfl (fun g73 => ?_) (fun g73 => ?_)
              · skip
                refine WL.g rfl (g73) rfl (o_fa 5 TI30 rfl TI3 rfl rfl ?_)
                refine WL.g rfl (g73) rfl (o_ld TI3 rfl rfl (cell_of hC1 rfl) ?_)
                refine WL.g rfl (g73) rfl (o_eq rfl rfl ?_)
                refine WL.c rfl (o_pickA rfl rfl ?_)
                refine WL.c rfl (o_mvh (show _ = Value.bool _ from rfl) ?_)
                refine WL.sp 6 rfl (fun g78 => ?_) (fun g78 => ?_)
                · skip
                  refine WL.g rfl (g78) rfl (o_fa 1 TI30 rfl TI3 rfl rfl ?_)
                  refine WL.g rfl (g78) rfl (o_ld TI3 rfl rfl (cell_of hC1 rfl) ?_)
                  refine WL.g rfl (g78) rfl (o_eq rfl rfl ?_)
                  refine WL.c rfl (o_pickA rfl rfl ?_)
                  refine WL.c rfl (o_ash (show _ = Value.bool _ from rfl) ?_)
                  refine WL.nil ?_
                  refine W.ret ?_
                  refine ret1v rfl (show _ = Value.bool _ from rfl) ?_
                  exact ⟨congrArg Value.bool (by rw [Bool.eq_iff_iff]; simp_all [rgtB, okB, namB, nameB_nil] <;> omega), hx⟩
                · skip
                  refine WL.s rfl (g78) rfl ?_
                  refine WL.s rfl (g78) rfl ?_
                  refine WL.s rfl (g78) rfl ?_
                  refine WL.c rfl (o_pickF rfl (g78) ?_)
                  refine WL.c rfl (o_ash (show _ = Value.bool _ from rfl) ?_)
                  refine WL.nil ?_
                  refine W.ret ?_
                  refine ret1v rfl (show _ = Value.bool _ from rfl) ?_
                  exact ⟨congrArg Value.bool (by rw [Bool.eq_iff_iff]; simp_all [rgtB, okB, namB, nameB_nil] <;> omega), hx⟩
              · skip
                refine WL.s rfl (g73) rfl ?_
                refine WL.s rfl (g73) rfl ?_
                refine WL.s rfl (g73) rfl ?_
                refine WL.c rfl (o_pickF rfl (g73) ?_)
                refine WL.c rfl (o_mvh (show _ = Value.bool _ from rfl) ?_)
                refine WL.s rfl (rfl) rfl ?_
                refine WL.s rfl (rfl) rfl ?_
                refine WL.s rfl (rfl) rfl ?_
                refine WL.c rfl (o_pickF rfl (rfl) ?_)
                refine WL.c rfl (o_ash (show _ = Value.bool _ from rfl) ?_)
                refine WL.nil ?_
                refine W.ret ?_
                refine ret1v rfl (show _ = Value.bool _ from rfl) ?_
                exact ⟨congrArg Value.bool (by rw [Bool.eq_iff_iff]; simp_all [rgtB, okB, namB, nameB_nil] <;> omega), hx⟩
            · try simp only [decide_eq_true_eq, decide_eq_false_iff_not, Bool.not_eq_true', Bool.not_eq_false', Bool.and_eq_true, Bool.or_eq_true, Bool.and_eq_false_iff, Bool.or_eq_false_iff] at c70
              refine W.seq ?_
              refine W.seq ?_
              refine W.region ?_
              refine WL.c rfl (o_eq rfl rfl ?_)
              refine WL.c rfl (o_ash (show _ = Value.bool _ from rfl) ?_)
              refine WL.nil ?_
              refine W.cond rfl (fun c83 => ?_) (fun c83 => ?_)
              · try simp only [decide_eq_true_eq, decide_eq_false_iff_not, Bool.not_eq_true', Bool.not_eq_false', Bool.and_eq_true, Bool.or_eq_true, Bool.and_eq_false_iff, Bool.or_eq_false_iff] at c83
                refine W.skip ?_
                refine W.cond rfl (fun c83 => ?_) (fun c83 => ?_)
                · try simp only [decide_eq_true_eq, decide_eq_false_iff_not, Bool.not_eq_true', Bool.not_eq_false', Bool.and_eq_true, Bool.or_eq_true, Bool.and_eq_false_iff, Bool.or_eq_false_iff] at c83
                  refine W.seq ?_
                  refine W.region ?_
                  refine WL.c rfl (o_mvh (show _ = Value.bool _ from rfl) ?_)
                  refine WL.c rfl (o_mvh (show _ = Value.bool _ from rfl) ?_)
                  refine WL.sp 1 rfl (fun g87 => ?_) (fun g87 => ?_)
                  · skip
                    refine WL.g rfl (g87) rfl (o_fa 5 TI30 rfl TI3 rfl rfl ?_)
                    refine WL.g rfl (g87) rfl (o_ld TI3 rfl rfl (cell_of hC1 rfl) ?_)
                    refine WL.g rfl (g87) rfl (o_ge rfl rfl ?_)
                    refine WL.c rfl (o_pickA rfl rfl ?_)
                    refine WL.c rfl (o_mvh (show _ = Value.bool _ from rfl) ?_)
                    refine WL.sp 6 rfl (fun g92 => ?_) (fun g92 => ?_)
                    · skip
                      refine WL.g rfl (g92) rfl (o_fa 1 TI30 rfl TI3 rfl rfl ?_)
                      refine WL.g rfl (g92) rfl (o_ld TI3 rfl rfl (cell_of hC1 rfl) ?_)
                      refine WL.g rfl (g92) rfl (o_eq rfl rfl ?_)
                      refine WL.c rfl (o_pickA rfl rfl ?_)
                      refine WL.c rfl (o_ash (show _ = Value.bool _ from rfl) ?_)
                      refine WL.nil ?_
                      refine W.ret ?_
                      refine ret1v rfl (show _ = Value.bool _ from rfl) ?_
                      exact ⟨congrArg Value.bool (by rw [Bool.eq_iff_iff]; simp_all [rgtB, okB, namB, nameB_nil] <;> omega), hx⟩
                    · skip
                      refine WL.s rfl (g92) rfl ?_
                      refine WL.s rfl (g92) rfl ?_
                      refine WL.s rfl (g92) rfl ?_
                      refine WL.c rfl (o_pickF rfl (g92) ?_)
                      refine WL.c rfl (o_ash (show _ = Value.bool _ from rfl) ?_)
                      refine WL.nil ?_
                      refine W.ret ?_
                      refine ret1v rfl (show _ = Value.bool _ from rfl) ?_
                      exact ⟨congrArg Value.bool (by rw [Bool.eq_iff_iff]; simp_all [rgtB, okB, namB, nameB_nil] <;> omega), hx⟩
                  · skip
                    refine WL.s rfl (g87) rfl ?_
                    refine WL.s rfl (g87) rfl ?_
                    refine WL.s rfl (g87) rfl ?_
                    refine WL.c rfl (o_pickF rfl (g87) ?_)
                    refine WL.c rfl (o_mvh (show _ = Value.bool _ from rfl) ?_)
                    refine WL.s rfl (rfl) rfl ?_
                    refine WL.s rfl (rfl) rfl ?_
                    refine WL.s rfl (rfl) rfl ?_
                    refine WL.c rfl (o_pickF rfl (rfl) ?_)
                    refine WL.c rfl (o_ash (show _ = Value.bool _ from rfl) ?_)
                    refine WL.nil ?_
                    refine W.ret ?_
                    refine ret1v rfl (show _ = Value.bool _ from rfl) ?_
                    exact ⟨congrArg Value.bool (by rw [Bool.eq_iff_iff]; simp_all [rgtB, okB, namB, nameB_nil] <;> omega), hx⟩
                · try simp only [decide_eq_true_eq, decide_eq_false_iff_not, Bool.not_eq_true', Bool.not_eq_false', Bool.and_eq_true, Bool.or_eq_true, Bool.and_eq_false_iff, Bool.or_eq_false_iff] at c83
                  refine W.seq ?_
                  refine W.region ?_
                  refine WL.c rfl (o_eq rfl rfl ?_)
                  refine WL.c rfl (o_ash (show _ = Value.bool _ from rfl) ?_)
                  refine WL.nil ?_
                  refine W.cond rfl (fun c97 => ?_) (fun c97 => ?_)
                  · try simp only [decide_eq_true_eq, decide_eq_false_iff_not, Bool.not_eq_true', Bool.not_eq_false', Bool.and_eq_true, Bool.or_eq_true, Bool.and_eq_false_iff, Bool.or_eq_false_iff] at c97
                    refine W.seq ?_
                    refine W.region ?_
                    refine WL.c rfl (o_fa 2 TI30 rfl TI9 rfl rfl ?_)
                    refine WL.c rfl (o_ld TI9 rfl rfl (cell_of hC1 rfl) ?_)
                    refine WL.c rfl (o_call Try.call27 (lc rfl ln) ((rname_spec x.name _ hn).mono ?_))
                    rintro v101 w101 ⟨rfl, rfl⟩
                    refine WL.c rfl (o_mvh (show _ = Value.bool _ from rfl) ?_)
                    refine WL.sp 3 rfl (fun g102 => ?_) (fun g102 => ?_)
                    · skip
                      refine WL.g rfl (g102) rfl (o_fa 5 TI30 rfl TI3 rfl rfl ?_)
                      refine WL.g rfl (g102) rfl (o_ld TI3 rfl rfl (cell_of hC1 rfl) ?_)
                      refine WL.g rfl (g102) rfl (o_eq rfl rfl ?_)
                      refine WL.c rfl (o_pickA rfl rfl ?_)
                      refine WL.c rfl (o_mvh (show _ = Value.bool _ from rfl) ?_)
                      refine WL.sp 8 rfl (fun g107 => ?_) (fun g107 => ?_)
                      · skip
                        refine WL.g rfl (g107) rfl (o_fa 1 TI30 rfl TI3 rfl rfl ?_)
                        refine WL.g rfl (g107) rfl (o_ld TI3 rfl rfl (cell_of hC1 rfl) ?_)
                        refine WL.g rfl (g107) rfl (o_eq rfl rfl ?_)
                        refine WL.c rfl (o_pickA rfl rfl ?_)
                        refine WL.c rfl (o_ash (show _ = Value.bool _ from rfl) ?_)
                        refine WL.nil ?_
                        refine W.ret ?_
                        refine ret1v rfl (show _ = Value.bool _ from rfl) ?_
                        exact ⟨congrArg Value.bool (by rw [Bool.eq_iff_iff]; simp_all [rgtB, okB, namB, nameB_nil] <;> omega), hx⟩
                      · skip
                        refine WL.s rfl (g107) rfl ?_
                        refine WL.s rfl (g107) rfl ?_
                        refine WL.s rfl (g107) rfl ?_
                        refine WL.c rfl (o_pickF rfl (g107) ?_)
                        refine WL.c rfl (o_ash (show _ = Value.bool _ from rfl) ?_)
                        refine WL.nil ?_
                        refine W.ret ?_
                        refine ret1v rfl (show _ = Value.bool _ from rfl) ?_
                        exact ⟨congrArg Value.bool (by rw [Bool.eq_iff_iff]; simp_all [rgtB, okB, namB, nameB_nil] <;> omega), hx⟩
                    · skip
                      refine WL.s rfl (g102) rfl ?_
                      refine WL.s rfl (g102) rfl ?_
                      refine WL.s rfl (g102) rfl ?_
                      refine WL.c rfl (o_pickF rfl (g102) ?_)
                      refine WL.c rfl (o_mvh (show _ = Value.bool _ from rfl) ?_)
                      refine WL.s rfl (rfl) rfl ?_
                      refine WL.s rfl (rfl) rfl ?_
                      refine WL.s rfl (rfl) rfl ?_
                      refine WL.c rfl (o_pickF rfl (rfl) ?_)
                      refine WL.c rfl (o_ash (show _ = Value.bool _ from rfl) ?_)
                      refine WL.nil ?_
                      refine W.ret ?_
                      refine ret1v rfl (show _ = Value.bool _ from rfl) ?_
                      exact ⟨congrArg Value.bool (by rw [Bool.eq_iff_iff]; simp_all [rgtB, okB, namB, nameB_nil] <;> omega), hx⟩
                  · try simp only [decide_eq_true_eq, decide_eq_false_iff_not, Bool.not_eq_true', Bool.not_eq_false', Bool.and_eq_true, Bool.or_eq_true, Bool.and_eq_false_iff, Bool.or_eq_false_iff] at c97
                    refine W.skip ?_
                    refine W.seq ?_
                    refine W.region ?_
                    refine WL.c rfl (o_ash (show _ = Value.bool _ from rfl) ?_)
                    refine WL.nil ?_
                    refine W.ret ?_
                    refine ret1v rfl (show _ = Value.bool _ from rfl) ?_
                    exact ⟨congrArg Value.bool (by rw [Bool.eq_iff_iff]; simp_all [rgtB, okB, namB, nameB_nil] <;> omega), hx⟩
              · try simp only [decide_eq_true_eq, decide_eq_false_iff_not, Bool.not_eq_true', Bool.not_eq_false', Bool.and_eq_true, Bool.or_eq_true, Bool.and_eq_false_iff, Bool.or_eq_false_iff] at c83
                refine W.region ?_
                refine WL.c rfl (o_eq rfl rfl ?_)
                refine WL.c rfl (o_ash (show _ = Value.bool _ from rfl) ?_)
                refine WL.nil ?_
                refine W.cond rfl (fun c83 => ?_) (fun c83 => ?_)
                · try simp only [decide_eq_true_eq, decide_eq_false_iff_not, Bool.not_eq_true', Bool.not_eq_false', Bool.and_eq_true, Bool.or_eq_true, Bool.and_eq_false_iff, Bool.or_eq_false_iff] at c83
                  refine W.seq ?_
                  refine W.region ?_
                  refine WL.c rfl (o_mvh (show _ = Value.bool _ from rfl) ?_)
                  refine WL.c rfl (o_mvh (show _ = Value.bool _ from rfl) ?_)
                  refine WL.sp 1 rfl (fun g87 => ?_) (fun g87 => ?_)
                  · skip
                    refine WL.g rfl (g87) rfl (o_fa 5 TI30 rfl TI3 rfl rfl ?_)
                    refine WL.g rfl (g87) rfl (o_ld TI3 rfl rfl (cell_of hC1 rfl) ?_)
                    refine WL.g rfl (g87) rfl (o_ge rfl rfl ?_)
                    refine WL.c rfl (o_pickA rfl rfl ?_)
                    refine WL.c rfl (o_mvh (show _ = Value.bool _ from rfl) ?_)
                    refine WL.sp 6 rfl (fun g92 => ?_) (fun g92 => ?_)
                    · skip
                      refine WL.g rfl (g92) rfl (o_fa 1 TI30 rfl TI3 rfl rfl ?_)
                      refine WL.g rfl (g92) rfl (o_ld TI3 rfl rfl (cell_of hC1 rfl) ?_)
                      refine WL.g rfl (g92) rfl (o_eq rfl rfl ?_)
                      refine WL.c rfl (o_pickA rfl rfl ?_)
                      refine WL.c rfl (o_ash (show _ = Value.bool _ from rfl) ?_)
                      refine WL.nil ?_
                      refine W.ret ?_
                      refine ret1v rfl (show _ = Value.bool _ from rfl) ?_
                      exact ⟨congrArg Value.bool (by rw [Bool.eq_iff_iff]; simp_all [rgtB, okB, namB, nameB_nil] <;> omega), hx⟩
                    · skip
                      refine WL.s rfl (g92) rfl ?_
                      refine WL.s rfl (g92) rfl ?_
                      refine WL.s rfl (g92) rfl ?_
                      refine WL.c rfl (o_pickF rfl (g92) ?_)
                      refine WL.c rfl (o_ash (show _ = Value.bool _ from rfl) ?_)
                      refine WL.nil ?_
                      refine W.ret ?_
                      refine ret1v rfl (show _ = Value.bool _ from rfl) ?_
                      exact ⟨congrArg Value.bool (by rw [Bool.eq_iff_iff]; simp_all [rgtB, okB, namB, nameB_nil] <;> omega), hx⟩
                  · skip
                    refine WL.s rfl (g87) rfl ?_
                    refine WL.s rfl (g87) rfl ?_
                    refine WL.s rfl (g87) rfl ?_
                    refine WL.c rfl (o_pickF rfl (g87) ?_)
                    refine WL.c rfl (o_mvh (show _ = Value.bool _ from rfl) ?_)
                    refine WL.s rfl (rfl) rfl ?_
                    refine WL.s rfl (rfl) rfl ?_
                    refine WL.s rfl (rfl) rfl ?_
                    refine WL.c rfl (o_pickF rfl (rfl) ?_)
                    refine WL.c rfl (o_ash (show _ = Value.bool _ from rfl) ?_)
                    refine WL.nil ?_
                    refine W.ret ?_
                    refine ret1v rfl (show _ = Value.bool _ from rfl) ?_
                    exact ⟨congrArg Value.bool (by rw [Bool.eq_iff_iff]; simp_all [rgtB, okB, namB, nameB_nil] <;> omega), hx⟩
                · try simp only [decide_eq_true_eq, decide_eq_false_iff_not, Bool.not_eq_true', Bool.not_eq_false', Bool.and_eq_true, Bool.or_eq_true, Bool.and_eq_false_iff, Bool.or_eq_false_iff] at c83
                  refine W.seq ?_
                  refine W.region ?_
                  refine WL.c rfl (o_eq rfl rfl ?_)
                  refine WL.c rfl (o_ash (show _ = Value.bool _ from rfl) ?_)
                  refine WL.nil ?_
                  refine W.cond rfl (fun c97 => ?_) (fun c97 => ?_)
                  · try simp only [decide_eq_true_eq, decide_eq_false_iff_not, Bool.not_eq_true', Bool.not_eq_false', Bool.and_eq_true, Bool.or_eq_true, Bool.and_eq_false_iff, Bool.or_eq_false_iff] at c97
                    refine W.seq ?_
                    refine W.region ?_
                    refine WL.c rfl (o_fa 2 TI30 rfl TI9 rfl rfl ?_)
                    refine WL.c rfl (o_ld TI9 rfl rfl (cell_of hC1 rfl) ?_)
                    refine WL.c rfl (o_call Try.call27 (lc rfl ln) ((rname_spec x.name _ hn).mono ?_))
                    rintro v101 w101 ⟨rfl, rfl⟩
                    refine WL.c rfl (o_mvh (show _ = Value.bool _ from rfl) ?_)
                    refine WL.sp 3 rfl (fun g102 => ?_) (fun g102 => ?_)
                    · skip
                      refine WL.g rfl (g102) rfl (o_fa 5 TI30 rfl TI3 rfl rfl ?_)
                      refine WL.g rfl (g102) rfl (o_ld TI3 rfl rfl (cell_of hC1 rfl) ?_)
                      refine WL.g rfl (g102) rfl (o_eq rfl rfl ?_)
                      refine WL.c rfl (o_pickA rfl rfl ?_)
                      refine WL.c rfl (o_mvh (show _ = Value.bool _ from rfl) ?_)
                      refine WL.sp 8 rfl (fun g107 => ?_) (fun g107 => ?_)
                      · skip
                        refine WL.g rfl (g107) rfl (o_fa 1 TI30 rfl TI3 rfl rfl ?_)
                        refine WL.g rfl (g107) rfl (o_ld TI3 rfl rfl (cell_of hC1 rfl) ?_)
                        refine WL.g rfl (g107) rfl (o_eq rfl rfl ?_)
                        refine WL.c rfl (o_pickA rfl rfl ?_)
                        refine WL.c rfl (o_ash (show _ = Value.bool _ from rfl) ?_)
                        refine WL.nil ?_
                        refine W.ret ?_
                        refine ret1v rfl (show _ = Value.bool _ from rfl) ?_
                        exact ⟨congrArg Value.bool (by rw [Bool.eq_iff_iff]; simp_all [rgtB, okB, namB, nameB_nil] <;> omega), hx⟩
                      · skip
                        refine WL.s rfl (g107) rfl ?_
                        refine WL.s rfl (g107) rfl ?_
                        refine WL.s rfl (g107) rfl ?_
                        refine WL.c rfl (o_pickF rfl (g107) ?_)
                        refine WL.c rfl (o_ash (show _ = Value.bool _ from rfl) ?_)
                        refine WL.nil ?_
                        refine W.ret ?_
                        refine ret1v rfl (show _ = Value.bool _ from rfl) ?_
                        exact ⟨congrArg Value.bool (by rw [Bool.eq_iff_iff]; simp_all [rgtB, okB, namB, nameB_nil] <;> omega), hx⟩
                    · skip
                      refine WL.s rfl (g102) rfl ?_
                      refine WL.s rfl (g102) rfl ?_
                      refine WL.s rfl (g102) rfl ?_
                      refine WL.c rfl (o_pickF rfl (g102) ?_)
                      refine WL.c rfl (o_mvh (show _ = Value.bool _ from rfl) ?_)
                      refine WL.s rfl (rfl) rfl ?_
                      refine WL.s rfl (rfl) rfl ?_
                      refine WL.s rfl (rfl) rfl ?_
                      refine WL.c rfl (o_pickF rfl (rfl) ?_)
                      refine WL.c rfl (o_ash (show _ = Value.bool _ from rfl) ?_)
                      refine WL.nil ?_
                      refine W.ret ?_
                      refine ret1v rfl (show _ = Value.bool _ from rfl) ?_
                      exact ⟨congrArg Value.bool (by rw [Bool.eq_iff_iff]; simp_all [rgtB, okB, namB, nameB_nil] <;> omega), hx⟩
                  · try simp only [decide_eq_true_eq, decide_eq_false_iff_not, Bool.not_eq_true', Bool.not_eq_false', Bool.and_eq_true, Bool.or_eq_true, Bool.and_eq_false_iff, Bool.or_eq_false_iff] at c97
                    refine W.skip ?_
                    refine W.seq ?_
                    refine W.region ?_
                    refine WL.c rfl (o_ash (show _ = Value.bool _ from rfl) ?_)
                    refine WL.nil ?_
                    refine W.ret ?_
                    refine ret1v rfl (show _ = Value.bool _ from rfl) ?_
                    exact ⟨congrArg Value.bool (by rw [Bool.eq_iff_iff]; simp_all [rgtB, okB, namB, nameB_nil] <;> omega), hx⟩
        · try simp only [decide_eq_true_eq, decide_eq_false_iff_not, Bool.not_eq_true', Bool.not_eq_false', Bool.and_eq_true, Bool.or_eq_true, Bool.and_eq_false_iff, Bool.or_eq_false_iff] at c51
          refine W.region ?_
          refine WL.c rfl (o_eq rfl rfl ?_)
          refine WL.c rfl (o_ash (show _ = Value.bool _ from rfl) ?_)
          refine WL.nil ?_
          refine W.cond rfl (fun c51 => ?_) (fun c51 => ?_)
          · try simp only [decide_eq_true_eq, decide_eq_false_iff_not, Bool.not_eq_true', Bool.not_eq_false', Bool.and_eq_true, Bool.or_eq_true, Bool.and_eq_false_iff, Bool.or_eq_false_iff] at c51
            refine W.seq ?_
            refine W.region ?_
            refine WL.c rfl (o_mvh (show _ = Value.bool _ from rfl) ?_)
            refine WL.c rfl (o_mvh (show _ = Value.bool _ from rfl) ?_)
            refine WL.sp 1 rfl (fun g55 => ?_) (fun g55 => ?_)
            · skip
              refine WL.g rfl (g55) rfl (o_fa 5 TI30 rfl TI3 rfl rfl ?_)
              refine WL.g rfl (g55) rfl (o_ld TI3 rfl rfl (cell_of hC1 rfl) ?_)
              refine WL.g rfl (g55) rfl (o_eq rfl rfl ?_)
              refine WL.c rfl (o_pickA rfl rfl ?_)
              refine WL.c rfl (o_mvh (show _ = Value.bool _ from rfl) ?_)
              refine WL.sp 6 rfl (fun g60 => ?_) (fun g60 => ?_)
              · skip
                refine WL.g rfl (g60) rfl (o_fa 1 TI30 rfl TI3 rfl rfl ?_)
                refine WL.g rfl (g60) rfl (o_ld TI3 rfl rfl (cell_of hC1 rfl) ?_)
                refine WL.g rfl (g60) rfl (o_ge rfl rfl ?_)
                refine WL.c rfl (o_pickA rfl rfl ?_)
                refine WL.c rfl (o_mvh (show _ = Value.bool _ from rfl) ?_)
                refine WL.sp 11 rfl (fun g65 => ?_) (fun g65 => ?_)
                · skip
                  refine WL.g rfl (g65) rfl (o_fa 1 TI30 rfl TI3 rfl rfl ?_)
                  refine WL.g rfl (g65) rfl (o_ld TI3 rfl rfl (cell_of hC1 rfl) ?_)
                  refine WL.g rfl (g65) rfl (o_le rfl rfl ?_)
                  refine WL.c rfl (o_pickA rfl rfl ?_)
                  refine WL.c rfl (o_ash (show _ = Value.bool _ from rfl) ?_)
                  refine WL.nil ?_
                  refine W.ret ?_
                  refine ret1v rfl (show _ = Value.bool _ from rfl) ?_
                  exact ⟨congrArg Value.bool (by rw [Bool.eq_iff_iff]; simp_all [rgtB, okB, namB, nameB_nil] <;> omega), hx⟩
                · skip
                  refine WL.s rfl (g65) rfl ?_
                  refine WL.s rfl (g65) rfl ?_
                  refine WL.s rfl (g65) rfl ?_
                  refine WL.c rfl (o_pickF rfl (g65) ?_)
                  refine WL.c rfl (o_ash (show _ = Value.bool _ from rfl) ?_)
                  refine WL.nil ?_
                  refine W.ret ?_
                  refine ret1v rfl (show _ = Value.bool _ from rfl) ?_
                  exact ⟨congrArg Value.bool (by rw [Bool.eq_iff_iff]; simp_all [rgtB, okB, namB, nameB_nil] <;> omega), hx⟩
              · skip
                refine WL.s rfl (g60) rfl ?_
                refine WL.s rfl (g60) rfl ?_
                refine WL.s rfl (g60) rfl ?_
                refine WL.c rfl (o_pickF rfl (g60) ?_)
                refine WL.c rfl (o_mvh (show _ = Value.bool _ from rfl) ?_)
                refine WL.s rfl (rfl) rfl ?_
                refine WL.s rfl (rfl) rfl ?_
                refine WL.s rfl (rfl) rfl ?_
                refine WL.c rfl (o_pickF rfl (rfl) ?_)
                refine WL.c rfl (o_ash (show _ = Value.bool _ from rfl) ?_)
                refine WL.nil ?_
                refine W.ret ?_
                refine ret1v rfl (show _ = Value.bool _ from rfl) ?_
                exact ⟨congrArg Value.bool (by rw [Bool.eq_iff_iff]; simp_all [rgtB, okB, namB, nameB_nil] <;> omega), hx⟩
            · skip
              refine WL.s rfl (g55) rfl ?_
              refine WL.s rfl (g55) rfl ?_
              refine WL.s rfl (g55) rfl ?_
              refine WL.c rfl (o_pickF rfl (g55) ?_)
              refine WL.c rfl (o_mvh (show _ = Value.bool _ from rfl) ?_)
              refine WL.s rfl (rfl) rfl ?_
              refine WL.s rfl (rfl) rfl ?_
              refine WL.s rfl (rfl) rfl ?_
              refine WL.c rfl (o_pickF rfl (rfl) ?_)
              refine WL.c rfl (o_mvh (show _ = Value.bool _ from rfl) ?_)
              refine WL.s rfl (rfl) rfl ?_
              refine WL.s rfl (rfl) rfl ?_
              refine WL.s rfl (rfl) rfl ?_
              refine WL.c rfl (o_pickF rfl (rfl) ?_)
              refine WL.c rfl (o_ash (show _ = Value.bool _ from rfl) ?_)
              refine WL.nil ?_
              refine W.ret ?_
              refine ret1v rfl (show _ = Value.bool _ from rfl) ?_
              exact ⟨congrArg Value.bool (by rw [Bool.eq_iff_iff]; simp_all [rgtB, okB, namB, nameB_nil] <;> omega), hx⟩
          · try simp only [decide_eq_true_eq, decide_eq_false_iff_not, Bool.not_eq_true', Bool.not_eq_false', Bool.and_eq_true, Bool.or_eq_true, Bool.and_eq_false_iff, Bool.or_eq_false_iff] at c51
            refine W.seq ?_
            refine W.region ?_
            refine WL.c rfl (o_eq rfl rfl ?_)
            refine WL.c rfl (o_ash (show _ = Value.bool _ from rfl) ?_)
            refine WL.nil ?_
            refine W.cond rfl (fun c70 => ?_) (fun c70 => ?_)
            · try simp only [decide_eq_true_eq, decide_eq_false_iff_not, Bool.not_eq_true', Bool.not_eq_false', Bool.and_eq_true, Bool.or_eq_true, Bool.and_eq_false_iff, Bool.or_eq_false_iff] at c70
              refine W.seq ?_
              refine W.region ?_
              refine WL.c rfl (o_mvh (show _ = Value.bool _ from rfl) ?_)
              refine WL.c rfl (o_mvh (show _ = Value.bool _ from rfl) ?_)
              refine WL.sp 1 rfl (fun g73 => ?_) (fun g73 => ?_)
              · skip
                refine WL.g rfl (g73) rfl (o_fa 5 TI30 rfl TI3 rfl rfl ?_)
                refine WL.g rfl (g73) rfl (o_ld TI3 rfl rfl (cell_of hC1 rfl) ?_)
                refine WL.g rfl (g73) rfl (o_eq rfl rfl ?_)
                refine WL.c rfl (o_pickA rfl rfl ?_)
                refine WL.c rfl (o_mvh (show _ = Value.bool _ from rfl) ?_)
                refine WL.sp 6 rfl (fun g78 => ?_) (fun g78 => ?_)
                · skip
                  refine WL.g rfl (g78) rfl (o_fa 1 TI30 rfl TI3 rfl rfl ?_)
                  refine WL.g rfl (g78) rfl (o_ld TI3 rfl rfl (cell_of hC1 rfl) ?_)
                  refine WL.g rfl (g78) rfl (o_eq rfl rfl ?_)
                  refine WL.c rfl (o_pickA rfl rfl ?_)
                  refine WL.c rfl (o_ash (show _ = Value.bool _ from rfl) ?_)
                  refine WL.nil ?_
                  refine W.ret ?_
                  refine ret1v rfl (show _ = Value.bool _ from rfl) ?_
                  exact ⟨congrArg Value.bool (by rw [Bool.eq_iff_iff]; simp_all [rgtB, okB, namB, nameB_nil] <;> omega), hx⟩
                · skip
                  refine WL.s rfl (g78) rfl ?_
                  refine WL.s rfl (g78) rfl ?_
                  refine WL.s rfl (g78) rfl ?_
                  refine WL.c rfl (o_pickF rfl (g78) ?_)
                  refine WL.c rfl (o_ash (show _ = Value.bool _ from rfl) ?_)
                  refine WL.nil ?_
                  refine W.ret ?_
                  refine ret1v rfl (show _ = Value.bool _ from rfl) ?_
                  exact ⟨congrArg Value.bool (by rw [Bool.eq_iff_iff]; simp_all [rgtB, okB, namB, nameB_nil] <;> omega), hx⟩
              · skip
                refine WL.s rfl (g73) rfl ?_
                refine WL.s rfl (g73) rfl ?_
                refine WL.s rfl (g73) rfl ?_
                refine WL.c rfl (o_pickF rfl (g73) ?_)
                refine WL.c rfl (o_mvh (show _ = Value.bool _ from rfl) ?_)
                refine WL.s rfl (rfl) rfl ?_
                refine WL.s rfl (rfl) rfl ?_
                refine WL.s rfl (rfl) rfl ?_
                refine WL.c rfl (o_pickF rfl (rfl) ?_)
                refine WL.c rfl (o_ash (show _ = Value.bool _ from rfl) ?_)
                refine WL.nil ?_
                refine W.ret ?_
                refine ret1v rfl (show _ = Value.bool _ from rfl) ?_
                exact ⟨congrArg Value.bool (by rw [Bool.eq_iff_iff]; simp_all [rgtB, okB, namB, nameB_nil] <;> omega), hx⟩
            · try simp only [decide_eq_true_eq, decide_eq_false_iff_not, Bool.not_eq_true', Bool.not_eq_false', Bool.and_eq_true, Bool.or_eq_true, Bool.and_eq_false_iff, Bool.or_eq_false_iff] at c70
              refine W.seq ?_
              refine W.seq ?_
              refine W.region ?_
              refine WL.c rfl (o_eq rfl rfl ?_)
              refine WL.c rfl (o_ash (show _ = Value.bool _ from rfl) ?_)
              refine WL.nil ?_
              refine W.cond rfl (fun c83 => ?_) (fun c83 => ?_)
              · try simp only [decide_eq_true_eq, decide_eq_false_iff_not, Bool.not_eq_true', Bool.not_eq_false', Bool.and_eq_true, Bool.or_eq_true, Bool.and_eq_false_iff, Bool.or_eq_false_iff] at c83
                refine W.skip ?_
                refine W.cond rfl (fun c83 => ?_) (fun c83 => ?_)
                · try simp only [decide_eq_true_eq, decide_eq_false_iff_not, Bool.not_eq_true', Bool.not_eq_false', Bool.and_eq_true, Bool.or_eq_true, Bool.and_eq_false_iff, Bool.or_eq_false_iff] at c83
                  refine W.seq ?_
                  refine W.region ?_
                  refine WL.c rfl (o_mvh (show _ = Value.bool _ from rfl) ?_)
                  refine WL.c rfl (o_mvh (show _ = Value.bool _ from rfl) ?_)
                  refine WL.sp 1 rfl (fun g87 => ?_) (fun g87 => ?_)
                  · skip
                    refine WL.g rfl (g87) rfl (o_fa 5 TI30 rfl TI3 rfl rfl ?_)
                    refine WL.g rfl (g87) rfl (o_ld TI3 rfl rfl (cell_of hC1 rfl) ?_)
                    refine WL.g rfl (g87) rfl (o_ge rfl rfl ?_)
                    refine WL.c rfl (o_pickA rfl rfl ?_)
                    refine WL.c rfl (o_mvh (show _ = Value.bool _ from rfl) ?_)
                    refine WL.sp 6 rfl (fun g92 => ?_) (fun g92 => ?_)
                    · skip
                      refine WL.g rfl (g92) rfl (o_fa 1 TI30 rfl TI3 rfl rfl ?_)
                      refine WL.g rfl (g92) rfl (o_ld TI3 rfl rfl (cell_of hC1 rfl) ?_)
                      refine WL.g rfl (g92) rfl (o_eq rfl rfl ?_)
                      refine WL.c rfl (o_pickA rfl rfl ?_)
                      refine WL.c rfl (o_ash (show _ = Value.bool _ from rfl) ?_)
                      refine WL.nil ?_
                      refine W.ret ?_
                      refine ret1v rfl (show _ = Value.bool _ from rfl) ?_
                      exact ⟨congrArg Value.bool (by rw [Bool.eq_iff_iff]; simp_all [rgtB, okB, namB, nameB_nil] <;> omega), hx⟩
                    · skip
                      refine WL.s rfl (g92) rfl ?_
                      refine WL.s rfl (g92) rfl ?_
                      refine WL.s rfl (g92) rfl ?_
                      refine WL.c rfl (o_pickF rfl (g92) ?_)
                      refine WL.c rfl (o_ash (show _ = Value.bool _ from rfl) ?_)
                      refine WL.nil ?_
                      refine W.ret ?_
                      refine ret1v rfl (show _ = Value.bool _ from rfl) ?_
                      exact ⟨congrArg Value.bool (by rw [Bool.eq_iff_iff]; simp_all [rgtB, okB, namB, nameB_nil] <;> omega), hx⟩
                  · skip
                    refine WL.s rfl (g87) rfl ?_
                    refine WL.s rfl (g87) rfl ?_
                    refine WL.s rfl (g87) rfl ?_
                    refine WL.c rfl (o_pickF rfl (g87) ?_)
                    refine WL.c rfl (o_mvh (show _ = Value.bool _ from rfl) ?_)
                    refine WL.s rfl (rfl) rfl ?_
                    refine WL.s rfl (rfl) rfl ?_
                    refine WL.s rfl (rfl) rfl ?_
                    refine WL.c rfl (o_pickF rfl (rfl) ?_)
                    refine WL.c rfl (o_ash (show _ = Value.bool _ from rfl) ?_)
                    refine WL.nil ?_
                    refine W.ret ?_
                    refine ret1v rfl (show _ = Value.bool _ from rfl) ?_
                    exact ⟨congrArg Value.bool (by rw [Bool.eq_iff_iff]; simp_all [rgtB, okB, namB, nameB_nil] <;> omega), hx⟩
                · try simp only [decide_eq_true_eq, decide_eq_false_iff_not, Bool.not_eq_true', Bool.not_eq_false', Bool.and_eq_true, Bool.or_eq_true, Bool.and_eq_false_iff, Bool.or_eq_false_iff] at c83
                  refine W.seq ?_
                  refine W.region ?_
                  refine WL.c rfl (o_eq rfl rfl ?_)
                  refine WL.c rfl (o_ash (show _ = Value.bool _ from rfl) ?_)
                  refine WL.nil ?_
                  refine W.cond rfl (fun c97 => ?_) (fun c97 => ?_)
                  · try simp only [decide_eq_true_eq, decide_eq_false_iff_not, Bool.not_eq_true', Bool.not_eq_false', Bool.and_eq_true, Bool.or_eq_true, Bool.and_eq_false_iff, Bool.or_eq_false_iff] at c97
                    refine W.seq ?_
                    refine W.region ?_
                    refine WL.c rfl (o_fa 2 TI30 rfl TI9 rfl rfl ?_)
                    refine WL.c rfl (o_ld TI9 rfl rfl (cell_of hC1 rfl) ?_)
                    refine WL.c rfl (o_call Try.call27 (lc rfl ln) ((rname_spec x.name _ hn).mono ?_))
                    rintro v101 w101 ⟨rfl, rfl⟩
                    refine WL.c rfl (o_mvh (show _ = Value.bool _ from rfl) ?_)
                    refine WL.sp 3 rfl (fun g102 => ?_) (fun g102 => ?_)
                    · skip
                      refine WL.g rfl (g102) rfl (o_fa 5 TI30 rfl TI3 rfl rfl ?_)
                      refine WL.g rfl (g102) rfl (o_ld TI3 rfl rfl (cell_of hC1 rfl) ?_)
                      refine WL.g rfl (g102) rfl (o_eq rfl rfl ?_)
                      refine WL.c rfl (o_pickA rfl rfl ?_)
                      refine WL.c rfl (o_mvh (show _ = Value.bool _ from rfl) ?_)
                      refine WL.sp 8 rfl (fun g107 => ?_) (fun g107 => ?_)
                      · skip
                        refine WL.g rfl (g107) rfl (o_fa 1 TI30 rfl TI3 rfl rfl ?_)
                        refine WL.g rfl (g107) rfl (o_ld TI3 rfl rfl (cell_of hC1 rfl) ?_)
                        refine WL.g rfl (g107) rfl (o_eq rfl rfl ?_)
                        refine WL.c rfl (o_pickA rfl rfl ?_)
                        refine WL.c rfl (o_ash (show _ = Value.bool _ from rfl) ?_)
                        refine WL.nil ?_
                        refine W.ret ?_
                        refine ret1v rfl (show _ = Value.bool _ from rfl) ?_
                        exact ⟨congrArg Value.bool (by rw [Bool.eq_iff_iff]; simp_all [rgtB, okB, namB, nameB_nil] <;> omega), hx⟩
                      · skip
                        refine WL.s rfl (g107) rfl ?_
                        refine WL.s rfl (g107) rfl ?_
                        refine WL.s rfl (g107) rfl ?_
                        refine WL.c rfl (o_pickF rfl (g107) ?_)
                        refine WL.c rfl (o_ash (show _ = Value.bool _ from rfl) ?_)
                        refine WL.nil ?_
                        refine W.ret ?_
                        refine ret1v rfl (show _ = Value.bool _ from rfl) ?_
                        exact ⟨congrArg Value.bool (by rw [Bool.eq_iff_iff]; simp_all [rgtB, okB, namB, nameB_nil] <;> omega), hx⟩
                    · skip
                      refine WL.s rfl (g102) rfl ?_
                      refine WL.s rfl (g102) rfl ?_
                      refine WL.s rfl (g102) rfl ?_
                      refine WL.c rfl (o_pickF rfl (g102) ?_)
                      refine WL.c rfl (o_mvh (show _ = Value.bool _ from rfl) ?_)
                      refine WL.s rfl (rfl) rfl ?_
                      refine WL.s rfl (rfl) rfl ?_
                      refine WL.s rfl (rfl) rfl ?_
                      refine WL.c rfl (o_pickF rfl (rfl) ?_)
                      refine WL.c rfl (o_ash (show _ = Value.bool _ from rfl) ?_)
                      refine WL.nil ?_
                      refine W.ret ?_
                      refine ret1v rfl (show _ = Value.bool _ from rfl) ?_
                      exact ⟨congrArg Value.bool (by rw [Bool.eq_iff_iff]; simp_all [rgtB, okB, namB, nameB_nil] <;> omega), hx⟩
                  · try simp only [decide_eq_true_eq, decide_eq_false_iff_not, Bool.not_eq_true', Bool.not_eq_false', Bool.and_eq_true, Bool.or_eq_true, Bool.and_eq_false_iff, Bool.or_eq_false_iff] at c97
                    refine W.skip ?_
                    refine W.seq ?_
                    refine W.region ?_
                    refine WL.c rfl (o_ash (show _ = Value.bool _ from rfl) ?_)
                    refine WL.nil ?_
                    refine W.ret ?_
                    refine ret1v rfl (show _ = Value.bool _ from rfl) ?_
                    exact ⟨congrArg Value.bool (by rw [Bool.eq_iff_iff]; simp_all [rgtB, okB, namB, nameB_nil] <;> omega), hx⟩
              · try simp only [decide_eq_true_eq, decide_eq_false_iff_not, Bool.not_eq_true', Bool.not_eq_false', Bool.and_eq_true, Bool.or_eq_true, Bool.and_eq_false_iff, Bool.or_eq_false_iff] at c83
                refine W.region ?_
                refine WL.c rfl (o_eq rfl rfl ?_)
                refine WL.c rfl (o_ash (show _ = Value.bool _ from rfl) ?_)
                refine WL.nil ?_
                refine W.cond rfl (fun c83 => ?_) (fun c83 => ?_)
                · try simp only [decide_eq_true_eq, decide_eq_false_iff_not, Bool.not_eq_true', Bool.not_eq_false', Bool.and_eq_true, Bool.or_eq_true, Bool.and_eq_false_iff, Bool.or_eq_false_iff] at c83
                  refine W.seq ?_
                  refine W.region ?_
                  refine WL.c rfl (o_mvh (show _ = Value.bool _ from rfl) ?_)
                  refine WL.c rfl (o_mvh (show _ = Value.bool _ from rfl) ?_)
                  refine WL.sp 1 rfl (fun g87 => ?_) (fun g87 => ?_)
                  · skip
                    refine WL.g rfl (g87) rfl (o_fa 5 TI30 rfl TI3 rfl rfl ?_)
                    refine WL.g rfl (g87) rfl (o_ld TI3 rfl rfl (cell_of hC1 rfl) ?_)
                    refine WL.g rfl (g87) rfl (o_ge rfl rfl ?_)
                    refine WL.c rfl (o_pickA rfl rfl ?_)
                    refine WL.c rfl (o_mvh (show _ = Value.bool _ from rfl) ?_)
                    refine WL.sp 6 rfl (fun g92 => ?_) (fun g92 => ?_)
                    · skip
                      refine WL.g rfl (g92) rfl (o_fa 1 TI30 rfl TI3 rfl rfl ?_)
                      refine WL.g rfl (g92) rfl (o_ld TI3 rfl rfl (cell_of hC1 rfl) ?_)
                      refine WL.g rfl (g92) rfl (o_eq rfl rfl ?_)
                      refine WL.c rfl (o_pickA rfl rfl ?_)
                      refine WL.c rfl (o_ash (show _ = Value.bool _ from rfl) ?_)
                      refine WL.nil ?_
                      refine W.ret ?_
                      refine ret1v rfl (show _ = Value.bool _ from rfl) ?_
                      exact ⟨congrArg Value.bool (by rw [Bool.eq_iff_iff]; simp_all [rgtB, okB, namB, nameB_nil] <;> omega), hx⟩
                    · skip
                      refine WL.s rfl (g92) rfl ?_
                      refine WL.s rfl (g92) rfl ?_
                      refine WL.s rfl (g92) rfl ?_
                      refine WL.c rfl (o_pickF rfl (g92) ?_)
                      refine WL.c rfl (o_ash (show _ = Value.bool _ from rfl) ?_)
                      refine WL.nil ?_
                      refine W.ret ?_
                      refine ret1v rfl (show _ = Value.bool _ from rfl) ?_
                      exact ⟨congrArg Value.bool (by rw [Bool.eq_iff_iff]; simp_all [rgtB, okB, namB, nameB_nil] <;> omega), hx⟩
                  · skip
                    refine WL.s rfl (g87) rfl ?_
                    refine WL.s rfl (g87) rfl ?_
                    refine WL.s rfl (g87) rfl ?_
                    refine WL.c rfl (o_pickF rfl (g87) ?_)
                    refine WL.c rfl (o_mvh (show _ = Value.bool _ from rfl) ?_)
                    refine WL.s rfl (rfl) rfl ?_
                    refine WL.s rfl (rfl) rfl ?_
                    refine WL.s rfl (rfl) rfl ?_
                    refine WL.c rfl (o_pickF rfl (rfl) ?_)
                    refine WL.c rfl (o_ash (show _ = Value.bool _ from rfl) ?_)
                    refine WL.nil ?_
                    refine W.ret ?_
                    refine ret1v rfl (show _ = Value.bool _ from rfl) ?_
                    exact ⟨congrArg Value.bool (by rw [Bool.eq_iff_iff]; simp_all [rgtB, okB, namB, nameB_nil] <;> omega), hx⟩
                · try simp only [decide_eq_true_eq, decide_eq_false_iff_not, Bool.not_eq_true', Bool.not_eq_false', Bool.and_eq_true, Bool.or_eq_true, Bool.and_eq_false_iff, Bool.or_eq_false_iff] at c83
                  refine W.seq ?_
                  refine W.region ?_
                  refine WL.c rfl (o_eq rfl rfl ?_)
                  refine WL.c rfl (o_ash (show _ = Value.bool _ from rfl) ?_)
                  refine WL.nil ?_
                  refine W.cond rfl (fun c97 => ?_) (fun c97 => ?_)
                  · try simp only [decide_eq_true_eq, decide_eq_false_iff_not, Bool.not_eq_true', Bool.not_eq_false', Bool.and_eq_true, Bool.or_eq_true, Bool.and_eq_false_iff, Bool.or_eq_false_iff] at c97
                    refine W.seq ?_
                    refine W.region ?_
                    refine WL.c rfl (o_fa 2 TI30 rfl TI9 rfl rfl ?_)
                    refine WL.c rfl (o_ld TI9 rfl rfl (cell_of hC1 rfl) ?_)
                    refine WL.c rfl (o_call Try.call27 (lc rfl ln) ((rname_spec x.name _ hn).mono ?_))
                    rintro v101 w101 ⟨rfl, rfl⟩
                    refine WL.c rfl (o_mvh (show _ = Value.bool _ from rfl) ?_)
                    refine WL.sp 3 rfl (fun g102 => ?_) (fun g102 => ?_)
                    · skip
                      refine WL.g rfl (g102) rfl (o_fa 5 TI30 rfl TI3 rfl rfl ?_)
                      refine WL.g rfl (g102) rfl (o_ld TI3 rfl rfl (cell_of hC1 rfl) ?_)
                      refine WL.g rfl (g102) rfl (o_eq rfl rfl ?_)
                      refine WL.c rfl (o_pickA rfl rfl ?_)
                      refine WL.c rfl (o_mvh (show _ = Value.bool _ from rfl) ?_)
                      refine WL.sp 8 rfl (fun g107 => ?_) (fun g107 => ?_)
                      · skip
                        refine WL.g rfl (g107) rfl (o_fa 1 TI30 rfl TI3 rfl rfl ?_)
                        refine WL.g rfl (g107) rfl (o_ld TI3 rfl rfl (cell_of hC1 rfl) ?_)
                        refine WL.g rfl (g107) rfl (o_eq rfl rfl ?_)
                        refine WL.c rfl (o_pickA rfl rfl ?_)
                        refine WL.c rfl (o_ash (show _ = Value.bool _ from rfl) ?_)
                        refine WL.nil ?_
                        refine W.ret ?_
                        refine ret1v rfl (show _ = Value.bool _ from rfl) ?_
                        exact ⟨congrArg Value.bool (by rw [Bool.eq_iff_iff]; simp_all [rgtB, okB, namB, nameB_nil] <;> omega), hx⟩
                      · skip
                        refine WL.s rfl (g107) rfl ?_
                        refine WL.s rfl (g107) rfl ?_
                        refine WL.s rfl (g107) rfl ?_
                        refine WL.c rfl (o_pickF rfl (g107) ?_)
                        refine WL.c rfl (o_ash (show _ = Value.bool _ from rfl) ?_)
                        refine WL.nil ?_
                        refine W.ret ?_
                        refine ret1v rfl (show _ = Value.bool _ from rfl) ?_
                        exact ⟨congrArg Value.bool (by rw [Bool.eq_iff_iff]; simp_all [rgtB, okB, namB, nameB_nil] <;> omega), hx⟩
                    · skip
                      refine WL.s rfl (g102) rfl ?_
                      refine WL.s rfl (g102) rfl ?_
                      refine WL.s rfl (g102) rfl ?_
                      refine WL.c rfl (o_pickF rfl (g102) ?_)
                      refine WL.c rfl (o_mvh (show _ = Value.bool _ from rfl) ?_)
                      refine WL.s rfl (rfl) rfl ?_
                      refine WL.s rfl (rfl) rfl ?_
                      refine WL.s rfl (rfl) rfl ?_
                      refine WL.c rfl (o_pickF rfl (rfl) ?_)
                      refine WL.c rfl (o_ash (show _ = Value.bool _ from rfl) ?_)
                      refine WL.nil ?_
                      refine W.ret ?_
                      refine ret1v rfl (show _ = Value.bool _ from rfl) ?_
                      exact ⟨congrArg Value.bool (by rw [Bool.eq_iff_iff]; simp_all [rgtB, okB, namB, nameB_nil] <;> omega), hx⟩
                  · try simp only [decide_eq_true_eq, decide_eq_false_iff_not, Bool.not_eq_true', Bool.not_eq_false', Bool.and_eq_true, Bool.or_eq_true, Bool.and_eq_false_iff, Bool.or_eq_false_iff] at c97
                    refine W.skip ?_
                    refine W.seq ?_
                    refine W.region ?_
                    refine WL.c rfl (o_ash (show _ = Value.bool _ from rfl) ?_)
                    refine WL.nil ?_
                    refine W.ret ?_
                    refine ret1v rfl (show _ = Value.bool _ from rfl) ?_
                    exact ⟨congrArg Value.bool (by rw [Bool.eq_iff_iff]; simp_all [rgtB, okB, namB, nameB_nil] <;> omega), hx⟩
    · try simp only [decide_eq_true_eq, decide_eq_false_iff_not, Bool.not_eq_true', Bool.not_eq_false', Bool.and_eq_true, Bool.or_eq_true, Bool.and_eq_false_iff, Bool.or_eq_false_iff] at c37
      refine W.region ?_
      refine WL.c rfl (o_eq rfl rfl ?_)
      refine WL.c rfl (o_ash (show _ = Value.bool _ from rfl) ?_)
      refine WL.nil ?_
      refine W.cond rfl (fun c37 => ?_) (fun c37 => ?_)
      · try simp only [decide_eq_true_eq, decide_eq_false_iff_not, Bool.not_eq_true', Bool.not_eq_false', Bool.and_eq_true, Bool.or_eq_true, Bool.and_eq_false_iff, Bool.or_eq_false_iff] at c37
        refine W.seq ?_
        refine W.region ?_
        refine WL.c rfl (o_mvh (show _ = Value.bool _ from rfl) ?_)
        refine WL.c rfl (o_mvh (show _ = Value.bool _ from rfl) ?_)
        refine WL.sp 1 rfl (fun g41 => ?_) (fun g41 => ?_)
        · skip
          refine WL.g rfl (g41) rfl (o_fa 5 TI30 rfl TI3 rfl rfl ?_)
          refine WL.g rfl (g41) rfl (o_ld TI3 rfl rfl (cell_of hC1 rfl) ?_)
          refine WL.g rfl (g41) rfl (o_eq rfl rfl ?_)
          refine WL.c rfl (o_pickA rfl rfl ?_)
          refine WL.c rfl (o_mvh (show _ = Value.bool _ from rfl) ?_)
          refine WL.sp 6 rfl (fun g46 => ?_) (fun g46 => ?_)
          · skip
            refine WL.g rfl (g46) rfl (o_fa 1 TI30 rfl TI3 rfl rfl ?_)
            refine WL.g rfl (g46) rfl (o_ld TI3 rfl rfl (cell_of hC1 rfl) ?_)
            refine WL.g rfl (g46) rfl (o_eq rfl rfl ?_)
            refine WL.c rfl (o_pickA rfl rfl ?_)
            refine WL.c rfl (o_ash (show _ = Value.bool _ from rfl) ?_)
            refine WL.nil ?_
            refine W.ret ?_
            refine ret1v rfl (show _ = Value.bool _ from rfl) ?_
            exact ⟨congrArg Value.bool (by rw [Bool.eq_iff_iff]; simp_all [rgtB, okB, namB, nameB_nil] <;> omega), hx⟩
          · skip
            refine WL.s rfl (g46) rfl ?_
            refine WL.s rfl (g46) rfl ?_
            refine WL.s rfl (g46) rfl ?_
            refine WL.c rfl (o_pickF rfl (g46) ?_)
            refine WL.c rfl (o_ash (show _ = Value.bool _ from rfl) ?_)
            refine WL.nil ?_
            refine W.ret ?_
            refine ret1v rfl (show _ = Value.bool _ from rfl) ?_
            exact ⟨congrArg Value.bool (by rw [Bool.eq_iff_iff]; simp_all [rgtB, okB, namB, nameB_nil] <;> omega), hx⟩
        · skip
          refine WL.s rfl (g41) rfl ?_
          refine WL.s rfl (g41) rfl ?_
          refine WL.s rfl (g41) rfl ?_
          refine WL.c rfl (o_pickF rfl (g41) ?_)
          refine WL.c rfl (o_mvh (show _ = Value.bool _ from rfl) ?_)
          refine WL.s rfl (rfl) rfl ?_
          refine WL.s rfl (rfl) rfl ?_
          refine WL.s rfl (rfl) rfl ?_
          refine WL.c rfl (o_pickF rfl (rfl) ?_)
          refine WL.c rfl (o_ash (show _ = Value.bool _ from rfl) ?_)
          refine WL.nil ?_
          refine W.ret ?_
          refine ret1v rfl (show _ = Value.bool _ from rfl) ?_
          exact ⟨congrArg Value.bool (by rw [Bool.eq_iff_iff]; simp_all [rgtB, okB, namB, nameB_nil] <;> omega), hx⟩
      · try simp only [decide_eq_true_eq, decide_eq_false_iff_not, Bool.not_eq_true', Bool.not_eq_false', Bool.and_eq_true, Bool.or_eq_true, Bool.and_eq_false_iff, Bool.or_eq_false_iff] at c37
        refine W.seq ?_
        refine W.seq ?_
        refine W.region ?_
        refine WL.c rfl (o_eq rfl rfl ?_)
        refine WL.c rfl (o_ash (show _ = Value.bool _ from rfl) ?_)
        refine WL.nil ?_
        refine W.cond rfl (fun c51 => ?_) (fun c51 => ?_)
        · try simp only [decide_eq_true_eq, decide_eq_false_iff_not, Bool.not_eq_true', Bool.not_eq_false', Bool.and_eq_true, Bool.or_eq_true, Bool.and_eq_false_iff, Bool.or_eq_false_iff] at c51
          refine W.skip ?_
          refine W.cond rfl (fun c51 => ?_) (fun c51 => ?_)
          · try simp only [decide_eq_true_eq, decide_eq_false_iff_not, Bool.not_eq_true', Bool.not_eq_false', Bool.and_eq_true, Bool.or_eq_true, Bool.and_eq_false_iff, Bool.or_eq_false_iff] at c51
            refine W.seq ?_
            refine W.region ?_
            refine WL.c rfl (o_mvh (show _ = Value.bool _ from rfl) ?_)
            refine WL.c rfl (o_mvh (show _ = Value.bool _ from rfl) ?_)
            refine WL.sp 1 rfl (fun g55 => ?_) (fun g55 => ?_)
            · skip
              refine WL.g rfl (g55) rfl (o_fa 5 TI30 rfl TI3 rfl rfl ?_)
              refine WL.g rfl (g55) rfl (o_ld TI3 rfl rfl (cell_of hC1 rfl) ?_)
              refine WL.g rfl (g55) rfl (o_eq rfl rfl ?_)
              refine WL.c rfl (o_pickA rfl rfl ?_)
              refine WL.c rfl (o_mvh (show _ = Value.bool _ from rfl) ?_)
              refine WL.sp 6 rfl (fun g60 => ?_) (fun g60 => ?_)
              · skip
                refine WL.g rfl (g60) rfl (o_fa 1 TI30 rfl TI3 rfl rfl ?_)
                refine WL.g rfl (g60) rfl (o_ld TI3 rfl rfl (cell_of hC1 rfl) ?_)
                refine WL.g rfl (g60) rfl (o_ge rfl rfl ?_)
                refine WL.c rfl (o_pickA rfl rfl ?_)
                refine WL.c rfl (o_mvh (show _ = Value.bool _ from rfl) ?_)
                refine WL.sp 11 rfl (fun g65 => ?_) (fun g65 => ?_)
                · skip
                  refine WL.g rfl (g65) rfl (o_fa 1 TI30 rfl TI3 rfl rfl ?_)
                  refine WL.g rfl (g65) rfl (o_ld TI3 rfl rfl (cell_of hC1 rfl) ?_)
                  refine WL.g rfl (g65) rfl (o_le rfl rfl ?_)
                  refine WL.c rfl (o_pickA rfl rfl ?_)
                  refine WL.c rfl (o_ash (show _ = Value.bool _ from rfl) ?_)
                  refine WL.nil ?_
                  refine W.ret ?_
                  refine ret1v rfl (show _ = Value.bool _ from rfl) ?_
                  exact ⟨congrArg Value.bool (by rw [Bool.eq_iff_iff]; simp_all [rgtB, okB, namB, nameB_nil] <;> omega), hx⟩
                · skip
                  refine WL.s rfl (g65) rfl ?_
                  refine WL.s rfl (g65) rfl ?_
                  refine WL.s rfl (g65) rfl ?_
                  refine WL.c rfl (o_pickF rfl (g65) ?_)
                  refine WL.c rfl (o_ash (show _ = Value.bool _ from rfl) ?_)
                  refine WL.nil ?_
                  refine W.ret ?_
                  refine ret1v rfl (show _ = Value.bool _ from rfl) ?_
                  exact ⟨congrArg Value.bool (by rw [Bool.eq_iff_iff]; simp_all [rgtB, okB, namB, nameB_nil] <;> omega), hx⟩
              · skip
                refine WL.s rfl (g60) rfl ?_
                refine WL.s rfl (g60) rfl ?_
                refine WL.s rfl (g60) rfl ?_
                refine WL.c rfl (o_pickF rfl (g60) ?_)
                refine WL.c rfl (o_mvh (show _ = Value.bool _ from rfl) ?_)
                refine WL.s rfl (rfl) rfl ?_
                refine WL.s rfl (rfl) rfl ?_
                refine WL.s rfl (rfl) rfl ?_
                refine WL.c rfl (o_pickF rfl (rfl) ?_)
                refine WL.c rfl (o_ash (show _ = Value.bool _ from rfl) ?_)
                refine WL.nil ?_
                refine W.ret ?_
                refine ret1v rfl (show _ = Value.bool _ from rfl) ?_
                exact ⟨congrArg Value.bool (by rw [Bool.eq_iff_iff]; simp_all [rgtB, okB, namB, nameB_nil] <;> omega), hx⟩
            · skip
              refine WL.s rfl (g55) rfl ?_
              refine WL.s rfl (g55) rfl ?_
              refine WL.s rfl (g55) rfl ?_
              refine WL.c rfl (o_pickF rfl (g55) ?_)
              refine WL.c rfl (o_mvh (show _ = Value.bool _ from rfl) ?_)
              refine WL.s rfl (rfl) rfl ?_
              refine WL.s rfl (rfl) rfl ?_
              refine WL.s rfl (rfl) rfl ?_
              refine WL.c rfl (o_pickF rfl (rfl) ?_)
              refine WL.c rfl (o_mvh (show _ = Value.bool _ from rfl) ?_)
              refine WL.s rfl (rfl) rfl ?_
              refine WL.s rfl (rfl) rfl ?_
              refine WL.s rfl (rfl) rfl ?_
              refine WL.c rfl (o_pickF rfl (rfl) ?_)
              refine WL.c rfl (o_ash (show _ = Value.bool _ from rfl) ?_)
              refine WL.nil ?_
              refine W.ret ?_
              refine ret1v rfl (show _ = Value.bool _ from rfl) ?_
              exact ⟨congrArg Value.bool (by rw [Bool.eq_iff_iff]; simp_all [rgtB, okB, namB, nameB_nil] <;> omega), hx⟩
          · try simp only [decide_eq_true_eq, decide_eq_false_iff_not, Bool.not_eq_true', Bool.not_eq_false', Bool.and_eq_true, Bool.or_eq_true, Bool.and_eq_false_iff, Bool.or_eq_false_iff] at c51
            refine W.seq ?_
            refine W.region ?_
            refine WL.c rfl (o_eq rfl rfl ?_)
            refine WL.c rfl (o_ash (show _ = Value.bool _ from rfl) ?_)
            refine WL.nil ?_
            refine W.cond rfl (fun c70 => ?_) (fun c70 => ?_)
            · try simp only [decide_eq_true_eq, decide_eq_false_iff_not, Bool.not_eq_true', Bool.not_eq_false', Bool.and_eq_true, Bool.or_eq_true, Bool.and_eq_false_iff, Bool.or_eq_false_iff] at c70
              refine W.seq ?_
              refine W.region ?_
              refine WL.c rfl (o_mvh (show _ = Value.bool _ from rfl) ?_)
              refine WL.c rfl (o_mvh (show _ = Value.bool _ from rfl) ?_)
              refine WL.sp 1 rfl (fun g73 => ?_) (fun g73 => ?_)
              · skip
                refine WL.g rfl (g73) rfl (o_fa 5 TI30 rfl TI3 rfl rfl ?_)
                refine WL.g rfl (g73) rfl (o_ld TI3 rfl rfl (cell_of hC1 rfl) ?_)
                refine WL.g rfl (g73) rfl (o_eq rfl rfl ?_)
                refine WL.c rfl (o_pickA rfl rfl ?_)
                refine WL.c rfl (o_mvh (show _ = Value.bool _ from rfl) ?_)
                refine WL.sp 6 rfl (fun g78 => ?_) (fun g78 => ?_)
                · skip
                  refine WL.g rfl (g78) rfl (o_fa 1 TI30 rfl TI3 rfl rfl ?_)
                  refine WL.g rfl (g78) rfl (o_ld TI3 rfl rfl (cell_of hC1 rfl) ?_)
                  refine WL.g rfl (g78) rfl (o_eq rfl rfl ?_)
                  refine WL.c rfl (o_pickA rfl rfl ?_)
                  refine WL.c rfl (o_ash (show _ = Value.bool _ from rfl) ?_)
                  refine WL.nil ?_
                  refine W.ret ?_
                  refine ret1v rfl (show _ = Value.bool _ from rfl) ?_
                  exact ⟨congrArg Value.bool (by rw [Bool.eq_iff_iff]; simp_all [rgtB, okB, namB, nameB_nil] <;> omega), hx⟩
                · skip
                  refine WL.s rfl (g78) rfl ?_
                  refine WL.s rfl (g78) rfl ?_
                  refine WL.s rfl (g78) rfl ?_
                  refine WL.c rfl (o_pickF rfl (g78) ?_)
                  refine WL.c rfl (o_ash (show _ = Value.bool _ from rfl) ?_)
                  refine WL.nil ?_
                  refine W.ret ?_
                  refine ret1v rfl (show _ = Value.bool _ from rfl) ?_
                  exact ⟨congrArg Value.bool (by rw [Bool.eq_iff_iff]; simp_all [rgtB, okB, namB, nameB_nil] <;> omega), hx⟩
              · skip
                refine WL.s rfl (g73) rfl ?_
                refine WL.s rfl (g73) rfl ?_
                refine WL.s rfl (g73) rfl ?_
                refine WL.c rfl (o_pickF rfl (g73) ?_)
                refine WL.c rfl (o_mvh (show _ = Value.bool _ from rfl) ?_)
                refine WL.s rfl (rfl) rfl ?_
                refine WL.s rfl (rfl) rfl ?_
                refine WL.s rfl (rfl) rfl ?_
                refine WL.c rfl (o_pickF rfl (rfl) ?_)
                refine WL.c rfl (o_ash (show _ = Value.bool _ from rfl) ?_)
                refine WL.nil ?_
                refine W.ret ?_
                refine ret1v rfl (show _ = Value.bool _ from rfl) ?_
                exact ⟨congrArg Value.bool (by rw [Bool.eq_iff_iff]; simp_all [rgtB, okB, namB, nameB_nil] <;> omega), hx⟩
            · try simp only [decide_eq_true_eq, decide_eq_false_iff_not, Bool.not_eq_true', Bool.not_eq_false', Bool.and_eq_true, Bool.or_eq_true, Bool.and_eq_false_iff, Bool.or_eq_false_iff] at c70
              refine W.seq ?_
              refine W.seq ?_
              refine W.region ?_
              refine WL.c rfl (o_eq rfl rfl ?_)
              refine WL.c rfl (o_ash (show _ = Value.bool _ from rfl) ?_)
              refine WL.nil ?_
              refine W.cond rfl (fun c83 => ?_) (fun c83 => ?_)
              · try simp only [decide_eq_true_eq, decide_eq_false_iff_not, Bool.not_eq_true', Bool.not_eq_false', Bool.and_eq_true, Bool.or_eq_true, Bool.and_eq_false_iff, Bool.or_eq_false_iff] at c83
                refine W.skip ?_
                refine W.cond rfl (fun c83 => ?_) (fun c83 => ?_)
                · try simp only [decide_eq_true_eq, decide_eq_false_iff_not, Bool.not_eq_true', Bool.not_eq_false', Bool.and_eq_true, Bool.or_eq_true, Bool.and_eq_false_iff, Bool.or_eq_false_iff] at c83
                  refine W.seq ?_
                  refine W.region ?_
                  refine WL.c rfl (o_mvh (show _ = Value.bool _ from rfl) ?_)
                  refine WL.c rfl (o_mvh (show _ = Value.bool _ from rfl) ?_)
                  refine WL.sp 1 rfl (fun g87 => ?_) (fun g87 => ?_)
                  · skip
                    refine WL.g rfl (g87) rfl (o_fa 5 TI30 rfl TI3 rfl rfl ?_)
                    refine WL.g rfl (g87) rfl (o_ld TI3 rfl rfl (cell_of hC1 rfl) ?_)
                    refine WL.g rfl (g87) rfl (o_ge rfl rfl ?_)
                    refine WL.c rfl (o_pickA rfl rfl ?_)
                    refine WL.c rfl (o_mvh (show _ = Value.bool _ from rfl) ?_)
                    refine WL.sp 6 rfl (fun g92 => ?_) (fun g92 => ?_)
                    · skip
                      refine WL.g rfl (g92) rfl (o_fa 1 TI30 rfl TI3 rfl rfl ?_)
                      refine WL.g rfl (g92) rfl (o_ld TI3 rfl rfl (cell_of hC1 rfl) ?_)
                      refine WL.g rfl (g92) rfl (o_eq rfl rfl ?_)
                      refine WL.c rfl (o_pickA rfl rfl ?_)
                      refine WL.c rfl (o_ash (show _ = Value.bool _ from rfl) ?_)
                      refine WL.nil ?_
                      refine W.ret ?_
                      refine ret1v rfl (show _ = Value.bool _ from rfl) ?_
                      exact ⟨congrArg Value.bool (by rw [Bool.eq_iff_iff]; simp_all [rgtB, okB, namB, nameB_nil] <;> omega), hx⟩
                    · skip
                      refine WL.s rfl (g92) rfl ?_
                      refine WL.s rfl (g92) rfl ?_
                      refine WL.s rfl (g92) rfl ?_
                      refine WL.c rfl (o_pickF rfl (g92) ?_)
                      refine WL.c rfl (o_ash (show _ = Value.bool _ from rfl) ?_)
                      refine WL.nil ?_
                      refine W.ret ?_
                      refine ret1v rfl (show _ = Value.bool _ from rfl) ?_
                      exact ⟨congrArg Value.bool (by rw [Bool.eq_iff_iff]; simp_all [rgtB, okB, namB, nameB_nil] <;> omega), hx⟩
                  · skip
                    refine WL.s rfl (g87) rfl ?_
                    refine WL.s rfl (g87) rfl ?_
                    refine WL.s rfl (g87) rfl ?_
                    refine WL.c rfl (o_pickF rfl (g87) ?_)
                    refine WL.c rfl (o_mvh (show _ = Value.bool _ from rfl) ?_)
                    refine WL.s rfl (rfl) rfl ?_
                    refine WL.s rfl (rfl) rfl ?_
                    refine WL.s rfl (rfl) rfl ?_
                    refine WL.c rfl (o_pickF rfl (rfl) ?_)
                    refine WL.c rfl (o_ash (show _ = Value.bool _ from rfl) ?_)
                    refine WL.nil ?_
                    refine W.ret ?_
                    refine ret1v rfl (show _ = Value.bool _ from rfl) ?_
                    exact ⟨congrArg Value.bool (by rw [Bool.eq_iff_iff]; simp_all [rgtB, okB, namB, nameB_nil] <;> omega), hx⟩
                · try simp only [decide_eq_true_eq, decide_eq_false_iff_not, Bool.not_eq_true', Bool.not_eq_false', Bool.and_eq_true, Bool.or_eq_true, Bool.and_eq_false_iff, Bool.or_eq_false_iff] at c83
                  refine W.seq ?_
                  refine W.region ?_
                  refine WL.c rfl (o_eq rfl rfl ?_)
                  refine WL.c rfl (o_ash (show _ = Value.bool _ from rfl) ?_)
                  refine WL.nil ?_
                  refine W.cond rfl (fun c97 => ?_) (fun c97 => ?_)
                  · try simp only [decide_eq_true_eq, decide_eq_false_iff_not, Bool.not_eq_true', Bool.not_eq_false', Bool.and_eq_true, Bool.or_eq_true, Bool.and_eq_false_iff, Bool.or_eq_false_iff] at c97
                    refine W.seq ?_
                    refine W.region ?_
                    refine WL.c rfl (o_fa 2 TI30 rfl TI9 rfl rfl ?_)
                    refine WL.c rfl (o_ld TI9 rfl rfl (cell_of hC1 rfl) ?_)
                    refine WL.c rfl (o_call Try.call27 (lc rfl ln) ((rname_spec x.name _ hn).mono ?_))
                    rintro v101 w101 ⟨rfl, rfl⟩
                    refine WL.c rfl (o_mvh (show _ = Value.bool _ from rfl) ?_)
                    refine WL.sp 3 rfl (fun g102 => ?_) (fun g102 => ?_)
                    · skip
                      refine WL.g rfl (g102) rfl (o_fa 5 TI30 rfl TI3 rfl rfl ?_)
                      refine WL.g rfl (g102) rfl (o_ld TI3 rfl rfl (cell_of hC1 rfl) ?_)
                      refine WL.g rfl (g102) rfl (o_eq rfl rfl ?_)
                      refine WL.c rfl (o_pickA rfl rfl ?_)
                      refine WL.c rfl (o_mvh (show _ = Value.bool _ from rfl) ?_)
                      refine WL.sp 8 rfl (fun g107 => ?_) (fun g107 => ?_)
                      · skip
                        refine WL.g rfl (g107) rfl (o_fa 1 TI30 rfl TI3 rfl rfl ?_)
                        refine WL.g rfl (g107) rfl (o_ld TI3 rfl rfl (cell_of hC1 rfl) ?_)
                        refine WL.g rfl (g107) rfl (o_eq rfl rfl ?_)
                        refine WL.c rfl (o_pickA rfl rfl ?_)
                        refine WL.c rfl (o_ash (show _ = Value.bool _ from rfl) ?_)
                        refine WL.nil ?_
                        refine W.ret ?_
                        refine ret1v rfl (show _ = Value.bool _ from rfl) ?_
                        exact ⟨congrArg Value.bool (by rw [Bool.eq_iff_iff]; simp_all [rgtB, okB, namB, nameB_nil] <;> omega), hx⟩
                      · skip
                        refine WL.s rfl (g107) rfl ?_
                        refine WL.s rfl (g107) rfl ?_
                        refine WL.s rfl (g107) rfl ?_
                        refine WL.c rfl (o_pickF rfl (g107) ?_)
                        refine WL.c rfl (o_ash (show _ = Value.bool _ from rfl) ?_)
                        refine WL.nil ?_
                        refine W.ret ?_
                        refine ret1v rfl (show _ = Value.bool _ from rfl) ?_
                        exact ⟨congrArg Value.bool (by rw [Bool.eq_iff_iff]; simp_all [rgtB, okB, namB, nameB_nil] <;> omega), hx⟩
                    · skip
                      refine WL.s rfl (g102) rfl ?_
                      refine WL.s rfl (g102) rfl ?_
                      refine WL.s rfl (g102) rfl ?_
                      refine WL.c rfl (o_pickF rfl (g102) ?_)
                      refine WL.c rfl (o_mvh (show _ = Value.bool _ from rfl) ?_)
                      refine WL.s rfl (rfl) rfl ?_
                      refine WL.s rfl (rfl) rfl ?_
                      refine WL.s rfl (rfl) rfl ?_
                      refine WL.c rfl (o_pickF rfl (rfl) ?_)
                      refine WL.c rfl (o_ash (show _ = Value.bool _ from rfl) ?_)
                      refine WL.nil ?_
                      refine W.ret ?_
                      refine ret1v rfl (show _ = Value.bool _ from rfl) ?_
                      exact ⟨congrArg Value.bool (by rw [Bool.eq_iff_iff]; simp_all [rgtB, okB, namB, nameB_nil] <;> omega), hx⟩
                  · try simp only [decide_eq_true_eq, decide_eq_false_iff_not, Bool.not_eq_true', Bool.not_eq_false', Bool.and_eq_true, Bool.or_eq_true, Bool.and_eq_false_iff, Bool.or_eq_false_iff] at c97
                    refine W.skip ?_
                    refine W.seq ?_
                    refine W.region ?_
                    refine WL.c rfl (o_ash (show _ = Value.bool _ from rfl) ?_)
                    refine WL.nil ?_
                    refine W.ret ?_
                    refine ret1v rfl (show _ = Value.bool _ from rfl) ?_
                    exact ⟨congrArg Value.bool (by rw [Bool.eq_iff_iff]; simp_all [rgtB, okB, namB, nameB_nil] <;> omega), hx⟩
              · try simp only [decide_eq_true_eq, decide_eq_false_iff_not, Bool.not_eq_true', Bool.not_eq_false', Bool.and_eq_true, Bool.or_eq_true, Bool.and_eq_false_iff, Bool.or_eq_false_iff] at c83
                refine W.region ?_
                refine WL.c rfl (o_eq rfl rfl ?_)
                refine WL.c rfl (o_ash (show _ = Value.bool _ from rfl) ?_)
                refine WL.nil ?_
                refine W.cond rfl (fun c83 => ?_) (fun c83 => ?_)
                · try simp only [decide_eq_true_eq, decide_eq_false_iff_not, Bool.not_eq_true', Bool.not_eq_false', Bool.and_eq_true, Bool.or_eq_true, Bool.and_eq_false_iff, Bool.or_eq_false_iff] at c83
                  refine W.seq ?_
                  refine W.region ?_
                  refine WL.c rfl (o_mvh (show _ = Value.bool _ from rfl) ?_)
                  refine WL.c rfl (o_mvh (show _ = Value.bool _ from rfl) ?_)
                  refine WL.sp 1 rfl (fun g87 => ?_) (fun g87 => ?_)
                  · skip
                    refine WL.g rfl (g87) rfl (o_fa 5 TI30 rfl TI3 rfl rfl ?_)
                    refine WL.g rfl (g87) rfl (o_ld TI3 rfl rfl (cell_of hC1 rfl) ?_)
                    refine WL.g rfl (g87) rfl (o_ge rfl rfl ?_)
                    refine WL.c rfl (o_pickA rfl rfl ?_)
                    refine WL.c rfl (o_mvh (show _ = Value.bool _ from rfl) ?_)
                    refine WL.sp 6 rfl (fun g92 => ?_) (fun g92 => ?_)
                    · skip
                      refine WL.g rfl (g92) rfl (o_fa 1 TI30 rfl TI3 rfl rfl ?_)
                      refine WL.g rfl (g92) rfl (o_ld TI3 rfl rfl (cell_of hC1 rfl) ?_)
                      refine WL.g rfl (g92) rfl (o_eq rfl rfl ?_)
                      refine WL.c rfl (o_pickA rfl rfl ?_)
                      refine WL.c rfl (o_ash (show _ = Value.bool _ from rfl) ?_)
                      refine WL.nil ?_
                      refine W.ret ?_
                      refine ret1v rfl (show _ = Value.bool _ from rfl) ?_
                      exact ⟨congrArg Value.bool (by rw [Bool.eq_iff_iff]; simp_all [rgtB, okB, namB, nameB_nil] <;> omega), hx⟩
                    · skip
                      refine WL.s rfl (g92) rfl ?_
                      refine WL.s rfl (g92) rfl ?_
                      refine WL.s rfl (g92) rfl ?_
                      refine WL.c rfl (o_pickF rfl (g92) ?_)
                      refine WL.c rfl (o_ash (show _ = Value.bool _ from rfl) ?_)
                      refine WL.nil ?_
                      refine W.ret ?_
                      refine ret1v rfl (show _ = Value.bool _ from rfl) ?_
                      exact ⟨congrArg Value.bool (by rw [Bool.eq_iff_iff]; simp_all [rgtB, okB, namB, nameB_nil] <;> omega), hx⟩
                  · skip
                    refine WL.s rfl (g87) rfl ?_
                    refine WL.s rfl (g87) rfl ?_
                    refine WL.s rfl (g87) rfl ?_
                    refine WL.c rfl (o_pickF rfl (g87) ?_)
                    refine WL.c rfl (o_mvh (show _ = Value.bool _ from rfl) ?_)
                    refine WL.s rfl (rfl) rfl ?_
                    refine WL.s rfl (rfl) rfl ?_
                    refine WL.s rfl (rfl) rfl ?_
                    refine WL.c rfl (o_pickF rfl (rfl) ?_)
                    refine WL.c rfl (o_ash (show _ = Value.bool _ from rfl) ?_)
                    refine WL.nil ?_
                    refine W.ret ?_
                    refine ret1v rfl (show _ = Value.bool _ from rfl) ?_
                    exact ⟨congrArg Value.bool (by rw [Bool.eq_iff_iff]; simp_all [rgtB, okB, namB, nameB_nil] <;> omega), hx⟩
                · try simp only [decide_eq_true_eq, decide_eq_false_iff_not, Bool.not_eq_true', Bool.not_eq_false', Bool.and_eq_true, Bool.or_eq_true, Bool.and_eq_false_iff, Bool.or_eq_false_iff] at c83
                  refine W.seq ?_
                  refine W.region ?_
                  refine WL.c rfl (o_eq rfl rfl ?_)
                  refine WL.c rfl (o_ash (show _ = Value.bool _ from rfl) ?_)
                  refine WL.nil ?_
                  refine W.cond rfl (fun c97 => ?_) (fun c97 => ?_)
                  · try simp only [decide_eq_true_eq, decide_eq_false_iff_not, Bool.not_eq_true', Bool.not_eq_false', Bool.and_eq_true, Bool.or_eq_true, Bool.and_eq_false_iff, Bool.or_eq_false_iff] at c97
                    refine W.seq ?_
                    refine W.region ?_
                    refine WL.c rfl (o_fa 2 TI30 rfl TI9 rfl rfl ?_)
                    refine WL.c rfl (o_ld TI9 rfl rfl (cell_of hC1 rfl) ?_)
                    refine WL.c rfl (o_call Try.call27 (lc rfl ln) ((rname_spec x.name _ hn).mono ?_))
                    rintro v101 w101 ⟨rfl, rfl⟩
                    refine WL.c rfl (o_mvh (show _ = Value.bool _ from rfl) ?_)
                    refine WL.sp 3 rfl (fun g102 => ?_) (fun g102 => ?_)
                    · skip
                      refine WL.g rfl (g102) rfl (o_fa 5 TI30 rfl TI3 rfl rfl ?_)
                      refine WL.g rfl (g102) rfl (o_ld TI3 rfl rfl (cell_of hC1 rfl) ?_)
                      refine WL.g rfl (g102) rfl (o_eq rfl rfl ?_)
                      refine WL.c rfl (o_pickA rfl rfl ?_)
                      refine WL.c rfl (o_mvh (show _ = Value.bool _ from rfl) ?_)
                      refine WL.sp 8 rfl (fun g107 => ?_) (fun g107 => ?_)
                      · skip
                        refine WL.g rfl (g107) rfl (o_fa 1 TI30 rfl TI3 rfl rfl ?_)
                        refine WL.g rfl (g107) rfl (o_ld TI3 rfl rfl (cell_of hC1 rfl) ?_)
                        refine WL.g rfl (g107) rfl (o_eq rfl rfl ?_)
                        refine WL.c rfl (o_pickA rfl rfl ?_)
                        refine WL.c rfl (o_ash (show _ = Value.bool _ from rfl) ?_)
                        refine WL.nil ?_
                        refine W.ret ?_
                        refine ret1v rfl (show _ = Value.bool _ from rfl) ?_
                        exact ⟨congrArg Value.bool (by rw [Bool.eq_iff_iff]; simp_all [rgtB, okB, namB, nameB_nil] <;> omega), hx⟩
                      · skip
                        refine WL.s rfl (g107) rfl ?_
                        refine WL.s rfl (g107) rfl ?_
                        refine WL.s rfl (g107) rfl ?_
                        refine WL.c rfl (o_pickF rfl (g107) ?_)
                        refine WL.c rfl (o_ash (show _ = Value.bool _ from rfl) ?_)
                        refine WL.nil ?_
                        refine W.ret ?_
                        refine ret1v rfl (show _ = Value.bool _ from rfl) ?_
                        exact ⟨congrArg Value.bool (by rw [Bool.eq_iff_iff]; simp_all [rgtB, okB, namB, nameB_nil] <;> omega), hx⟩
                    · skip
                      refine WL.s rfl (g102) rfl ?_
                      refine WL.s rfl (g102) rfl ?_
                      refine WL.s rfl (g102) rfl ?_
                      refine WL.c rfl (o_pickF rfl (g102) ?_)
                      refine WL.c rfl (o_mvh (show _ = Value.bool _ from rfl) ?_)
                      refine WL.s rfl (rfl) rfl ?_
                      refine WL.s rfl (rfl) rfl ?_
                      refine WL.s rfl (rfl) rfl ?_
                      refine WL.c rfl (o_pickF rfl (rfl) ?_)
                      refine WL.c rfl (o_ash (show _ = Value.bool _ from rfl) ?_)
                      refine WL.nil ?_
                      refine W.ret ?_
                      refine ret1v rfl (show _ = Value.bool _ from rfl) ?_
                      exact ⟨congrArg Value.bool (by rw [Bool.eq_iff_iff]; simp_all [rgtB, okB, namB, nameB_nil] <;> omega), hx⟩
                  · try simp only [decide_eq_true_eq, decide_eq_false_iff_not, Bool.not_eq_true', Bool.not_eq_false', Bool.and_eq_true, Bool.or_eq_true, Bool.and_eq_false_iff, Bool.or_eq_false_iff] at c97
                    refine W.skip ?_
                    refine W.seq ?_
                    refine W.region ?_
                    refine WL.c rfl (o_ash (show _ = Value.bool _ from rfl) ?_)
                    refine WL.nil ?_
                    refine W.ret ?_
                    refine ret1v rfl (show _ = Value.bool _ from rfl) ?_
                    exact ⟨congrArg Value.bool (by rw [Bool.eq_iff_iff]; simp_all [rgtB, okB, namB, nameB_nil] <;> omega), hx⟩
        · try simp only [decide_eq_true_eq, decide_eq_false_iff_not, Bool.not_eq_true', Bool.not_eq_false', Bool.and_eq_true, Bool.or_eq_true, Bool.and_eq_false_iff, Bool.or_eq_false_iff] at c51
          refine W.region ?_
          refine WL.c rfl (o_eq rfl rfl ?_)
          refine WL.c rfl (o_ash (show _ = Value.bool _ from rfl) ?_)
          refine WL.nil ?_
          refine W.cond rfl (fun c51 => ?_) (fun c51 => ?_)
          · try simp only [decide_eq_true_eq, decide_eq_false_iff_not, Bool.not_eq_true', Bool.not_eq_false', Bool.and_eq_true, Bool.or_eq_true, Bool.and_eq_false_iff, Bool.or_eq_false_iff] at c51
            refine W.seq ?_
            refine W.region ?_
            refine WL.c rfl (o_mvh (show _ = Value.bool _ from rfl) ?_)
            refine WL.c rfl (o_mvh (show _ = Value.bool _ from rfl) ?_)
            refine WL.sp 1 rfl (fun g55 => ?_) (fun g55 => ?_)
            · skip
              refine WL.g rfl (g55) rfl (o_fa 5 TI30 rfl TI3 rfl rfl ?_)
              refine WL.g rfl (g55) rfl (o_ld TI3 rfl rfl (cell_of hC1 rfl) ?_)
              refine WL.g rfl (g55) rfl (o_eq rfl rfl ?_)
              refine WL.c rfl (o_pickA rfl rfl ?_)
              refine WL.c rfl (o_mvh (show _ = Value.bool _ from rfl) ?_)
              refine WL.sp 6 rfl (fun g60 => ?_) (fun g60 => ?_)
              · skip
                refine WL.g rfl (g60) rfl (o_fa 1 TI30 rfl TI3 rfl rfl ?_)
                refine WL.g rfl (g60) rfl (o_ld TI3 rfl rfl (cell_of hC1 rfl) ?_)
                refine WL.g rfl (g60) rfl (o_ge rfl rfl ?_)
                refine WL.c rfl (o_pickA rfl rfl ?_)
                refine WL.c rfl (o_mvh (show _ = Value.bool _ from rfl) ?_)
                refine WL.sp 11 rfl (fun g65 => ?_) (fun g65 => ?_)
                · skip
                  refine WL.g rfl (g65) rfl (o_fa 1 TI30 rfl TI3 rfl rfl ?_)
                  refine WL.g rfl (g65) rfl (o_ld TI3 rfl rfl (cell_of hC1 rfl) ?_)
                  refine WL.g rfl (g65) rfl (o_le rfl rfl ?_)
                  refine WL.c rfl (o_pickA rfl rfl ?_)
                  refine WL.c rfl (o_ash (show _ = Value.bool _ from rfl) ?_)
                  refine WL.nil ?_
                  refine W.ret ?_
                  refine ret1v rfl (show _ = Value.bool _ from rfl) ?_
                  exact ⟨congrArg Value.bool (by rw [Bool.eq_iff_iff]; simp_all [rgtB, okB, namB, nameB_nil] <;> omega), hx⟩
                · skip
                  refine WL.s rfl (g65) rfl ?_
                  refine WL.s rfl (g65) rfl ?_
                  refine WL.s rfl (g65) rfl ?_
                  refine WL.c rfl (o_pickF rfl (g65) ?_)
                  refine WL.c rfl (o_ash (show _ = Value.bool _ from rfl) ?_)
                  refine WL.nil ?_
                  refine W.ret ?_
                  refine ret1v rfl (show _ = Value.bool _ from rfl) ?_
                  exact ⟨congrArg Value.bool (by rw [Bool.eq_iff_iff]; simp_all [rgtB, okB, namB, nameB_nil] <;> omega), hx⟩
              · skip
                refine WL.s rfl (g60) rfl ?_
                refine WL.s rfl (g60) rfl ?_
                refine WL.s rfl (g60) rfl ?_
                refine WL.c rfl (o_pickF rfl (g60) ?_)
                refine WL.c rfl (o_mvh (show _ = Value.bool _ from rfl) ?_)
                refine WL.s rfl (rfl) rfl ?_
                refine WL.s rfl (rfl) rfl ?_
                refine WL.s rfl (rfl) rfl ?_
                refine WL.c rfl (o_pickF rfl (rfl) ?_)
                refine WL.c rfl (o_ash (show _ = Value.bool _ from rfl) ?_)
                refine WL.nil ?_
                refine W.ret ?_
                refine ret1v rfl (show _ = Value.bool _ from rfl) ?_
                exact ⟨congrArg Value.bool (by rw [Bool.eq_iff_iff]; simp_all [rgtB, okB, namB, nameB_nil] <;> omega), hx⟩
            · skip
              refine WL.s rfl (g55) rfl ?_
              refine WL.s rfl (g55) rfl ?_
              refine WL.s rfl (g55) rfl ?_
              refine WL.c rfl (o_pickF rfl (g55) ?_)
              refine WL.c rfl (o_mvh (show _ = Value.bool _ from rfl) ?_)
              refine WL.s rfl (rfl) rfl ?_
              refine WL.s rfl (rfl) rfl ?_
              refine WL.s rfl (rfl) rfl ?_
              refine WL.c rfl (o_pickF rfl (rfl) ?_)
              refine WL.c rfl (o_mvh (show _ = Value.bool _ from rfl) ?_)
              refine WL.s rfl (rfl) rfl ?_
              refine WL.s rfl (rfl) rfl ?_
              refine WL.s rfl (rfl) rfl ?_
              refine WL.c rfl (o_pickF rfl (rfl) ?_)
              refine WL.c rfl (o_ash (show _ = Value.bool _ from rfl) ?_)
              refine WL.nil ?_
              refine W.ret ?_
              refine ret1v rfl (show _ = Value.bool _ from rfl) ?_
              exact ⟨congrArg Value.bool (by rw [Bool.eq_iff_iff]; simp_all [rgtB, okB, namB, nameB_nil] <;> omega), hx⟩
          · try simp only [decide_eq_true_eq, decide_eq_false_iff_not, Bool.not_eq_true', Bool.not_eq_false', Bool.and_eq_true, Bool.or_eq_true, Bool.and_eq_false_iff, Bool.or_eq_false_iff] at c51
            refine W.seq ?_
            refine W.region ?_
            refine WL.c rfl (o_eq rfl rfl ?_)
            refine WL.c rfl (o_ash (show _ = Value.bool _ from rfl) ?_)
            refine WL.nil ?_
            refine W.cond rfl (fun c70 => ?_) (fun c70 => ?_)
            · try simp only [decide_eq_true_eq, decide_eq_false_iff_not, Bool.not_eq_true', Bool.not_eq_false', Bool.and_eq_true, Bool.or_eq_true, Bool.and_eq_false_iff, Bool.or_eq_false_iff] at c70
              refine W.seq ?_
              refine W.region ?_
              refine WL.c rfl (o_mvh (show _ = Value.bool _ from rfl) ?_)
              refine WL.c rfl (o_mvh (show _ = Value.bool _ from rfl) ?_)
              refine WL.sp 1 rfl (fun g73 => ?_) (fun g73 => ?_)
              · skip
                refine WL.g rfl (g73) rfl (o_fa 5 TI30 rfl TI3 rfl rfl ?_)
                refine WL.g rfl (g73) rfl (o_ld TI3 rfl rfl (cell_of hC1 rfl) ?_)
                refine WL.g rfl (g73) rfl (o_eq rfl rfl ?_)
                refine WL.c rfl (o_pickA rfl rfl ?_)
                refine WL.c rfl (o_mvh (show _ = Value.bool _ from rfl) ?_)
                refine WL.sp 6 rfl (fun g78 => ?_) (fun g78 => ?_)
                · skip
                  refine WL.g rfl (g78) rfl (o_fa 1 TI30 rfl TI3 rfl rfl ?_)
                  refine WL.g rfl (g78) rfl (o_ld TI3 rfl rfl (cell_of hC1 rfl) ?_)
                  refine WL.g rfl (g78) rfl (o_eq rfl rfl ?_)
                  refine WL.c rfl (o_pickA rfl rfl ?_)
                  refine WL.c rfl (o_ash (show _ = Value.bool _ from rfl) ?_)
                  refine WL.nil ?_
                  refine W.ret ?_
                  refine ret1v rfl (show _ = Value.bool _ from rfl) ?_
                  exact ⟨congrArg Value.bool (by rw [Bool.eq_iff_iff]; simp_all [rgtB, okB, namB, nameB_nil] <;> omega), hx⟩
                · skip
                  refine WL.s rfl (g78) rfl ?_
                  refine WL.s rfl (g78) rfl ?_
                  refine WL.s rfl (g78) rfl ?_
                  refine WL.c rfl (o_pickF rfl (g78) ?_)
                  refine WL.c rfl (o_ash (show _ = Value.bool _ from rfl) ?_)
                  refine WL.nil ?_
                  refine W.ret ?_
                  refine ret1v rfl (show _ = Value.bool _ from rfl) ?_
                  exact ⟨congrArg Value.bool (by rw [Bool.eq_iff_iff]; simp_all [rgtB, okB, namB, nameB_nil] <;> omega), hx⟩
              · skip
                refine WL.s rfl (g73) rfl ?_
                refine WL.s rfl (g73) rfl ?_
                refine WL.s rfl (g73) rfl ?_
                refine WL.c rfl (o_pickF rfl (g73) ?_)
                refine WL.c rfl (o_mvh (show _ = Value.bool _ from rfl) ?_)
                refine WL.s rfl (rfl) rfl ?_
                refine WL.s rfl (rfl) rfl ?_
                refine WL.s rfl (rfl) rfl ?_
                refine WL.c rfl (o_pickF rfl (rfl) ?_)
                refine WL.c rfl (o_ash (show _ = Value.bool _ from rfl) ?_)
                refine WL.nil ?_
                refine W.ret ?_
                refine ret1v rfl (show _ = Value.bool _ from rfl) ?_
                exact ⟨congrArg Value.bool (by rw [Bool.eq_iff_iff]; simp_all [rgtB, okB, namB, nameB_nil] <;> omega), hx⟩
            · try simp only [decide_eq_true_eq, decide_eq_false_iff_not, Bool.not_eq_true', Bool.not_eq_false', Bool.and_eq_true, Bool.or_eq_true, Bool.and_eq_false_iff, Bool.or_eq_false_iff] at c70
              refine W.seq ?_
              refine W.seq ?_
              refine W.region ?_
              refine WL.c rfl (o_eq rfl rfl ?_)
              refine WL.c rfl (o_ash (show _ = Value.bool _ from rfl) ?_)
              refine WL.nil ?_
              refine W.cond rfl (fun c83 => ?_) (fun c83 => ?_)
              · try simp only [decide_eq_true_eq, decide_eq_false_iff_not, Bool.not_eq_true', Bool.not_eq_false', Bool.and_eq_true, Bool.or_eq_true, Bool.and_eq_false_iff, Bool.or_eq_false_iff] at c83
                refine W.skip ?_
                refine W.cond rfl (fun c83 => ?_) (fun c83 => ?_)
                · try simp only [decide_eq_true_eq, decide_eq_false_iff_not, Bool.not_eq_true', Bool.not_eq_false', Bool.and_eq_true, Bool.or_eq_true, Bool.and_eq_false_iff, Bool.or_eq_false_iff] at c83
                  refine W.seq ?_
                  refine W.region ?_
                  refine WL.c rfl (o_mvh (show _ = Value.bool _ from rfl) ?_)
                  refine WL.c rfl (o_mvh (show _ = Value.bool _ from rfl) ?_)
                  refine WL.sp 1 rfl (fun g87 => ?_) (fun g87 => ?_)
                  · skip
                    refine WL.g rfl (g87) rfl (o_fa 5 TI30 rfl TI3 rfl rfl ?_)
                    refine WL.g rfl (g87) rfl (o_ld TI3 rfl rfl (cell_of hC1 rfl) ?_)
                    refine WL.g rfl (g87) rfl (o_ge rfl rfl ?_)
                    refine WL.c rfl (o_pickA rfl rfl ?_)
                    refine WL.c rfl (o_mvh (show _ = Value.bool _ from rfl) ?_)
                    refine WL.sp 6 rfl (fun g92 => ?_) (fun g92 => ?_)
                    · skip
                      refine WL.g rfl (g92) rfl (o_fa 1 TI30 rfl TI3 rfl rfl ?_)
                      refine WL.g rfl (g92) rfl (o_ld TI3 rfl rfl (cell_of hC1 rfl) ?_)
                      refine WL.g rfl (g92) rfl (o_eq rfl rfl ?_)
                      refine WL.c rfl (o_pickA rfl rfl ?_)
                      refine WL.c rfl (o_ash (show _ = Value.bool _ from rfl) ?_)
                      refine WL.nil ?_
                      refine W.ret ?_
                      refine ret1v rfl (show _ = Value.bool _ from rfl) ?_
                      exact ⟨congrArg Value.bool (by rw [Bool.eq_iff_iff]; simp_all [rgtB, okB, namB, nameB_nil] <;> omega), hx⟩
                    · skip
                      refine WL.s rfl (g92) rfl ?_
                      refine WL.s rfl (g92) rfl ?_
                      refine WL.s rfl (g92) rfl ?_
                      refine WL.c rfl (o_pickF rfl (g92) ?_)
                      refine WL.c rfl (o_ash (show _ = Value.bool _ from rfl) ?_)
                      refine WL.nil ?_
                      refine W.ret ?_
                      refine ret1v rfl (show _ = Value.bool _ from rfl) ?_
                      exact ⟨congrArg Value.bool (by rw [Bool.eq_iff_iff]; simp_all [rgtB, okB, namB, nameB_nil] <;> omega), hx⟩
                  · skip
                    refine WL.s rfl (g87) rfl ?_
                    refine WL.s rfl (g87) rfl ?_
                    refine WL.s rfl (g87) rfl ?_
                    refine WL.c rfl (o_pickF rfl (g87) ?_)
                    refine WL.c rfl (o_mvh (show _ = Value.bool _ from rfl) ?_)
                    refine WL.s rfl (rfl) rfl ?_
                    refine WL.s rfl (rfl) rfl ?_
                    refine WL.s rfl (rfl) rfl ?_
                    refine WL.c rfl (o_pickF rfl (rfl) ?_)
                    refine WL.c rfl (o_ash (show _ = Value.bool _ from rfl) ?_)
                    refine WL.nil ?_
                    refine W.ret ?_
                    refine ret1v rfl (show _ = Value.bool _ from rfl) ?_
                    exact ⟨congrArg Value.bool (by rw [Bool.eq_iff_iff]; simp_all [rgtB, okB, namB, nameB_nil] <;> omega), hx⟩
                · try simp only [decide_eq_true_eq, decide_eq_false_iff_not, Bool.not_eq_true', Bool.not_eq_false', Bool.and_eq_true, Bool.or_eq_true, Bool.and_eq_false_iff, Bool.or_eq_false_iff] at c83
                  refine W.seq ?_
                  refine W.region ?_
                  refine WL.c rfl (o_eq rfl rfl ?_)
                  refine WL.c rfl (o_ash (show _ = Value.bool _ from rfl) ?_)
                  refine WL.nil ?_
                  refine W.cond rfl (fun c97 => ?_) (fun c97 => ?_)
                  · try simp only [decide_eq_true_eq, decide_eq_false_iff_not, Bool.not_eq_true', Bool.not_eq_false', Bool.and_eq_true, Bool.or_eq_true, Bool.and_eq_false_iff, Bool.or_eq_false_iff] at c97
                    refine W.seq ?_
                    refine W.region ?_
                    refine WL.c rfl (o_fa 2 TI30 rfl TI9 rfl rfl ?_)
                    refine WL.c rfl (o_ld TI9 rfl rfl (cell_of hC1 rfl) ?_)
                    refine WL.c rfl (o_call Try.call27 (lc rfl ln) ((rname_spec x.name _ hn).mono ?_))
                    rintro v101 w101 ⟨rfl, rfl⟩
                    refine WL.c rfl (o_mvh (show _ = Value.bool _ from rfl) ?_)
                    refine WL.sp 3 rfl (fun g102 => ?_) (fun g102 => ?_)
                    · skip
                      refine WL.g rfl (g102) rfl (o_fa 5 TI30 rfl TI3 rfl rfl ?_)
                      refine WL.g rfl (g102) rfl (o_ld TI3 rfl rfl (cell_of hC1 rfl) ?_)
                      refine WL.g rfl (g102) rfl (o_eq rfl rfl ?_)
                      refine WL.c rfl (o_pickA rfl rfl ?_)
                      refine WL.c rfl (o_mvh (show _ = Value.bool _ from rfl) ?_)
                      refine WL.sp 8 rfl (fun g107 => ?_) (fun g107 => ?_)
                      · skip
                        refine WL.g rfl (g107) rfl (o_fa 1 TI30 rfl TI3 rfl rfl ?_)
                        refine WL.g rfl (g107) rfl (o_ld TI3 rfl rfl (cell_of hC1 rfl) ?_)
                        refine WL.g rfl (g107) rfl (o_eq rfl rfl ?_)
                        refine WL.c rfl (o_pickA rfl rfl ?_)
                        refine WL.c rfl (o_ash (show _ = Value.bool _ from rfl) ?_)
                        refine WL.nil ?_
                        refine W.ret ?_
                        refine ret1v rfl (show _ = Value.bool _ from rfl) ?_
                        exact ⟨congrArg Value.bool (by rw [Bool.eq_iff_iff]; simp_all [rgtB, okB, namB, nameB_nil] <;> omega), hx⟩
                      · skip
                        refine WL.s rfl (g107) rfl ?_
                        refine WL.s rfl (g107) rfl ?_
                        refine WL.s rfl (g107) rfl ?_
                        refine WL.c rfl (o_pickF rfl (g107) ?_)
                        refine WL.c rfl (o_ash (show _ = Value.bool _ from rfl) ?_)
                        refine WL.nil ?_
                        refine W.ret ?_
                        refine ret1v rfl (show _ = Value.bool _ from rfl) ?_
                        exact ⟨congrArg Value.bool (by rw [Bool.eq_iff_iff]; simp_all [rgtB, okB, namB, nameB_nil] <;> omega), hx⟩
                    · skip
                      refine WL.s rfl (g102) rfl ?_
                      refine WL.s rfl (g102) rfl ?_
                      refine WL.s rfl (g102) rfl ?_
                      refine WL.c rfl (o_pickF rfl (g102) ?_)
                      refine WL.c rfl (o_mvh (show _ = Value.bool _ from rfl) ?_)
                      refine WL.s rfl (rfl) rfl ?_
                      refine WL.s rfl (rfl) rfl ?_
                      refine WL.s rfl (rfl) rfl ?_
                      refine WL.c rfl (o_pickF rfl (rfl) ?_)
                      refine WL.c rfl (o_ash (show _ = Value.bool _ from rfl) ?_)
                      refine WL.nil ?_
                      refine W.ret ?_
                      refine ret1v rfl (show _ = Value.bool _ from rfl) ?_
                      exact ⟨congrArg Value.bool (by rw [Bool.eq_iff_iff]; simp_all [rgtB, okB, namB, nameB_nil] <;> omega), hx⟩
                  · try simp only [decide_eq_true_eq, decide_eq_false_iff_not, Bool.not_eq_true', Bool.not_eq_false', Bool.and_eq_true, Bool.or_eq_true, Bool.and_eq_false_iff, Bool.or_eq_false_iff] at c97
                    refine W.skip ?_
                    refine W.seq ?_
                    refine W.region ?_
                    refine WL.c rfl (o_ash (show _ = Value.bool _ from rfl) ?_)
                    refine WL.nil ?_
                    refine W.ret ?_
                    refine ret1v rfl (show _ = Value.bool _ from rfl) ?_
                    exact ⟨congrArg Value.bool (by rw [Bool.eq_iff_iff]; simp_all [rgtB, okB, namB, nameB_nil] <;> omega), hx⟩
              · try simp only [decide_eq_true_eq, decide_eq_false_iff_not, Bool.not_eq_true', Bool.not_eq_false', Bool.and_eq_true, Bool.or_eq_true, Bool.and_eq_false_iff, Bool.or_eq_false_iff] at c83
                refine W.region ?_
                refine WL.c rfl (o_eq rfl rfl ?_)
                refine WL.c rfl (o_ash (show _ = Value.bool _ from rfl) ?_)
                refine WL.nil ?_
                refine W.cond rfl (fun c83 => ?_) (fun c83 => ?_)
                · try simp only [decide_eq_true_eq, decide_eq_false_iff_not, Bool.not_eq_true', Bool.not_eq_false', Bool.and_eq_true, Bool.or_eq_true, Bool.and_eq_false_iff, Bool.or_eq_false_iff] at c83
                  refine W.seq ?_
                  refine W.region ?_
                  refine WL.c rfl (o_mvh (show _ = Value.bool _ from rfl) ?_)
                  refine WL.c rfl (o_mvh (show _ = Value.bool _ from rfl) ?_)
                  refine WL.sp 1 rfl (fun g87 => ?_) (fun g87 => ?_)
                  · skip
                    refine WL.g rfl (g87) rfl (o_fa 5 TI30 rfl TI3 rfl rfl ?_)
                    refine WL.g rfl (g87) rfl (o_ld TI3 rfl rfl (cell_of hC1 rfl) ?_)
                    refine WL.g rfl (g87) rfl (o_ge rfl rfl ?_)
                    refine WL.c rfl (o_pickA rfl rfl ?_)
                    refine WL.c rfl (o_mvh (show _ = Value.bool _ from rfl) ?_)
                    refine WL.sp 6 rfl (fun g92 => ?_) (fun g92 => ?_)
                    · skip
                      refine WL.g rfl (g92) rfl (o_fa 1 TI30 rfl TI3 rfl rfl ?_)
                      refine WL.g rfl (g92) rfl (o_ld TI3 rfl rfl (cell_of hC1 rfl) ?_)
                      refine WL.g rfl (g92) rfl (o_eq rfl rfl ?_)
                      refine WL.c rfl (o_pickA rfl rfl ?_)
                      refine WL.c rfl (o_ash (show _ = Value.bool _ from rfl) ?_)
                      refine WL.nil ?_
                      refine W.ret ?_
                      refine ret1v rfl (show _ = Value.bool _ from rfl) ?_
                      exact ⟨congrArg Value.bool (by rw [Bool.eq_iff_iff]; simp_all [rgtB, okB, namB, nameB_nil] <;> omega), hx⟩
                    · skip
                      refine WL.s rfl (g92) rfl ?_
                      refine WL.s rfl (g92) rfl ?_
                      refine WL.s rfl (g92) rfl ?_
                      refine WL.c rfl (o_pickF rfl (g92) ?_)
                      refine WL.c rfl (o_ash (show _ = Value.bool _ from rfl) ?_)
                      refine WL.nil ?_
                      refine W.ret ?_
                      refine ret1v rfl (show _ = Value.bool _ from rfl) ?_
                      exact ⟨congrArg Value.bool (by rw [Bool.eq_iff_iff]; simp_all [rgtB, okB, namB, nameB_nil] <;> omega), hx⟩
                  · skip
                    refine WL.s rfl (g87) rfl ?_
                    refine WL.s rfl (g87) rfl ?_
                    refine WL.s rfl (g87) rfl ?_
                    refine WL.c rfl (o_pickF rfl (g87) ?_)
                    refine WL.c rfl (o_mvh (show _ = Value.bool _ from rfl) ?_)
                    refine WL.s rfl (rfl) rfl ?_
                    refine WL.s rfl (rfl) rfl ?_
                    refine WL.s rfl (rfl) rfl ?_
                    refine WL.c rfl (o_pickF rfl (rfl) ?_)
                    refine WL.c rfl (o_ash (show _ = Value.bool _ from rfl) ?_)
                    refine WL.nil ?_
                    refine W.ret ?_
                    refine ret1v rfl (show _ = Value.bool _ from rfl) ?_
                    exact ⟨congrArg Value.bool (by rw [Bool.eq_iff_iff]; simp_all [rgtB, okB, namB, nameB_nil] <;> omega), hx⟩
                · try simp only [decide_eq_true_eq, decide_eq_false_iff_not, Bool.not_eq_true', Bool.not_eq_false', Bool.and_eq_true, Bool.or_eq_true, Bool.and_eq_false_iff, Bool.or_eq_false_iff] at c83
                  refine W.seq ?_
                  refine W.region ?_
                  refine WL.c rfl (o_eq rfl rfl ?_)
                  refine WL.c rfl (o_ash (show _ = Value.bool _ from rfl) ?_)
                  refine WL.nil ?_
                  refine W.cond rfl (fun c97 => ?_) (fun c97 => ?_)
                  · try simp only [decide_eq_true_eq, decide_eq_false_iff_not, Bool.not_eq_true', Bool.not_eq_false', Bool.and_eq_true, Bool.or_eq_true, Bool.and_eq_false_iff, Bool.or_eq_false_iff] at c97
                    refine W.seq ?_
                    refine W.region ?_
                    refine WL.c rfl (o_fa 2 TI30 rfl TI9 rfl rfl ?_)
                    refine WL.c rfl (o_ld TI9 rfl rfl (cell_of hC1 rfl) ?_)
                    refine WL.c rfl (o_call Try.call27 (lc rfl ln) ((rname_spec x.name _ hn).mono ?_))
                    rintro v101 w101 ⟨rfl, rfl⟩
                    refine WL.c rfl (o_mvh (show _ = Value.bool _ from rfl) ?_)
                    refine WL.sp 3 rfl (fun g102 => ?_) (fun g102 => ?_)
                    · skip
                      refine WL.g rfl (g102) rfl (o_fa 5 TI30 rfl TI3 rfl rfl ?_)
                      refine WL.g rfl (g102) rfl (o_ld TI3 rfl rfl (cell_of hC1 rfl) ?_)
                      refine WL.g rfl (g102) rfl (o_eq rfl rfl ?_)
                      refine WL.c rfl (o_pickA rfl rfl ?_)
                      refine WL.c rfl (o_mvh (show _ = Value.bool _ from rfl) ?_)
                      refine WL.sp 8 rfl (fun g107 => ?_) (fun g107 => ?_)
                      · skip
                        refine WL.g rfl (g107) rfl (o_fa 1 TI30 rfl TI3 rfl rfl ?_)
                        refine WL.g rfl (g107) rfl (o_ld TI3 rfl rfl (cell_of hC1 rfl) ?_)
                        refine WL.g rfl (g107) rfl (o_eq rfl rfl ?_)
                        refine WL.c rfl (o_pickA rfl rfl ?_)
                        refine WL.c rfl (o_ash (show _ = Value.bool _ from rfl) ?_)
                        refine WL.nil ?_
                        refine W.ret ?_
                        refine ret1v rfl (show _ = Value.bool _ from rfl) ?_
                        exact ⟨congrArg Value.bool (by rw [Bool.eq_iff_iff]; simp_all [rgtB, okB, namB, nameB_nil] <;> omega), hx⟩
                      · skip
                        refine WL.s rfl (g107) rfl ?_
                        refine WL.s rfl (g107) rfl ?_
                        refine WL.s rfl (g107) rfl ?_
                        refine WL.c rfl (o_pickF rfl (g107) ?_)
                        refine WL.c rfl (o_ash (show _ = Value.bool _ from rfl) ?_)
                        refine WL.nil ?_
                        refine W.ret ?_
                        refine ret1v rfl (show _ = Value.bool _ from rfl) ?_
                        exact ⟨congrArg Value.bool (by rw [Bool.eq_iff_iff]; simp_all [rgtB, okB, namB, nameB_nil] <;> omega), hx⟩
                    · skip
                      refine WL.s rfl (g102) rfl ?_
                      refine WL.s rfl (g102) rfl ?_
                      refine WL.s rfl (g102) rfl ?_
                      refine WL.c rfl (o_pickF rfl (g102) ?_)
                      refine WL.c rfl (o_mvh (show _ = Value.bool _ from rfl) ?_)
                      refine WL.s rfl (rfl) rfl ?_
                      refine WL.s rfl (rfl) rfl ?_
                      refine WL.s rfl (rfl) rfl ?_
                      refine WL.c rfl (o_pickF rfl (rfl) ?_)
                      refine WL.c rfl (o_ash (show _ = Value.bool _ from rfl) ?_)
                      refine WL.nil ?_
                      refine W.ret ?_
                      refine ret1v rfl (show _ = Value.bool _ from rfl) ?_
                      exact ⟨congrArg Value.bool (by rw [Bool.eq_iff_iff]; simp_all [rgtB, okB, namB, nameB_nil] <;> omega), hx⟩
                  · try simp only [decide_eq_true_eq, decide_eq_false_iff_not, Bool.not_eq_true', Bool.not_eq_false', Bool.and_eq_true, Bool.or_eq_true, Bool.and_eq_false_iff, Bool.or_eq_false_iff] at c97
                    refine W.skip ?_
                    refine W.seq ?_
                    refine W.region ?_
                    refine WL.c rfl (o_ash (show _ = Value.bool _ from rfl) ?_)
                    refine WL.nil ?_
                    refine W.ret ?_
                    refine ret1v rfl (show _ = Value.bool _ from rfl) ?_
                    exact ⟨congrArg Value.bool (by rw [Bool.eq_iff_iff]; simp_all [rgtB, okB, namB, nameB_nil] <;> omega), hx⟩
theorem placed_spec (x : Ex) (above : Int) (w0 : World) (hl : x.label.length ≤ 9223372036854775807) : Ca Try.prog 53 #[.agg (exV x).toArray, .int .i64 above] w0 (fun v w' => v = .bool (plcB x above) ∧ Ext w0 w') := by
  refine Ca.of Try.func53 Try.ntmps53 rfl rfl ?_
  refine W.seq ?_
  refine W.region ?_
  refine WL.c rfl (o_boxB rfl ?_)
  intro w1 hC1 hx hs1
  obtain ⟨c1, hc1⟩ : ∃ c, c = w0.heap.size := ⟨_, rfl⟩
  rw [← hc1] at hC1 ⊢
  replace hC1 : w1.heap[c1]? = some (.cells (exV x).toArray 30 (0, 0)) := hC1
  refine WL.c rfl (o_ash (show _ = Value.bool _ from rfl) ?_)
  refine WL.nil ?_
  refine W.seq ?_
  refine W.region ?_
  refine WL.c rfl (o_fa 3 TI30 rfl TI9 rfl rfl ?_)
  refine WL.c rfl (o_ld TI9 rfl rfl (cell_of hC1 rfl) ?_)
  refine WL.c rfl (o_eqT rfl rfl ?_)
  refine WL.c rfl (o_ash (show _ = Value.bool _ from rfl) ?_)
  refine WL.nil ?_
  refine W.seq ?_
  refine W.region ?_
  refine WL.c rfl (o_fa 4 TI30 rfl TI3 rfl rfl ?_)
  refine WL.c rfl (o_ld TI3 rfl rfl (cell_of hC1 rfl) ?_)
  refine WL.c rfl (o_eq rfl rfl ?_)
  refine WL.c rfl (o_ash (show _ = Value.bool _ from rfl) ?_)
  refine WL.nil ?_
  refine W.seq ?_
  refine W.seq ?_
  refine W.region ?_
  refine WL.c rfl (o_mvh (show _ = Value.int _ _ from rfl) ?_)
  refine WL.c rfl (o_eq rfl rfl ?_)
  refine WL.nil ?_
  refine W.cond rfl (fun c14 => ?_) (fun c14 => ?_)
  · try simp only [decide_eq_true_eq, decide_eq_false_iff_not, Bool.not_eq_true', Bool.not_eq_false', Bool.and_eq_true, Bool.or_eq_true, Bool.and_eq_false_iff, Bool.or_eq_false_iff] at c14
    refine W.region ?_
    refine WL.c rfl (o_fa 3 TI30 rfl TI9 rfl rfl ?_)
    refine WL.c rfl (o_ld TI9 rfl rfl (cell_of hC1 rfl) ?_)
    refine WL.c rfl (o_call Try.call27 (lc rfl ln) ((rname_spec x.label _ hl).mono ?_))
    rintro v17 w17 ⟨rfl, rfl⟩
    refine WL.c rfl (o_ash (show _ = Value.bool _ from rfl) ?_)
    refine WL.nil ?_
    refine W.seq ?_
    refine W.seq ?_
    refine W.region ?_
    refine WL.c rfl (o_mvh (show _ = Value.int _ _ from rfl) ?_)
    refine WL.c rfl (o_eq rfl rfl ?_)
    refine WL.nil ?_
    refine W.cond rfl (fun c19 => ?_) (fun c19 => ?_)
    · try simp only [decide_eq_true_eq, decide_eq_false_iff_not, Bool.not_eq_true', Bool.not_eq_false', Bool.and_eq_true, Bool.or_eq_true, Bool.and_eq_false_iff, Bool.or_eq_false_iff] at c19
      refine W.region ?_
      refine WL.c rfl (o_fa 4 TI30 rfl TI3 rfl rfl ?_)
      refine WL.c rfl (o_ld TI3 rfl rfl (cell_of hC1 rfl) ?_)
      refine WL.c rfl (o_ge rfl rfl ?_)
      refine WL.c rfl (o_mvh (show _ = Value.bool _ from rfl) ?_)
      refine WL.sp 3 rfl (fun g23 => ?_) (fun g23 => ?_)
      · skip
        refine WL.g rfl (g23) rfl (o_fa 4 TI30 rfl TI3 rfl rfl ?_)
        refine WL.g rfl (g23) rfl (o_ld TI3 rfl rfl (cell_of hC1 rfl) ?_)
        refine WL.g rfl (g23) rfl (o_le rfl rfl ?_)
        refine WL.c rfl (o_pickA rfl rfl ?_)
        refine WL.c rfl (o_ash (show _ = Value.bool _ from rfl) ?_)
        refine WL.nil ?_
        refine W.seq ?_
        refine W.region ?_
        refine WL.c rfl (o_mvh (show _ = Value.bool _ from rfl) ?_)
        refine WL.c rfl (o_mvh (show _ = Value.bool _ from rfl) ?_)
        refine WL.sp 1 rfl (fun g29 => ?_) (fun g29 => ?_)
        · skip
          refine WL.g rfl (g29) rfl (o_mvh (show _ = Value.bool _ from rfl) ?_)
          refine WL.c rfl (o_pickA rfl rfl ?_)
          refine WL.c rfl (o_ash (show _ = Value.bool _ from rfl) ?_)
          refine WL.nil ?_
          refine W.ret ?_
          refine ret1v rfl (show _ = Value.bool _ from rfl) ?_
          exact ⟨congrArg Value.bool (by rw [Bool.eq_iff_iff]; simp_all [plcB, labB, tagB] <;> omega), hx⟩
        · skip
          refine WL.s rfl (g29) rfl ?_
          refine WL.c rfl (o_pickF rfl (g29) ?_)
          refine WL.c rfl (o_ash (show _ = Value.bool _ from rfl) ?_)
          refine WL.nil ?_
          refine W.ret ?_
          refine ret1v rfl (show _ = Value.bool _ from rfl) ?_
          exact ⟨congrArg Value.bool (by rw [Bool.eq_iff_iff]; simp_all [plcB, labB, tagB] <;> omega), hx⟩
      · skip
        refine WL.s rfl (g23) rfl ?_
        refine WL.s rfl (g23) rfl ?_
        refine WL.s rfl (g23) rfl ?_
        refine WL.c rfl (o_pickF rfl (g23) ?_)
        refine WL.c rfl (o_ash (show _ = Value.bool _ from rfl) ?_)
        refine WL.nil ?_
        refine W.seq ?_
        refine W.region ?_
        refine WL.c rfl (o_mvh (show _ = Value.bool _ from rfl) ?_)
        refine WL.c rfl (o_mvh (show _ = Value.bool _ from rfl) ?_)
        refine WL.sp 1 rfl (fun g29 => ?_) (fun g29 => ?_)
        · skip
          refine WL.g rfl (g29) rfl (o_mvh (show _ = Value.bool _ from rfl) ?_)
          refine WL.c rfl (o_pickA rfl rfl ?_)
          refine WL.c rfl (o_ash (show _ = Value.bool _ from rfl) ?_)
          refine WL.nil ?_
          refine W.ret ?_
          refine ret1v rfl (show _ = Value.bool _ from rfl) ?_
          exact ⟨congrArg Value.bool (by rw [Bool.eq_iff_iff]; simp_all [plcB, labB, tagB] <;> omega), hx⟩
        · skip
          refine WL.s rfl (g29) rfl ?_
          refine WL.c rfl (o_pickF rfl (g29) ?_)
          refine WL.c rfl (o_ash (show _ = Value.bool _ from rfl) ?_)
          refine WL.nil ?_
          refine W.ret ?_
          refine ret1v rfl (show _ = Value.bool _ from rfl) ?_
          exact ⟨congrArg Value.bool (by rw [Bool.eq_iff_iff]; simp_all [plcB, labB, tagB] <;> omega), hx⟩
    · try simp only [decide_eq_true_eq, decide_eq_false_iff_not, Bool.not_eq_true', Bool.not_eq_false', Bool.and_eq_true, Bool.or_eq_true, Bool.and_eq_false_iff, Bool.or_eq_false_iff] at c19
      refine W.skip ?_
      refine W.seq ?_
      refine W.region ?_
      refine WL.c rfl (o_mvh (show _ = Value.bool _ from rfl) ?_)
      refine WL.c rfl (o_mvh (show _ = Value.bool _ from rfl) ?_)
      refine WL.sp 1 rfl (fun g29 => ?_) (fun g29 => ?_)
      · skip
        refine WL.g rfl (g29) rfl (o_mvh (show _ = Value.bool _ from rfl) ?_)
        refine WL.c rfl (o_pickA rfl rfl ?_)
        refine WL.c rfl (o_ash (show _ = Value.bool _ from rfl) ?_)
        refine WL.nil ?_
        refine W.ret ?_
        refine ret1v rfl (show _ = Value.bool _ from rfl) ?_
        exact ⟨congrArg Value.bool (by rw [Bool.eq_iff_iff]; simp_all [plcB, labB, tagB] <;> omega), hx⟩
      · skip
        refine WL.s rfl (g29) rfl ?_
        refine WL.c rfl (o_pickF rfl (g29) ?_)
        refine WL.c rfl (o_ash (show _ = Value.bool _ from rfl) ?_)
        refine WL.nil ?_
        refine W.ret ?_
        refine ret1v rfl (show _ = Value.bool _ from rfl) ?_
        exact ⟨congrArg Value.bool (by rw [Bool.eq_iff_iff]; simp_all [plcB, labB, tagB] <;> omega), hx⟩
  · try simp only [decide_eq_true_eq, decide_eq_false_iff_not, Bool.not_eq_true', Bool.not_eq_false', Bool.and_eq_true, Bool.or_eq_true, Bool.and_eq_false_iff, Bool.or_eq_false_iff] at c14
    refine W.skip ?_
    refine W.seq ?_
    refine W.seq ?_
    refine W.region ?_
    refine WL.c rfl (o_mvh (show _ = Value.int _ _ from rfl) ?_)
    refine WL.c rfl (o_eq rfl rfl ?_)
    refine WL.nil ?_
    refine W.cond rfl (fun c19 => ?_) (fun c19 => ?_)
    · try simp only [decide_eq_true_eq, decide_eq_false_iff_not, Bool.not_eq_true', Bool.not_eq_false', Bool.and_eq_true, Bool.or_eq_true, Bool.and_eq_false_iff, Bool.or_eq_false_iff] at c19
      refine W.region ?_
      refine WL.c rfl (o_fa 4 TI30 rfl TI3 rfl rfl ?_)
      refine WL.c rfl (o_ld TI3 rfl rfl (cell_of hC1 rfl) ?_)
      refine WL.c rfl (o_ge rfl rfl ?_)
      refine WL.c rfl (o_mvh (show _ = Value.bool _ from rfl) ?_)
      refine WL.sp 3 rfl (fun g23 => ?_) (fun g23 => ?_)
      · skip
        refine WL.g rfl (g23) rfl (o_fa 4 TI30 rfl TI3 rfl rfl ?_)
        refine WL.g rfl (g23) rfl (o_ld TI3 rfl rfl (cell_of hC1 rfl) ?_)
        refine WL.g rfl (g23) rfl (o_le rfl rfl ?_)
        refine WL.c rfl (o_pickA rfl rfl ?_)
        refine WL.c rfl (o_ash (show _ = Value.bool _ from rfl) ?_)
        refine WL.nil ?_
        refine W.seq ?_
        refine W.region ?_
        refine WL.c rfl (o_mvh (show _ = Value.bool _ from rfl) ?_)
        refine WL.c rfl (o_mvh (show _ = Value.bool _ from rfl) ?_)
        refine WL.sp 1 rfl (fun g29 => ?_) (fun g29 => ?_)
        · skip
          refine WL.g rfl (g29) rfl (o_mvh (show _ = Value.bool _ from rfl) ?_)
          refine WL.c rfl (o_pickA rfl rfl ?_)
          refine WL.c rfl (o_ash (show _ = Value.bool _ from rfl) ?_)
          refine WL.nil ?_
          refine W.ret ?_
          refine ret1v rfl (show _ = Value.bool _ from rfl) ?_
          exact ⟨congrArg Value.bool (by rw [Bool.eq_iff_iff]; simp_all [plcB, labB, tagB] <;> omega), hx⟩
        · skip
          refine WL.s rfl (g29) rfl ?_
          refine WL.c rfl (o_pickF rfl (g29) ?_)
          refine WL.c rfl (o_ash (show _ = Value.bool _ from rfl) ?_)
          refine WL.nil ?_
          refine W.ret ?_
          refine ret1v rfl (show _ = Value.bool _ from rfl) ?_
          exact ⟨congrArg Value.bool (by rw [Bool.eq_iff_iff]; simp_all [plcB, labB, tagB] <;> omega), hx⟩
      · skip
        refine WL.s rfl (g23) rfl ?_
        refine WL.s rfl (g23) rfl ?_
        refine WL.s rfl (g23) rfl ?_
        refine WL.c rfl (o_pickF rfl (g23) ?_)
        refine WL.c rfl (o_ash (show _ = Value.bool _ from rfl) ?_)
        refine WL.nil ?_
        refine W.seq ?_
        refine W.region ?_
        refine WL.c rfl (o_mvh (show _ = Value.bool _ from rfl) ?_)
        refine WL.c rfl (o_mvh (show _ = Value.bool _ from rfl) ?_)
        refine WL.sp 1 rfl (fun g29 => ?_) (fun g29 => ?_)
        · skip
          refine WL.g rfl (g29) rfl (o_mvh (show _ = Value.bool _ from rfl) ?_)
          refine WL.c rfl (o_pickA rfl rfl ?_)
          refine WL.c rfl (o_ash (show _ = Value.bool _ from rfl) ?_)
          refine WL.nil ?_
          refine W.ret ?_
          refine ret1v rfl (show _ = Value.bool _ from rfl) ?_
          exact ⟨congrArg Value.bool (by rw [Bool.eq_iff_iff]; simp_all [plcB, labB, tagB] <;> omega), hx⟩
        · skip
          refine WL.s rfl (g29) rfl ?_
          refine WL.c rfl (o_pickF rfl (g29) ?_)
          refine WL.c rfl (o_ash (show _ = Value.bool _ from rfl) ?_)
          refine WL.nil ?_
          refine W.ret ?_
          refine ret1v rfl (show _ = Value.bool _ from rfl) ?_
          exact ⟨congrArg Value.bool (by rw [Bool.eq_iff_iff]; simp_all [plcB, labB, tagB] <;> omega), hx⟩
    · try simp only [decide_eq_true_eq, decide_eq_false_iff_not, Bool.not_eq_true', Bool.not_eq_false', Bool.and_eq_true, Bool.or_eq_true, Bool.and_eq_false_iff, Bool.or_eq_false_iff] at c19
      refine W.skip ?_
      refine W.seq ?_
      refine W.region ?_
      refine WL.c rfl (o_mvh (show _ = Value.bool _ from rfl) ?_)
      refine WL.c rfl (o_mvh (show _ = Value.bool _ from rfl) ?_)
      refine WL.sp 1 rfl (fun g29 => ?_) (fun g29 => ?_)
      · skip
        refine WL.g rfl (g29) rfl (o_mvh (show _ = Value.bool _ from rfl) ?_)
        refine WL.c rfl (o_pickA rfl rfl ?_)
        refine WL.c rfl (o_ash (show _ = Value.bool _ from rfl) ?_)
        refine WL.nil ?_
        refine W.ret ?_
        refine ret1v rfl (show _ = Value.bool _ from rfl) ?_
        exact ⟨congrArg Value.bool (by rw [Bool.eq_iff_iff]; simp_all [plcB, labB, tagB] <;> omega), hx⟩
      · skip
        refine WL.s rfl (g29) rfl ?_
        refine WL.c rfl (o_pickF rfl (g29) ?_)
        refine WL.c rfl (o_ash (show _ = Value.bool _ from rfl) ?_)
        refine WL.nil ?_
        refine W.ret ?_
        refine ret1v rfl (show _ = Value.bool _ from rfl) ?_
        exact ⟨congrArg Value.bool (by rw [Bool.eq_iff_iff]; simp_all [plcB, labB, tagB] <;> omega), hx⟩
end Go.Proofs.Ytcljkkfpcomdcaa
