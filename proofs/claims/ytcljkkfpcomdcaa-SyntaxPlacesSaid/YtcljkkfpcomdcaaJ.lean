/-
  Walks. Written by program out of specs of mine.
-/
import Derived.Test.YtcljkkfpcomdcaaI
set_option linter.unusedSimpArgs false
set_option linter.unusedVariables false
set_option maxRecDepth 100000
namespace Go.Proofs.Ytcljkkfpcomdcaa
open Go Go.Vc Go.RowKit Go.Proofs

def okB (x : Ex) : Bool :=
  if x.kind = 1 then (decide (x.n = 1) || decide (x.n = 2) || decide (x.n = 4) || decide (x.n = 8)) && decide (x.kids = 0)
  else if x.kind = 2 ∨ x.kind = 3 ∨ x.kind = 9 then decide (x.n = 0) && decide (x.kids = 0)
  else if x.kind = 4 ∨ x.kind = 5 then decide (0 ≤ x.n) && decide (x.n ≤ 2147483647) && decide (x.kids = 1)
  else if x.kind = 6 then decide (x.n = 0) && decide (x.kids = 1)
  else if x.kind = 7 ∨ x.kind = 8 then decide (x.n = 0) && decide (1 ≤ x.kids)
  else false
def namB (x : Ex) : Bool := if x.kind = 9 then nameB x.name else decide (x.name = [])
def labB (x : Ex) (above : Int) : Bool := if above = 8 then nameB x.label else decide (x.label = [])
def tagB (x : Ex) (above : Int) : Bool := decide (x.tag = 0) || (decide (above = 7) && decide (0 < x.tag) && decide (x.tag ≤ 2147483647))
def rightB (x : Ex) (above : Int) : Bool := okB x && namB x && labB x above && tagB x above
theorem nameB_nil : nameB [] = false := rfl

set_option maxHeartbeats 2000000 in
theorem right_spec (x : Ex) (above : Int) (w0 : World) (hn : x.name.length ≤ 9223372036854775807) (hl : x.label.length ≤ 9223372036854775807) : Ca Try.prog 48 #[.agg (exV x).toArray, .int .i64 above] w0 (fun v w' => v = .bool (rightB x above) ∧ Ext w0 w') := by
  refine Ca.of Try.func48 Try.ntmps48 rfl rfl ?_
  refine W.seq ?_
  refine W.region ?_
  refine WL.c rfl (o_boxB rfl ?_)
  intro w2 hC2 hx2 hs2
  obtain ⟨c2, hc2⟩ : ∃ c, c = w0.heap.size := ⟨_, rfl⟩
  rw [← hc2] at hC2 ⊢
  replace hC2 : w2.heap[c2]? = some (.cells (exV x).toArray 30 (0, 0)) := hC2
  refine WL.c rfl (o_ash (show _ = Value.bool _ from rfl) ?_)
  refine WL.nil ?_
  refine W.seq ?_
  refine W.region ?_
  refine WL.c rfl (o_ash (show _ = Value.bool _ from rfl) ?_)
  refine WL.nil ?_
  refine W.seq ?_
  refine W.seq ?_
  refine W.region ?_
  refine WL.c rfl (o_fa 0 TI30 rfl TI3 rfl rfl ?_)
  refine WL.c rfl (o_ld TI3 rfl rfl (cell_of hC2 rfl) ?_)
  refine WL.nil ?_
  refine W.block ?_
  refine W.seq ?_
  refine W.region ?_
  refine WL.c rfl (o_eq rfl rfl ?_)
  refine WL.c rfl (o_ash (show _ = Value.bool _ from rfl) ?_)
  refine WL.nil ?_
  refine W.cut (fun e1 w1 => e1 1 = .int .i64 above ∧ e1 2 = .pointer (some ⟨c2, 0, none⟩) ∧ e1 5 = .bool (okB x) ∧ w1 = w2) ?_ ?_
  · -- both ways
    refine W.cond rfl (fun c11 => ?_) (fun c11 => ?_)
    · try simp only [decide_eq_true_eq, decide_eq_false_iff_not, Bool.not_eq_true', Bool.not_eq_false', Bool.and_eq_true, Bool.or_eq_true, Bool.and_eq_false_iff, Bool.or_eq_false_iff] at c11
      refine W.region ?_
      refine WL.c rfl (o_fa 1 TI30 rfl TI3 rfl rfl ?_)
      refine WL.c rfl (o_ld TI3 rfl rfl (cell_of hC2 rfl) ?_)
      refine WL.c rfl (o_eq rfl rfl ?_)
      refine WL.c rfl (o_mvh (show _ = Value.bool _ from rfl) ?_)
      refine WL.sp 3 rfl (fun g16 => ?_) (fun g16 => ?_)
      · skip
        refine WL.s rfl (g16) rfl ?_
        refine WL.s rfl (g16) rfl ?_
        refine WL.s rfl (g16) rfl ?_
        refine WL.c rfl (o_pickT rfl (g16) ?_)
        refine WL.c rfl (o_mvh (show _ = Value.bool _ from rfl) ?_)
        refine WL.s rfl (rfl) rfl ?_
        refine WL.s rfl (rfl) rfl ?_
        refine WL.s rfl (rfl) rfl ?_
        refine WL.c rfl (o_pickT rfl (rfl) ?_)
        refine WL.c rfl (o_mvh (show _ = Value.bool _ from rfl) ?_)
        refine WL.s rfl (rfl) rfl ?_
        refine WL.s rfl (rfl) rfl ?_
        refine WL.s rfl (rfl) rfl ?_
        refine WL.c rfl (o_pickT rfl (rfl) ?_)
        refine WL.c rfl (o_mvh (show _ = Value.bool _ from rfl) ?_)
        refine WL.g rfl (rfl) rfl (o_fa 5 TI30 rfl TI3 rfl rfl ?_)
        refine WL.g rfl (rfl) rfl (o_ld TI3 rfl rfl (cell_of hC2 rfl) ?_)
        refine WL.g rfl (rfl) rfl (o_eq rfl rfl ?_)
        refine WL.c rfl (o_pickA rfl rfl ?_)
        refine WL.c rfl (o_ash (show _ = Value.bool _ from rfl) ?_)
        refine WL.nil ?_
        exact ⟨rfl, rfl, congrArg Value.bool (by rw [Bool.eq_iff_iff]; simp_all [okB] <;> omega), rfl⟩
      · skip
        refine WL.g rfl (g16) rfl (o_fa 1 TI30 rfl TI3 rfl rfl ?_)
        refine WL.g rfl (g16) rfl (o_ld TI3 rfl rfl (cell_of hC2 rfl) ?_)
        refine WL.g rfl (g16) rfl (o_eq rfl rfl ?_)
        refine WL.c rfl (o_pickO rfl rfl ?_)
        refine WL.c rfl (o_mvh (show _ = Value.bool _ from rfl) ?_)
        refine WL.sp 8 rfl (fun g21 => ?_) (fun g21 => ?_)
        · skip
          refine WL.s rfl (g21) rfl ?_
          refine WL.s rfl (g21) rfl ?_
          refine WL.s rfl (g21) rfl ?_
          refine WL.c rfl (o_pickT rfl (g21) ?_)
          refine WL.c rfl (o_mvh (show _ = Value.bool _ from rfl) ?_)
          refine WL.s rfl (rfl) rfl ?_
          refine WL.s rfl (rfl) rfl ?_
          refine WL.s rfl (rfl) rfl ?_
          refine WL.c rfl (o_pickT rfl (rfl) ?_)
          refine WL.c rfl (o_mvh (show _ = Value.bool _ from rfl) ?_)
          refine WL.g rfl (rfl) rfl (o_fa 5 TI30 rfl TI3 rfl rfl ?_)
          refine WL.g rfl (rfl) rfl (o_ld TI3 rfl rfl (cell_of hC2 rfl) ?_)
          refine WL.g rfl (rfl) rfl (o_eq rfl rfl ?_)
          refine WL.c rfl (o_pickA rfl rfl ?_)
          refine WL.c rfl (o_ash (show _ = Value.bool _ from rfl) ?_)
          refine WL.nil ?_
          exact ⟨rfl, rfl, congrArg Value.bool (by rw [Bool.eq_iff_iff]; simp_all [okB] <;> omega), rfl⟩
        · skip
          refine WL.g rfl (g21) rfl (o_fa 1 TI30 rfl TI3 rfl rfl ?_)
          refine WL.g rfl (g21) rfl (o_ld TI3 rfl rfl (cell_of hC2 rfl) ?_)
          refine WL.g rfl (g21) rfl (o_eq rfl rfl ?_)
          refine WL.c rfl (o_pickO rfl rfl ?_)
          refine WL.c rfl (o_mvh (show _ = Value.bool _ from rfl) ?_)
          refine WL.sp 13 rfl (fun g26 => ?_) (fun g26 => ?_)
          · skip
            refine WL.s rfl (g26) rfl ?_
            refine WL.s rfl (g26) rfl ?_
            refine WL.s rfl (g26) rfl ?_
            refine WL.c rfl (o_pickT rfl (g26) ?_)
            refine WL.c rfl (o_mvh (show _ = Value.bool _ from rfl) ?_)
            refine WL.g rfl (rfl) rfl (o_fa 5 TI30 rfl TI3 rfl rfl ?_)
            refine WL.g rfl (rfl) rfl (o_ld TI3 rfl rfl (cell_of hC2 rfl) ?_)
            refine WL.g rfl (rfl) rfl (o_eq rfl rfl ?_)
            refine WL.c rfl (o_pickA rfl rfl ?_)
            refine WL.c rfl (o_ash (show _ = Value.bool _ from rfl) ?_)
            refine WL.nil ?_
            exact ⟨rfl, rfl, congrArg Value.bool (by rw [Bool.eq_iff_iff]; simp_all [okB] <;> omega), rfl⟩
          · skip
            refine WL.g rfl (g26) rfl (o_fa 1 TI30 rfl TI3 rfl rfl ?_)
            refine WL.g rfl (g26) rfl (o_ld TI3 rfl rfl (cell_of hC2 rfl) ?_)
            refine WL.g rfl (g26) rfl (o_eq rfl rfl ?_)
            refine WL.c rfl (o_pickO rfl rfl ?_)
            refine WL.c rfl (o_mvh (show _ = Value.bool _ from rfl) ?_)
            refine WL.sp 18 rfl (fun g31 => ?_) (fun g31 => ?_)
            · skip
              refine WL.g rfl (g31) rfl (o_fa 5 TI30 rfl TI3 rfl rfl ?_)
              refine WL.g rfl (g31) rfl (o_ld TI3 rfl rfl (cell_of hC2 rfl) ?_)
              refine WL.g rfl (g31) rfl (o_eq rfl rfl ?_)
              refine WL.c rfl (o_pickA rfl rfl ?_)
              refine WL.c rfl (o_ash (show _ = Value.bool _ from rfl) ?_)
              refine WL.nil ?_
              exact ⟨rfl, rfl, congrArg Value.bool (by rw [Bool.eq_iff_iff]; simp_all [okB] <;> omega), rfl⟩
            · skip
              refine WL.s rfl (g31) rfl ?_
              refine WL.s rfl (g31) rfl ?_
              refine WL.s rfl (g31) rfl ?_
              refine WL.c rfl (o_pickF rfl (g31) ?_)
              refine WL.c rfl (o_ash (show _ = Value.bool _ from rfl) ?_)
              refine WL.nil ?_
              exact ⟨rfl, rfl, congrArg Value.bool (by rw [Bool.eq_iff_iff]; simp_all [okB] <;> omega), rfl⟩
    · try simp only [decide_eq_true_eq, decide_eq_false_iff_not, Bool.not_eq_true', Bool.not_eq_false', Bool.and_eq_true, Bool.or_eq_true, Bool.and_eq_false_iff, Bool.or_eq_false_iff] at c11
      refine W.seq ?_
      refine W.seq ?_
      refine W.region ?_
      refine WL.c rfl (o_eq rfl rfl ?_)
      refine WL.c rfl (o_ash (show _ = Value.bool _ from rfl) ?_)
      refine WL.nil ?_
      refine W.cond rfl (fun c36 => ?_) (fun c36 => ?_)
      · try simp only [decide_eq_true_eq, decide_eq_false_iff_not, Bool.not_eq_true', Bool.not_eq_false', Bool.and_eq_true, Bool.or_eq_true, Bool.and_eq_false_iff, Bool.or_eq_false_iff] at c36
        refine W.skip ?_
        refine W.cond rfl (fun c36 => ?_) (fun c36 => ?_)
        · try simp only [decide_eq_true_eq, decide_eq_false_iff_not, Bool.not_eq_true', Bool.not_eq_false', Bool.and_eq_true, Bool.or_eq_true, Bool.and_eq_false_iff, Bool.or_eq_false_iff] at c36
          refine W.region ?_
          refine WL.c rfl (o_fa 1 TI30 rfl TI3 rfl rfl ?_)
          refine WL.c rfl (o_ld TI3 rfl rfl (cell_of hC2 rfl) ?_)
          refine WL.c rfl (o_eq rfl rfl ?_)
          refine WL.c rfl (o_mvh (show _ = Value.bool _ from rfl) ?_)
          refine WL.sp 3 rfl (fun g43 => ?_) (fun g43 => ?_)
          · skip
            refine WL.g rfl (g43) rfl (o_fa 5 TI30 rfl TI3 rfl rfl ?_)
            refine WL.g rfl (g43) rfl (o_ld TI3 rfl rfl (cell_of hC2 rfl) ?_)
            refine WL.g rfl (g43) rfl (o_eq rfl rfl ?_)
            refine WL.c rfl (o_pickA rfl rfl ?_)
            refine WL.c rfl (o_ash (show _ = Value.bool _ from rfl) ?_)
            refine WL.nil ?_
            exact ⟨rfl, rfl, congrArg Value.bool (by rw [Bool.eq_iff_iff]; simp_all [okB] <;> omega), rfl⟩
          · skip
            refine WL.s rfl (g43) rfl ?_
            refine WL.s rfl (g43) rfl ?_
            refine WL.s rfl (g43) rfl ?_
            refine WL.c rfl (o_pickF rfl (g43) ?_)
            refine WL.c rfl (o_ash (show _ = Value.bool _ from rfl) ?_)
            refine WL.nil ?_
            exact ⟨rfl, rfl, congrArg Value.bool (by rw [Bool.eq_iff_iff]; simp_all [okB] <;> omega), rfl⟩
        · try simp only [decide_eq_true_eq, decide_eq_false_iff_not, Bool.not_eq_true', Bool.not_eq_false', Bool.and_eq_true, Bool.or_eq_true, Bool.and_eq_false_iff, Bool.or_eq_false_iff] at c36
          refine W.seq ?_
          refine W.seq ?_
          refine W.region ?_
          refine WL.c rfl (o_eq rfl rfl ?_)
          refine WL.c rfl (o_ash (show _ = Value.bool _ from rfl) ?_)
          refine WL.nil ?_
          refine W.cond rfl (fun c48 => ?_) (fun c48 => ?_)
          · try simp only [decide_eq_true_eq, decide_eq_false_iff_not, Bool.not_eq_true', Bool.not_eq_false', Bool.and_eq_true, Bool.or_eq_true, Bool.and_eq_false_iff, Bool.or_eq_false_iff] at c48
            refine W.skip ?_
            refine W.cond rfl (fun c48 => ?_) (fun c48 => ?_)
            · try simp only [decide_eq_true_eq, decide_eq_false_iff_not, Bool.not_eq_true', Bool.not_eq_false', Bool.and_eq_true, Bool.or_eq_true, Bool.and_eq_false_iff, Bool.or_eq_false_iff] at c48
              refine W.region ?_
              refine WL.c rfl (o_fa 1 TI30 rfl TI3 rfl rfl ?_)
              refine WL.c rfl (o_ld TI3 rfl rfl (cell_of hC2 rfl) ?_)
              refine WL.c rfl (o_ge rfl rfl ?_)
              refine WL.c rfl (o_mvh (show _ = Value.bool _ from rfl) ?_)
              refine WL.sp 3 rfl (fun g54 => ?_) (fun g54 => ?_)
              · skip
                refine WL.g rfl (g54) rfl (o_fa 1 TI30 rfl TI3 rfl rfl ?_)
                refine WL.g rfl (g54) rfl (o_ld TI3 rfl rfl (cell_of hC2 rfl) ?_)
                refine WL.g rfl (g54) rfl (o_le rfl rfl ?_)
                refine WL.c rfl (o_pickA rfl rfl ?_)
                refine WL.c rfl (o_mvh (show _ = Value.bool _ from rfl) ?_)
                refine WL.sp 8 rfl (fun g59 => ?_) (fun g59 => ?_)
                · skip
                  refine WL.g rfl (g59) rfl (o_fa 5 TI30 rfl TI3 rfl rfl ?_)
                  refine WL.g rfl (g59) rfl (o_ld TI3 rfl rfl (cell_of hC2 rfl) ?_)
                  refine WL.g rfl (g59) rfl (o_eq rfl rfl ?_)
                  refine WL.c rfl (o_pickA rfl rfl ?_)
                  refine WL.c rfl (o_ash (show _ = Value.bool _ from rfl) ?_)
                  refine WL.nil ?_
                  exact ⟨rfl, rfl, congrArg Value.bool (by rw [Bool.eq_iff_iff]; simp_all [okB] <;> omega), rfl⟩
                · skip
                  refine WL.s rfl (g59) rfl ?_
                  refine WL.s rfl (g59) rfl ?_
                  refine WL.s rfl (g59) rfl ?_
                  refine WL.c rfl (o_pickF rfl (g59) ?_)
                  refine WL.c rfl (o_ash (show _ = Value.bool _ from rfl) ?_)
                  refine WL.nil ?_
                  exact ⟨rfl, rfl, congrArg Value.bool (by rw [Bool.eq_iff_iff]; simp_all [okB] <;> omega), rfl⟩
              · skip
                refine WL.s rfl (g54) rfl ?_
                refine WL.s rfl (g54) rfl ?_
                refine WL.s rfl (g54) rfl ?_
                refine WL.c rfl (o_pickF rfl (g54) ?_)
                refine WL.c rfl (o_mvh (show _ = Value.bool _ from rfl) ?_)
                refine WL.s rfl (rfl) rfl ?_
                refine WL.s rfl (rfl) rfl ?_
                refine WL.s rfl (rfl) rfl ?_
                refine WL.c rfl (o_pickF rfl (rfl) ?_)
                refine WL.c rfl (o_ash (show _ = Value.bool _ from rfl) ?_)
                refine WL.nil ?_
                exact ⟨rfl, rfl, congrArg Value.bool (by rw [Bool.eq_iff_iff]; simp_all [okB] <;> omega), rfl⟩
            · try simp only [decide_eq_true_eq, decide_eq_false_iff_not, Bool.not_eq_true', Bool.not_eq_false', Bool.and_eq_true, Bool.or_eq_true, Bool.and_eq_false_iff, Bool.or_eq_false_iff] at c48
              refine W.seq ?_
              refine W.region ?_
              refine WL.c rfl (o_eq rfl rfl ?_)
              refine WL.c rfl (o_ash (show _ = Value.bool _ from rfl) ?_)
              refine WL.nil ?_
              refine W.cond rfl (fun c64 => ?_) (fun c64 => ?_)
              · try simp only [decide_eq_true_eq, decide_eq_false_iff_not, Bool.not_eq_true', Bool.not_eq_false', Bool.and_eq_true, Bool.or_eq_true, Bool.and_eq_false_iff, Bool.or_eq_false_iff] at c64
                refine W.region ?_
                refine WL.c rfl (o_fa 1 TI30 rfl TI3 rfl rfl ?_)
                refine WL.c rfl (o_ld TI3 rfl rfl (cell_of hC2 rfl) ?_)
                refine WL.c rfl (o_eq rfl rfl ?_)
                refine WL.c rfl (o_mvh (show _ = Value.bool _ from rfl) ?_)
                refine WL.sp 3 rfl (fun g69 => ?_) (fun g69 => ?_)
                · skip
                  refine WL.g rfl (g69) rfl (o_fa 5 TI30 rfl TI3 rfl rfl ?_)
                  refine WL.g rfl (g69) rfl (o_ld TI3 rfl rfl (cell_of hC2 rfl) ?_)
                  refine WL.g rfl (g69) rfl (o_eq rfl rfl ?_)
                  refine WL.c rfl (o_pickA rfl rfl ?_)
                  refine WL.c rfl (o_ash (show _ = Value.bool _ from rfl) ?_)
                  refine WL.nil ?_
                  exact ⟨rfl, rfl, congrArg Value.bool (by rw [Bool.eq_iff_iff]; simp_all [okB] <;> omega), rfl⟩
                · skip
                  refine WL.s rfl (g69) rfl ?_
                  refine WL.s rfl (g69) rfl ?_
                  refine WL.s rfl (g69) rfl ?_
                  refine WL.c rfl (o_pickF rfl (g69) ?_)
                  refine WL.c rfl (o_ash (show _ = Value.bool _ from rfl) ?_)
                  refine WL.nil ?_
                  exact ⟨rfl, rfl, congrArg Value.bool (by rw [Bool.eq_iff_iff]; simp_all [okB] <;> omega), rfl⟩
              · try simp only [decide_eq_true_eq, decide_eq_false_iff_not, Bool.not_eq_true', Bool.not_eq_false', Bool.and_eq_true, Bool.or_eq_true, Bool.and_eq_false_iff, Bool.or_eq_false_iff] at c64
                refine W.seq ?_
                refine W.seq ?_
                refine W.region ?_
                refine WL.c rfl (o_eq rfl rfl ?_)
                refine WL.c rfl (o_ash (show _ = Value.bool _ from rfl) ?_)
                refine WL.nil ?_
                refine W.cond rfl (fun c74 => ?_) (fun c74 => ?_)
                · try simp only [decide_eq_true_eq, decide_eq_false_iff_not, Bool.not_eq_true', Bool.not_eq_false', Bool.and_eq_true, Bool.or_eq_true, Bool.and_eq_false_iff, Bool.or_eq_false_iff] at c74
                  refine W.skip ?_
                  refine W.cond rfl (fun c74 => ?_) (fun c74 => ?_)
                  · try simp only [decide_eq_true_eq, decide_eq_false_iff_not, Bool.not_eq_true', Bool.not_eq_false', Bool.and_eq_true, Bool.or_eq_true, Bool.and_eq_false_iff, Bool.or_eq_false_iff] at c74
                    refine W.region ?_
                    refine WL.c rfl (o_fa 1 TI30 rfl TI3 rfl rfl ?_)
                    refine WL.c rfl (o_ld TI3 rfl rfl (cell_of hC2 rfl) ?_)
                    refine WL.c rfl (o_eq rfl rfl ?_)
                    refine WL.c rfl (o_mvh (show _ = Value.bool _ from rfl) ?_)
                    refine WL.sp 3 rfl (fun g80 => ?_) (fun g80 => ?_)
                    · skip
                      refine WL.g rfl (g80) rfl (o_fa 5 TI30 rfl TI3 rfl rfl ?_)
                      refine WL.g rfl (g80) rfl (o_ld TI3 rfl rfl (cell_of hC2 rfl) ?_)
                      refine WL.g rfl (g80) rfl (o_ge rfl rfl ?_)
                      refine WL.c rfl (o_pickA rfl rfl ?_)
                      refine WL.c rfl (o_ash (show _ = Value.bool _ from rfl) ?_)
                      refine WL.nil ?_
                      exact ⟨rfl, rfl, congrArg Value.bool (by rw [Bool.eq_iff_iff]; simp_all [okB] <;> omega), rfl⟩
                    · skip
                      refine WL.s rfl (g80) rfl ?_
                      refine WL.s rfl (g80) rfl ?_
                      refine WL.s rfl (g80) rfl ?_
                      refine WL.c rfl (o_pickF rfl (g80) ?_)
                      refine WL.c rfl (o_ash (show _ = Value.bool _ from rfl) ?_)
                      refine WL.nil ?_
                      exact ⟨rfl, rfl, congrArg Value.bool (by rw [Bool.eq_iff_iff]; simp_all [okB] <;> omega), rfl⟩
                  · try simp only [decide_eq_true_eq, decide_eq_false_iff_not, Bool.not_eq_true', Bool.not_eq_false', Bool.and_eq_true, Bool.or_eq_true, Bool.and_eq_false_iff, Bool.or_eq_false_iff] at c74
                    refine W.seq ?_
                    refine W.region ?_
                    refine WL.c rfl (o_ash (show _ = Value.bool _ from rfl) ?_)
                    refine WL.nil ?_
                    refine W.ret ?_
                    refine ret1v rfl (show _ = Value.bool _ from rfl) ?_
                    have h9 : okB x = false := by
                      unfold okB
                      repeat' split
                      all_goals first | rfl | omega
                    exact ⟨congrArg Value.bool (by rw [rightB, h9]; rfl), hx2⟩
                · try simp only [decide_eq_true_eq, decide_eq_false_iff_not, Bool.not_eq_true', Bool.not_eq_false', Bool.and_eq_true, Bool.or_eq_true, Bool.and_eq_false_iff, Bool.or_eq_false_iff] at c74
                  refine W.region ?_
                  refine WL.c rfl (o_eq rfl rfl ?_)
                  refine WL.c rfl (o_ash (show _ = Value.bool _ from rfl) ?_)
                  refine WL.nil ?_
                  refine W.cond rfl (fun c74 => ?_) (fun c74 => ?_)
                  · try simp only [decide_eq_true_eq, decide_eq_false_iff_not, Bool.not_eq_true', Bool.not_eq_false', Bool.and_eq_true, Bool.or_eq_true, Bool.and_eq_false_iff, Bool.or_eq_false_iff] at c74
                    refine W.region ?_
                    refine WL.c rfl (o_fa 1 TI30 rfl TI3 rfl rfl ?_)
                    refine WL.c rfl (o_ld TI3 rfl rfl (cell_of hC2 rfl) ?_)
                    refine WL.c rfl (o_eq rfl rfl ?_)
                    refine WL.c rfl (o_mvh (show _ = Value.bool _ from rfl) ?_)
                    refine WL.sp 3 rfl (fun g80 => ?_) (fun g80 => ?_)
                    · skip
                      refine WL.g rfl (g80) rfl (o_fa 5 TI30 rfl TI3 rfl rfl ?_)
                      refine WL.g rfl (g80) rfl (o_ld TI3 rfl rfl (cell_of hC2 rfl) ?_)
                      refine WL.g rfl (g80) rfl (o_ge rfl rfl ?_)
                      refine WL.c rfl (o_pickA rfl rfl ?_)
                      refine WL.c rfl (o_ash (show _ = Value.bool _ from rfl) ?_)
                      refine WL.nil ?_
                      exact ⟨rfl, rfl, congrArg Value.bool (by rw [Bool.eq_iff_iff]; simp_all [okB] <;> omega), rfl⟩
                    · skip
                      refine WL.s rfl (g80) rfl ?_
                      refine WL.s rfl (g80) rfl ?_
                      refine WL.s rfl (g80) rfl ?_
                      refine WL.c rfl (o_pickF rfl (g80) ?_)
                      refine WL.c rfl (o_ash (show _ = Value.bool _ from rfl) ?_)
                      refine WL.nil ?_
                      exact ⟨rfl, rfl, congrArg Value.bool (by rw [Bool.eq_iff_iff]; simp_all [okB] <;> omega), rfl⟩
                  · try simp only [decide_eq_true_eq, decide_eq_false_iff_not, Bool.not_eq_true', Bool.not_eq_false', Bool.and_eq_true, Bool.or_eq_true, Bool.and_eq_false_iff, Bool.or_eq_false_iff] at c74
                    refine W.seq ?_
                    refine W.region ?_
                    refine WL.c rfl (o_ash (show _ = Value.bool _ from rfl) ?_)
                    refine WL.nil ?_
                    refine W.ret ?_
                    refine ret1v rfl (show _ = Value.bool _ from rfl) ?_
                    have h9 : okB x = false := by
                      unfold okB
                      repeat' split
                      all_goals first | rfl | omega
                    exact ⟨congrArg Value.bool (by rw [rightB, h9]; rfl), hx2⟩
          · try simp only [decide_eq_true_eq, decide_eq_false_iff_not, Bool.not_eq_true', Bool.not_eq_false', Bool.and_eq_true, Bool.or_eq_true, Bool.and_eq_false_iff, Bool.or_eq_false_iff] at c48
            refine W.region ?_
            refine WL.c rfl (o_eq rfl rfl ?_)
            refine WL.c rfl (o_ash (show _ = Value.bool _ from rfl) ?_)
            refine WL.nil ?_
            refine W.cond rfl (fun c48 => ?_) (fun c48 => ?_)
            · try simp only [decide_eq_true_eq, decide_eq_false_iff_not, Bool.not_eq_true', Bool.not_eq_false', Bool.and_eq_true, Bool.or_eq_true, Bool.and_eq_false_iff, Bool.or_eq_false_iff] at c48
              refine W.region ?_
              refine WL.c rfl (o_fa 1 TI30 rfl TI3 rfl rfl ?_)
              refine WL.c rfl (o_ld TI3 rfl rfl (cell_of hC2 rfl) ?_)
              refine WL.c rfl (o_ge rfl rfl ?_)
              refine WL.c rfl (o_mvh (show _ = Value.bool _ from rfl) ?_)
              refine WL.sp 3 rfl (fun g54 => ?_) (fun g54 => ?_)
              · skip
                refine WL.g rfl (g54) rfl (o_fa 1 TI30 rfl TI3 rfl rfl ?_)
                refine WL.g rfl (g54) rfl (o_ld TI3 rfl rfl (cell_of hC2 rfl) ?_)
                refine WL.g rfl (g54) rfl (o_le rfl rfl ?_)
                refine WL.c rfl (o_pickA rfl rfl ?_)
                refine WL.c rfl (o_mvh (show _ = Value.bool _ from rfl) ?_)
                refine WL.sp 8 rfl (fun g59 => ?_) (fun g59 => ?_)
                · skip
                  refine WL.g rfl (g59) rfl (o_fa 5 TI30 rfl TI3 rfl rfl ?_)
                  refine WL.g rfl (g59) rfl (o_ld TI3 rfl rfl (cell_of hC2 rfl) ?_)
                  refine WL.g rfl (g59) rfl (o_eq rfl rfl ?_)
                  refine WL.c rfl (o_pickA rfl rfl ?_)
                  refine WL.c rfl (o_ash (show _ = Value.bool _ from rfl) ?_)
                  refine WL.nil ?_
                  exact ⟨rfl, rfl, congrArg Value.bool (by rw [Bool.eq_iff_iff]; simp_all [okB] <;> omega), rfl⟩
                · skip
                  refine WL.s rfl (g59) rfl ?_
                  refine WL.s rfl (g59) rfl ?_
                  refine WL.s rfl (g59) rfl ?_
                  refine WL.c rfl (o_pickF rfl (g59) ?_)
                  refine WL.c rfl (o_ash (show _ = Value.bool _ from rfl) ?_)
                  refine WL.nil ?_
                  exact ⟨rfl, rfl, congrArg Value.bool (by rw [Bool.eq_iff_iff]; simp_all [okB] <;> omega), rfl⟩
              · skip
                refine WL.s rfl (g54) rfl ?_
                refine WL.s rfl (g54) rfl ?_
                refine WL.s rfl (g54) rfl ?_
                refine WL.c rfl (o_pickF rfl (g54) ?_)
                refine WL.c rfl (o_mvh (show _ = Value.bool _ from rfl) ?_)
                refine WL.s rfl (rfl) rfl ?_
                refine WL.s rfl (rfl) rfl ?_
                refine WL.s rfl (rfl) rfl ?_
                refine WL.c rfl (o_pickF rfl (rfl) ?_)
                refine WL.c rfl (o_ash (show _ = Value.bool _ from rfl) ?_)
                refine WL.nil ?_
                exact ⟨rfl, rfl, congrArg Value.bool (by rw [Bool.eq_iff_iff]; simp_all [okB] <;> omega), rfl⟩
            · try simp only [decide_eq_true_eq, decide_eq_false_iff_not, Bool.not_eq_true', Bool.not_eq_false', Bool.and_eq_true, Bool.or_eq_true, Bool.and_eq_false_iff, Bool.or_eq_false_iff] at c48
              refine W.seq ?_
              refine W.region ?_
              refine WL.c rfl (o_eq rfl rfl ?_)
              refine WL.c rfl (o_ash (show _ = Value.bool _ from rfl) ?_)
              refine WL.nil ?_
              refine W.cond rfl (fun c64 => ?_) (fun c64 => ?_)
              · try simp only [decide_eq_true_eq, decide_eq_false_iff_not, Bool.not_eq_true', Bool.not_eq_false', Bool.and_eq_true, Bool.or_eq_true, Bool.and_eq_false_iff, Bool.or_eq_false_iff] at c64
                refine W.region ?_
                refine WL.c rfl (o_fa 1 TI30 rfl TI3 rfl rfl ?_)
                refine WL.c rfl (o_ld TI3 rfl rfl (cell_of hC2 rfl) ?_)
                refine WL.c rfl (o_eq rfl rfl ?_)
                refine WL.c rfl (o_mvh (show _ = Value.bool _ from rfl) ?_)
                refine WL.sp 3 rfl (fun g69 => ?_) (fun g69 => ?_)
                · skip
                  refine WL.g rfl (g69) rfl (o_fa 5 TI30 rfl TI3 rfl rfl ?_)
                  refine WL.g rfl (g69) rfl (o_ld TI3 rfl rfl (cell_of hC2 rfl) ?_)
                  refine WL.g rfl (g69) rfl (o_eq rfl rfl ?_)
                  refine WL.c rfl (o_pickA rfl rfl ?_)
                  refine WL.c rfl (o_ash (show _ = Value.bool _ from rfl) ?_)
                  refine WL.nil ?_
                  exact ⟨rfl, rfl, congrArg Value.bool (by rw [Bool.eq_iff_iff]; simp_all [okB] <;> omega), rfl⟩
                · skip
                  refine WL.s rfl (g69) rfl ?_
                  refine WL.s rfl (g69) rfl ?_
                  refine WL.s rfl (g69) rfl ?_
                  refine WL.c rfl (o_pickF rfl (g69) ?_)
                  refine WL.c rfl (o_ash (show _ = Value.bool _ from rfl) ?_)
                  refine WL.nil ?_
                  exact ⟨rfl, rfl, congrArg Value.bool (by rw [Bool.eq_iff_iff]; simp_all [okB] <;> omega), rfl⟩
              · try simp only [decide_eq_true_eq, decide_eq_false_iff_not, Bool.not_eq_true', Bool.not_eq_false', Bool.and_eq_true, Bool.or_eq_true, Bool.and_eq_false_iff, Bool.or_eq_false_iff] at c64
                refine W.seq ?_
                refine W.seq ?_
                refine W.region ?_
                refine WL.c rfl (o_eq rfl rfl ?_)
                refine WL.c rfl (o_ash (show _ = Value.bool _ from rfl) ?_)
                refine WL.nil ?_
                refine W.cond rfl (fun c74 => ?_) (fun c74 => ?_)
                · try simp only [decide_eq_true_eq, decide_eq_false_iff_not, Bool.not_eq_true', Bool.not_eq_false', Bool.and_eq_true, Bool.or_eq_true, Bool.and_eq_false_iff, Bool.or_eq_false_iff] at c74
                  refine W.skip ?_
                  refine W.cond rfl (fun c74 => ?_) (fun c74 => ?_)
                  · try simp only [decide_eq_true_eq, decide_eq_false_iff_not, Bool.not_eq_true', Bool.not_eq_false', Bool.and_eq_true, Bool.or_eq_true, Bool.and_eq_false_iff, Bool.or_eq_false_iff] at c74
                    refine W.region ?_
                    refine WL.c rfl (o_fa 1 TI30 rfl TI3 rfl rfl ?_)
                    refine WL.c rfl (o_ld TI3 rfl rfl (cell_of hC2 rfl) ?_)
                    refine WL.c rfl (o_eq rfl rfl ?_)
                    refine WL.c rfl (o_mvh (show _ = Value.bool _ from rfl) ?_)
                    refine WL.sp 3 rfl (fun g80 => ?_) (fun g80 => ?_)
                    · skip
                      refine WL.g rfl (g80) rfl (o_fa 5 TI30 rfl TI3 rfl rfl ?_)
                      refine WL.g rfl (g80) rfl (o_ld TI3 rfl rfl (cell_of hC2 rfl) ?_)
                      refine WL.g rfl (g80) rfl (o_ge rfl rfl ?_)
                      refine WL.c rfl (o_pickA rfl rfl ?_)
                      refine WL.c rfl (o_ash (show _ = Value.bool _ from rfl) ?_)
                      refine WL.nil ?_
                      exact ⟨rfl, rfl, congrArg Value.bool (by rw [Bool.eq_iff_iff]; simp_all [okB] <;> omega), rfl⟩
                    · skip
                      refine WL.s rfl (g80) rfl ?_
                      refine WL.s rfl (g80) rfl ?_
                      refine WL.s rfl (g80) rfl ?_
                      refine WL.c rfl (o_pickF rfl (g80) ?_)
                      refine WL.c rfl (o_ash (show _ = Value.bool _ from rfl) ?_)
                      refine WL.nil ?_
                      exact ⟨rfl, rfl, congrArg Value.bool (by rw [Bool.eq_iff_iff]; simp_all [okB] <;> omega), rfl⟩
                  · try simp only [decide_eq_true_eq, decide_eq_false_iff_not, Bool.not_eq_true', Bool.not_eq_false', Bool.and_eq_true, Bool.or_eq_true, Bool.and_eq_false_iff, Bool.or_eq_false_iff] at c74
                    refine W.seq ?_
                    refine W.region ?_
                    refine WL.c rfl (o_ash (show _ = Value.bool _ from rfl) ?_)
                    refine WL.nil ?_
                    refine W.ret ?_
                    refine ret1v rfl (show _ = Value.bool _ from rfl) ?_
                    have h9 : okB x = false := by
                      unfold okB
                      repeat' split
                      all_goals first | rfl | omega
                    exact ⟨congrArg Value.bool (by rw [rightB, h9]; rfl), hx2⟩
                · try simp only [decide_eq_true_eq, decide_eq_false_iff_not, Bool.not_eq_true', Bool.not_eq_false', Bool.and_eq_true, Bool.or_eq_true, Bool.and_eq_false_iff, Bool.or_eq_false_iff] at c74
                  refine W.region ?_
                  refine WL.c rfl (o_eq rfl rfl ?_)
                  refine WL.c rfl (o_ash (show _ = Value.bool _ from rfl) ?_)
                  refine WL.nil ?_
                  refine W.cond rfl (fun c74 => ?_) (fun c74 => ?_)
                  · try simp only [decide_eq_true_eq, decide_eq_false_iff_not, Bool.not_eq_true', Bool.not_eq_false', Bool.and_eq_true, Bool.or_eq_true, Bool.and_eq_false_iff, Bool.or_eq_false_iff] at c74
                    refine W.region ?_
                    refine WL.c rfl (o_fa 1 TI30 rfl TI3 rfl rfl ?_)
                    refine WL.c rfl (o_ld TI3 rfl rfl (cell_of hC2 rfl) ?_)
                    refine WL.c rfl (o_eq rfl rfl ?_)
                    refine WL.c rfl (o_mvh (show _ = Value.bool _ from rfl) ?_)
                    refine WL.sp 3 rfl (fun g80 => ?_) (fun g80 => ?_)
                    · skip
                      refine WL.g rfl (g80) rfl (o_fa 5 TI30 rfl TI3 rfl rfl ?_)
                      refine WL.g rfl (g80) rfl (o_ld TI3 rfl rfl (cell_of hC2 rfl) ?_)
                      refine WL.g rfl (g80) rfl (o_ge rfl rfl ?_)
                      refine WL.c rfl (o_pickA rfl rfl ?_)
                      refine WL.c rfl (o_ash (show _ = Value.bool _ from rfl) ?_)
                      refine WL.nil ?_
                      exact ⟨rfl, rfl, congrArg Value.bool (by rw [Bool.eq_iff_iff]; simp_all [okB] <;> omega), rfl⟩
                    · skip
                      refine WL.s rfl (g80) rfl ?_
                      refine WL.s rfl (g80) rfl ?_
                      refine WL.s rfl (g80) rfl ?_
                      refine WL.c rfl (o_pickF rfl (g80) ?_)
                      refine WL.c rfl (o_ash (show _ = Value.bool _ from rfl) ?_)
                      refine WL.nil ?_
                      exact ⟨rfl, rfl, congrArg Value.bool (by rw [Bool.eq_iff_iff]; simp_all [okB] <;> omega), rfl⟩
                  · try simp only [decide_eq_true_eq, decide_eq_false_iff_not, Bool.not_eq_true', Bool.not_eq_false', Bool.and_eq_true, Bool.or_eq_true, Bool.and_eq_false_iff, Bool.or_eq_false_iff] at c74
                    refine W.seq ?_
                    refine W.region ?_
                    refine WL.c rfl (o_ash (show _ = Value.bool _ from rfl) ?_)
                    refine WL.nil ?_
                    refine W.ret ?_
                    refine ret1v rfl (show _ = Value.bool _ from rfl) ?_
                    have h9 : okB x = false := by
                      unfold okB
                      repeat' split
                      all_goals first | rfl | omega
                    exact ⟨congrArg Value.bool (by rw [rightB, h9]; rfl), hx2⟩
      · try simp only [decide_eq_true_eq, decide_eq_false_iff_not, Bool.not_eq_true', Bool.not_eq_false', Bool.and_eq_true, Bool.or_eq_true, Bool.and_eq_false_iff, Bool.or_eq_false_iff] at c36
        refine W.seq ?_
        refine W.region ?_
        refine WL.c rfl (o_eq rfl rfl ?_)
        refine WL.c rfl (o_ash (show _ = Value.bool _ from rfl) ?_)
        refine WL.nil ?_
        refine W.cond rfl (fun c36 => ?_) (fun c36 => ?_)
        · try simp only [decide_eq_true_eq, decide_eq_false_iff_not, Bool.not_eq_true', Bool.not_eq_false', Bool.and_eq_true, Bool.or_eq_true, Bool.and_eq_false_iff, Bool.or_eq_false_iff] at c36
          refine W.skip ?_
          refine W.cond rfl (fun c36 => ?_) (fun c36 => ?_)
          · try simp only [decide_eq_true_eq, decide_eq_false_iff_not, Bool.not_eq_true', Bool.not_eq_false', Bool.and_eq_true, Bool.or_eq_true, Bool.and_eq_false_iff, Bool.or_eq_false_iff] at c36
            refine W.region ?_
            refine WL.c rfl (o_fa 1 TI30 rfl TI3 rfl rfl ?_)
            refine WL.c rfl (o_ld TI3 rfl rfl (cell_of hC2 rfl) ?_)
            refine WL.c rfl (o_eq rfl rfl ?_)
            refine WL.c rfl (o_mvh (show _ = Value.bool _ from rfl) ?_)
            refine WL.sp 3 rfl (fun g43 => ?_) (fun g43 => ?_)
            · skip
              refine WL.g rfl (g43) rfl (o_fa 5 TI30 rfl TI3 rfl rfl ?_)
              refine WL.g rfl (g43) rfl (o_ld TI3 rfl rfl (cell_of hC2 rfl) ?_)
              refine WL.g rfl (g43) rfl (o_eq rfl rfl ?_)
              refine WL.c rfl (o_pickA rfl rfl ?_)
              refine WL.c rfl (o_ash (show _ = Value.bool _ from rfl) ?_)
              refine WL.nil ?_
              exact ⟨rfl, rfl, congrArg Value.bool (by rw [Bool.eq_iff_iff]; simp_all [okB] <;> omega), rfl⟩
            · skip
              refine WL.s rfl (g43) rfl ?_
              refine WL.s rfl (g43) rfl ?_
              refine WL.s rfl (g43) rfl ?_
              refine WL.c rfl (o_pickF rfl (g43) ?_)
              refine WL.c rfl (o_ash (show _ = Value.bool _ from rfl) ?_)
              refine WL.nil ?_
              exact ⟨rfl, rfl, congrArg Value.bool (by rw [Bool.eq_iff_iff]; simp_all [okB] <;> omega), rfl⟩
          · try simp only [decide_eq_true_eq, decide_eq_false_iff_not, Bool.not_eq_true', Bool.not_eq_false', Bool.and_eq_true, Bool.or_eq_true, Bool.and_eq_false_iff, Bool.or_eq_false_iff] at c36
            refine W.seq ?_
            refine W.seq ?_
            refine W.region ?_
            refine WL.c rfl (o_eq rfl rfl ?_)
            refine WL.c rfl (o_ash (show _ = Value.bool _ from rfl) ?_)
            refine WL.nil ?_
            refine W.cond rfl (fun c48 => ?_) (fun c48 => ?_)
            · try simp only [decide_eq_true_eq, decide_eq_false_iff_not, Bool.not_eq_true', Bool.not_eq_false', Bool.and_eq_true, Bool.or_eq_true, Bool.and_eq_false_iff, Bool.or_eq_false_iff] at c48
              refine W.skip ?_
              refine W.cond rfl (fun c48 => ?_) (fun c48 => ?_)
              · try simp only [decide_eq_true_eq, decide_eq_false_iff_not, Bool.not_eq_true', Bool.not_eq_false', Bool.and_eq_true, Bool.or_eq_true, Bool.and_eq_false_iff, Bool.or_eq_false_iff] at c48
                refine W.region ?_
                refine WL.c rfl (o_fa 1 TI30 rfl TI3 rfl rfl ?_)
                refine WL.c rfl (o_ld TI3 rfl rfl (cell_of hC2 rfl) ?_)
                refine WL.c rfl (o_ge rfl rfl ?_)
                refine WL.c rfl (o_mvh (show _ = Value.bool _ from rfl) ?_)
                refine WL.sp 3 rfl (fun g54 => ?_) (fun g54 => ?_)
                · skip
                  refine WL.g rfl (g54) rfl (o_fa 1 TI30 rfl TI3 rfl rfl ?_)
                  refine WL.g rfl (g54) rfl (o_ld TI3 rfl rfl (cell_of hC2 rfl) ?_)
                  refine WL.g rfl (g54) rfl (o_le rfl rfl ?_)
                  refine WL.c rfl (o_pickA rfl rfl ?_)
                  refine WL.c rfl (o_mvh (show _ = Value.bool _ from rfl) ?_)
                  refine WL.sp 8 rfl (fun g59 => ?_) (fun g59 => ?_)
                  · skip
                    refine WL.g rfl (g59) rfl (o_fa 5 TI30 rfl TI3 rfl rfl ?_)
                    refine WL.g rfl (g59) rfl (o_ld TI3 rfl rfl (cell_of hC2 rfl) ?_)
                    refine WL.g rfl (g59) rfl (o_eq rfl rfl ?_)
                    refine WL.c rfl (o_pickA rfl rfl ?_)
                    refine WL.c rfl (o_ash (show _ = Value.bool _ from rfl) ?_)
                    refine WL.nil ?_
                    exact ⟨rfl, rfl, congrArg Value.bool (by rw [Bool.eq_iff_iff]; simp_all [okB] <;> omega), rfl⟩
                  · skip
                    refine WL.s rfl (g59) rfl ?_
                    refine WL.s rfl (g59) rfl ?_
                    refine WL.s rfl (g59) rfl ?_
                    refine WL.c rfl (o_pickF rfl (g59) ?_)
                    refine WL.c rfl (o_ash (show _ = Value.bool _ from rfl) ?_)
                    refine WL.nil ?_
                    exact ⟨rfl, rfl, congrArg Value.bool (by rw [Bool.eq_iff_iff]; simp_all [okB] <;> omega), rfl⟩
                · skip
                  refine WL.s rfl (g54) rfl ?_
                  refine WL.s rfl (g54) rfl ?_
                  refine WL.s rfl (g54) rfl ?_
                  refine WL.c rfl (o_pickF rfl (g54) ?_)
                  refine WL.c rfl (o_mvh (show _ = Value.bool _ from rfl) ?_)
                  refine WL.s rfl (rfl) rfl ?_
                  refine WL.s rfl (rfl) rfl ?_
                  refine WL.s rfl (rfl) rfl ?_
                  refine WL.c rfl (o_pickF rfl (rfl) ?_)
                  refine WL.c rfl (o_ash (show _ = Value.bool _ from rfl) ?_)
                  refine WL.nil ?_
                  exact ⟨rfl, rfl, congrArg Value.bool (by rw [Bool.eq_iff_iff]; simp_all [okB] <;> omega), rfl⟩
              · try simp only [decide_eq_true_eq, decide_eq_false_iff_not, Bool.not_eq_true', Bool.not_eq_false', Bool.and_eq_true, Bool.or_eq_true, Bool.and_eq_false_iff, Bool.or_eq_false_iff] at c48
                refine W.seq ?_
                refine W.region ?_
                refine WL.c rfl (o_eq rfl rfl ?_)
                refine WL.c rfl (o_ash (show _ = Value.bool _ from rfl) ?_)
                refine WL.nil ?_
                refine W.cond rfl (fun c64 => ?_) (fun c64 => ?_)
                · try simp only [decide_eq_true_eq, decide_eq_false_iff_not, Bool.not_eq_true', Bool.not_eq_false', Bool.and_eq_true, Bool.or_eq_true, Bool.and_eq_false_iff, Bool.or_eq_false_iff] at c64
                  refine W.region ?_
                  refine WL.c rfl (o_fa 1 TI30 rfl TI3 rfl rfl ?_)
                  refine WL.c rfl (o_ld TI3 rfl rfl (cell_of hC2 rfl) ?_)
                  refine WL.c rfl (o_eq rfl rfl ?_)
                  refine WL.c rfl (o_mvh (show _ = Value.bool _ from rfl) ?_)
                  refine WL.sp 3 rfl (fun g69 => ?_) (fun g69 => ?_)
                  · skip
                    refine WL.g rfl (g69) rfl (o_fa 5 TI30 rfl TI3 rfl rfl ?_)
                    refine WL.g rfl (g69) rfl (o_ld TI3 rfl rfl (cell_of hC2 rfl) ?_)
                    refine WL.g rfl (g69) rfl (o_eq rfl rfl ?_)
                    refine WL.c rfl (o_pickA rfl rfl ?_)
                    refine WL.c rfl (o_ash (show _ = Value.bool _ from rfl) ?_)
                    refine WL.nil ?_
                    exact ⟨rfl, rfl, congrArg Value.bool (by rw [Bool.eq_iff_iff]; simp_all [okB] <;> omega), rfl⟩
                  · skip
                    refine WL.s rfl (g69) rfl ?_
                    refine WL.s rfl (g69) rfl ?_
                    refine WL.s rfl (g69) rfl ?_
                    refine WL.c rfl (o_pickF rfl (g69) ?_)
                    refine WL.c rfl (o_ash (show _ = Value.bool _ from rfl) ?_)
                    refine WL.nil ?_
                    exact ⟨rfl, rfl, congrArg Value.bool (by rw [Bool.eq_iff_iff]; simp_all [okB] <;> omega), rfl⟩
                · try simp only [decide_eq_true_eq, decide_eq_false_iff_not, Bool.not_eq_true', Bool.not_eq_false', Bool.and_eq_true, Bool.or_eq_true, Bool.and_eq_false_iff, Bool.or_eq_false_iff] at c64
                  refine W.seq ?_
                  refine W.seq ?_
                  refine W.region ?_
                  refine WL.c rfl (o_eq rfl rfl ?_)
                  refine WL.c rfl (o_ash (show _ = Value.bool _ from rfl) ?_)
                  refine WL.nil ?_
                  refine W.cond rfl (fun c74 => ?_) (fun c74 => ?_)
                  · try simp only [decide_eq_true_eq, decide_eq_false_iff_not, Bool.not_eq_true', Bool.not_eq_false', Bool.and_eq_true, Bool.or_eq_true, Bool.and_eq_false_iff, Bool.or_eq_false_iff] at c74
                    refine W.skip ?_
                    refine W.cond rfl (fun c74 => ?_) (fun c74 => ?_)
                    · try simp only [decide_eq_true_eq, decide_eq_false_iff_not, Bool.not_eq_true', Bool.not_eq_false', Bool.and_eq_true, Bool.or_eq_true, Bool.and_eq_false_iff, Bool.or_eq_false_iff] at c74
                      refine W.region ?_
                      refine WL.c rfl (o_fa 1 TI30 rfl TI3 rfl rfl ?_)
                      refine WL.c rfl (o_ld TI3 rfl rfl (cell_of hC2 rfl) ?_)
                      refine WL.c rfl (o_eq rfl rfl ?_)
                      refine WL.c rfl (o_mvh (show _ = Value.bool _ from rfl) ?_)
                      refine WL.sp 3 rfl (fun g80 => ?_) (fun g80 => ?_)
                      · skip
                        refine WL.g rfl (g80) rfl (o_fa 5 TI30 rfl TI3 rfl rfl ?_)
                        refine WL.g rfl (g80) rfl (o_ld TI3 rfl rfl (cell_of hC2 rfl) ?_)
                        refine WL.g rfl (g80) rfl (o_ge rfl rfl ?_)
                        refine WL.c rfl (o_pickA rfl rfl ?_)
                        refine WL.c rfl (o_ash (show _ = Value.bool _ from rfl) ?_)
                        refine WL.nil ?_
                        exact ⟨rfl, rfl, congrArg Value.bool (by rw [Bool.eq_iff_iff]; simp_all [okB] <;> omega), rfl⟩
                      · skip
                        refine WL.s rfl (g80) rfl ?_
                        refine WL.s rfl (g80) rfl ?_
                        refine WL.s rfl (g80) rfl ?_
                        refine WL.c rfl (o_pickF rfl (g80) ?_)
                        refine WL.c rfl (o_ash (show _ = Value.bool _ from rfl) ?_)
                        refine WL.nil ?_
                        exact ⟨rfl, rfl, congrArg Value.bool (by rw [Bool.eq_iff_iff]; simp_all [okB] <;> omega), rfl⟩
                    · try simp only [decide_eq_true_eq, decide_eq_false_iff_not, Bool.not_eq_true', Bool.not_eq_false', Bool.and_eq_true, Bool.or_eq_true, Bool.and_eq_false_iff, Bool.or_eq_false_iff] at c74
                      refine W.seq ?_
                      refine W.region ?_
                      refine WL.c rfl (o_ash (show _ = Value.bool _ from rfl) ?_)
                      refine WL.nil ?_
                      refine W.ret ?_
                      refine ret1v rfl (show _ = Value.bool _ from rfl) ?_
                      have h9 : okB x = false := by
                        unfold okB
                        repeat' split
                        all_goals first | rfl | omega
                      exact ⟨congrArg Value.bool (by rw [rightB, h9]; rfl), hx2⟩
                  · try simp only [decide_eq_true_eq, decide_eq_false_iff_not, Bool.not_eq_true', Bool.not_eq_false', Bool.and_eq_true, Bool.or_eq_true, Bool.and_eq_false_iff, Bool.or_eq_false_iff] at c74
                    refine W.region ?_
                    refine WL.c rfl (o_eq rfl rfl ?_)
                    refine WL.c rfl (o_ash (show _ = Value.bool _ from rfl) ?_)
                    refine WL.nil ?_
                    refine W.cond rfl (fun c74 => ?_) (fun c74 => ?_)
                    · try simp only [decide_eq_true_eq, decide_eq_false_iff_not, Bool.not_eq_true', Bool.not_eq_false', Bool.and_eq_true, Bool.or_eq_true, Bool.and_eq_false_iff, Bool.or_eq_false_iff] at c74
                      refine W.region ?_
                      refine WL.c rfl (o_fa 1 TI30 rfl TI3 rfl rfl ?_)
                      refine WL.c rfl (o_ld TI3 rfl rfl (cell_of hC2 rfl) ?_)
                      refine WL.c rfl (o_eq rfl rfl ?_)
                      refine WL.c rfl (o_mvh (show _ = Value.bool _ from rfl) ?_)
                      refine WL.sp 3 rfl (fun g80 => ?_) (fun g80 => ?_)
                      · skip
                        refine WL.g rfl (g80) rfl (o_fa 5 TI30 rfl TI3 rfl rfl ?_)
                        refine WL.g rfl (g80) rfl (o_ld TI3 rfl rfl (cell_of hC2 rfl) ?_)
                        refine WL.g rfl (g80) rfl (o_ge rfl rfl ?_)
                        refine WL.c rfl (o_pickA rfl rfl ?_)
                        refine WL.c rfl (o_ash (show _ = Value.bool _ from rfl) ?_)
                        refine WL.nil ?_
                        exact ⟨rfl, rfl, congrArg Value.bool (by rw [Bool.eq_iff_iff]; simp_all [okB] <;> omega), rfl⟩
                      · skip
                        refine WL.s rfl (g80) rfl ?_
                        refine WL.s rfl (g80) rfl ?_
                        refine WL.s rfl (g80) rfl ?_
                        refine WL.c rfl (o_pickF rfl (g80) ?_)
                        refine WL.c rfl (o_ash (show _ = Value.bool _ from rfl) ?_)
                        refine WL.nil ?_
                        exact ⟨rfl, rfl, congrArg Value.bool (by rw [Bool.eq_iff_iff]; simp_all [okB] <;> omega), rfl⟩
                    · try simp only [decide_eq_true_eq, decide_eq_false_iff_not, Bool.not_eq_true', Bool.not_eq_false', Bool.and_eq_true, Bool.or_eq_true, Bool.and_eq_false_iff, Bool.or_eq_false_iff] at c74
                      refine W.seq ?_
                      refine W.region ?_
                      refine WL.c rfl (o_ash (show _ = Value.bool _ from rfl) ?_)
                      refine WL.nil ?_
                      refine W.ret ?_
                      refine ret1v rfl (show _ = Value.bool _ from rfl) ?_
                      have h9 : okB x = false := by
                        unfold okB
                        repeat' split
                        all_goals first | rfl | omega
                      exact ⟨congrArg Value.bool (by rw [rightB, h9]; rfl), hx2⟩
            · try simp only [decide_eq_true_eq, decide_eq_false_iff_not, Bool.not_eq_true', Bool.not_eq_false', Bool.and_eq_true, Bool.or_eq_true, Bool.and_eq_false_iff, Bool.or_eq_false_iff] at c48
              refine W.region ?_
              refine WL.c rfl (o_eq rfl rfl ?_)
              refine WL.c rfl (o_ash (show _ = Value.bool _ from rfl) ?_)
              refine WL.nil ?_
              refine W.cond rfl (fun c48 => ?_) (fun c48 => ?_)
              · try simp only [decide_eq_true_eq, decide_eq_false_iff_not, Bool.not_eq_true', Bool.not_eq_false', Bool.and_eq_true, Bool.or_eq_true, Bool.and_eq_false_iff, Bool.or_eq_false_iff] at c48
                refine W.region ?_
                refine WL.c rfl (o_fa 1 TI30 rfl TI3 rfl rfl ?_)
                refine WL.c rfl (o_ld TI3 rfl rfl (cell_of hC2 rfl) ?_)
                refine WL.c rfl (o_ge rfl rfl ?_)
                refine WL.c rfl (o_mvh (show _ = Value.bool _ from rfl) ?_)
                refine WL.sp 3 rfl (fun g54 => ?_) (fun g54 => ?_)
                · skip
                  refine WL.g rfl (g54) rfl (o_fa 1 TI30 rfl TI3 rfl rfl ?_)
                  refine WL.g rfl (g54) rfl (o_ld TI3 rfl rfl (cell_of hC2 rfl) ?_)
                  refine WL.g rfl (g54) rfl (o_le rfl rfl ?_)
                  refine WL.c rfl (o_pickA rfl rfl ?_)
                  refine WL.c rfl (o_mvh (show _ = Value.bool _ from rfl) ?_)
                  refine WL.sp 8 rfl (fun g59 => ?_) (fun g59 => ?_)
                  · skip
                    refine WL.g rfl (g59) rfl (o_fa 5 TI30 rfl TI3 rfl rfl ?_)
                    refine WL.g rfl (g59) rfl (o_ld TI3 rfl rfl (cell_of hC2 rfl) ?_)
                    refine WL.g rfl (g59) rfl (o_eq rfl rfl ?_)
                    refine WL.c rfl (o_pickA rfl rfl ?_)
                    refine WL.c rfl (o_ash (show _ = Value.bool _ from rfl) ?_)
                    refine WL.nil ?_
                    exact ⟨rfl, rfl, congrArg Value.bool (by rw [Bool.eq_iff_iff]; simp_all [okB] <;> omega), rfl⟩
                  · skip
                    refine WL.s rfl (g59) rfl ?_
                    refine WL.s rfl (g59) rfl ?_
                    refine WL.s rfl (g59) rfl ?_
                    refine WL.c rfl (o_pickF rfl (g59) ?_)
                    refine WL.c rfl (o_ash (show _ = Value.bool _ from rfl) ?_)
                    refine WL.nil ?_
                    exact ⟨rfl, rfl, congrArg Value.bool (by rw [Bool.eq_iff_iff]; simp_all [okB] <;> omega), rfl⟩
                · skip
                  refine WL.s rfl (g54) rfl ?_
                  refine WL.s rfl (g54) rfl ?_
                  refine WL.s rfl (g54) rfl ?_
                  refine WL.c rfl (o_pickF rfl (g54) ?_)
                  refine WL.c rfl (o_mvh (show _ = Value.bool _ from rfl) ?_)
                  refine WL.s rfl (rfl) rfl ?_
                  refine WL.s rfl (rfl) rfl ?_
                  refine WL.s rfl (rfl) rfl ?_
                  refine WL.c rfl (o_pickF rfl (rfl) ?_)
                  refine WL.c rfl (o_ash (show _ = Value.bool _ from rfl) ?_)
                  refine WL.nil ?_
                  exact ⟨rfl, rfl, congrArg Value.bool (by rw [Bool.eq_iff_iff]; simp_all [okB] <;> omega), rfl⟩
              · try simp only [decide_eq_true_eq, decide_eq_false_iff_not, Bool.not_eq_true', Bool.not_eq_false', Bool.and_eq_true, Bool.or_eq_true, Bool.and_eq_false_iff, Bool.or_eq_false_iff] at c48
                refine W.seq ?_
                refine W.region ?_
                refine WL.c rfl (o_eq rfl rfl ?_)
                refine WL.c rfl (o_ash (show _ = Value.bool _ from rfl) ?_)
                refine WL.nil ?_
                refine W.cond rfl (fun c64 => ?_) (fun c64 => ?_)
                · try simp only [decide_eq_true_eq, decide_eq_false_iff_not, Bool.not_eq_true', Bool.not_eq_false', Bool.and_eq_true, Bool.or_eq_true, Bool.and_eq_false_iff, Bool.or_eq_false_iff] at c64
                  refine W.region ?_
                  refine WL.c rfl (o_fa 1 TI30 rfl TI3 rfl rfl ?_)
                  refine WL.c rfl (o_ld TI3 rfl rfl (cell_of hC2 rfl) ?_)
                  refine WL.c rfl (o_eq rfl rfl ?_)
                  refine WL.c rfl (o_mvh (show _ = Value.bool _ from rfl) ?_)
                  refine WL.sp 3 rfl (fun g69 => ?_) (fun g69 => ?_)
                  · skip
                    refine WL.g rfl (g69) rfl (o_fa 5 TI30 rfl TI3 rfl rfl ?_)
                    refine WL.g rfl (g69) rfl (o_ld TI3 rfl rfl (cell_of hC2 rfl) ?_)
                    refine WL.g rfl (g69) rfl (o_eq rfl rfl ?_)
                    refine WL.c rfl (o_pickA rfl rfl ?_)
                    refine WL.c rfl (o_ash (show _ = Value.bool _ from rfl) ?_)
                    refine WL.nil ?_
                    exact ⟨rfl, rfl, congrArg Value.bool (by rw [Bool.eq_iff_iff]; simp_all [okB] <;> omega), rfl⟩
                  · skip
                    refine WL.s rfl (g69) rfl ?_
                    refine WL.s rfl (g69) rfl ?_
                    refine WL.s rfl (g69) rfl ?_
                    refine WL.c rfl (o_pickF rfl (g69) ?_)
                    refine WL.c rfl (o_ash (show _ = Value.bool _ from rfl) ?_)
                    refine WL.nil ?_
                    exact ⟨rfl, rfl, congrArg Value.bool (by rw [Bool.eq_iff_iff]; simp_all [okB] <;> omega), rfl⟩
                · try simp only [decide_eq_true_eq, decide_eq_false_iff_not, Bool.not_eq_true', Bool.not_eq_false', Bool.and_eq_true, Bool.or_eq_true, Bool.and_eq_false_iff, Bool.or_eq_false_iff] at c64
                  refine W.seq ?_
                  refine W.seq ?_
                  refine W.region ?_
                  refine WL.c rfl (o_eq rfl rfl ?_)
                  refine WL.c rfl (o_ash (show _ = Value.bool _ from rfl) ?_)
                  refine WL.nil ?_
                  refine W.cond rfl (fun c74 => ?_) (fun c74 => ?_)
                  · try simp only [decide_eq_true_eq, decide_eq_false_iff_not, Bool.not_eq_true', Bool.not_eq_false', Bool.and_eq_true, Bool.or_eq_true, Bool.and_eq_false_iff, Bool.or_eq_false_iff] at c74
                    refine W.skip ?_
                    refine W.cond rfl (fun c74 => ?_) (fun c74 => ?_)
                    · try simp only [decide_eq_true_eq, decide_eq_false_iff_not, Bool.not_eq_true', Bool.not_eq_false', Bool.and_eq_true, Bool.or_eq_true, Bool.and_eq_false_iff, Bool.or_eq_false_iff] at c74
                      refine W.region ?_
                      refine WL.c rfl (o_fa 1 TI30 rfl TI3 rfl rfl ?_)
                      refine WL.c rfl (o_ld TI3 rfl rfl (cell_of hC2 rfl) ?_)
                      refine WL.c rfl (o_eq rfl rfl ?_)
                      refine WL.c rfl (o_mvh (show _ = Value.bool _ from rfl) ?_)
                      refine WL.sp 3 rfl (fun g80 => ?_) (fun g80 => ?_)
                      · skip
                        refine WL.g rfl (g80) rfl (o_fa 5 TI30 rfl TI3 rfl rfl ?_)
                        refine WL.g rfl (g80) rfl (o_ld TI3 rfl rfl (cell_of hC2 rfl) ?_)
                        refine WL.g rfl (g80) rfl (o_ge rfl rfl ?_)
                        refine WL.c rfl (o_pickA rfl rfl ?_)
                        refine WL.c rfl (o_ash (show _ = Value.bool _ from rfl) ?_)
                        refine WL.nil ?_
                        exact ⟨rfl, rfl, congrArg Value.bool (by rw [Bool.eq_iff_iff]; simp_all [okB] <;> omega), rfl⟩
                      · skip
                        refine WL.s rfl (g80) rfl ?_
                        refine WL.s rfl (g80) rfl ?_
                        refine WL.s rfl (g80) rfl ?_
                        refine WL.c rfl (o_pickF rfl (g80) ?_)
                        refine WL.c rfl (o_ash (show _ = Value.bool _ from rfl) ?_)
                        refine WL.nil ?_
                        exact ⟨rfl, rfl, congrArg Value.bool (by rw [Bool.eq_iff_iff]; simp_all [okB] <;> omega), rfl⟩
                    · try simp only [decide_eq_true_eq, decide_eq_false_iff_not, Bool.not_eq_true', Bool.not_eq_false', Bool.and_eq_true, Bool.or_eq_true, Bool.and_eq_false_iff, Bool.or_eq_false_iff] at c74
                      refine W.seq ?_
                      refine W.region ?_
                      refine WL.c rfl (o_ash (show _ = Value.bool _ from rfl) ?_)
                      refine WL.nil ?_
                      refine W.ret ?_
                      refine ret1v rfl (show _ = Value.bool _ from rfl) ?_
                      have h9 : okB x = false := by
                        unfold okB
                        repeat' split
                        all_goals first | rfl | omega
                      exact ⟨congrArg Value.bool (by rw [rightB, h9]; rfl), hx2⟩
                  · try simp only [decide_eq_true_eq, decide_eq_false_iff_not, Bool.not_eq_true', Bool.not_eq_false', Bool.and_eq_true, Bool.or_eq_true, Bool.and_eq_false_iff, Bool.or_eq_false_iff] at c74
                    refine W.region ?_
                    refine WL.c rfl (o_eq rfl rfl ?_)
                    refine WL.c rfl (o_ash (show _ = Value.bool _ from rfl) ?_)
                    refine WL.nil ?_
                    refine W.cond rfl (fun c74 => ?_) (fun c74 => ?_)
                    · try simp only [decide_eq_true_eq, decide_eq_false_iff_not, Bool.not_eq_true', Bool.not_eq_false', Bool.and_eq_true, Bool.or_eq_true, Bool.and_eq_false_iff, Bool.or_eq_false_iff] at c74
                      refine W.region ?_
                      refine WL.c rfl (o_fa 1 TI30 rfl TI3 rfl rfl ?_)
                      refine WL.c rfl (o_ld TI3 rfl rfl (cell_of hC2 rfl) ?_)
                      refine WL.c rfl (o_eq rfl rfl ?_)
                      refine WL.c rfl (o_mvh (show _ = Value.bool _ from rfl) ?_)
                      refine WL.sp 3 rfl (fun g80 => ?_) (fun g80 => ?_)
                      · skip
                        refine WL.g rfl (g80) rfl (o_fa 5 TI30 rfl TI3 rfl rfl ?_)
                        refine WL.g rfl (g80) rfl (o_ld TI3 rfl rfl (cell_of hC2 rfl) ?_)
                        refine WL.g rfl (g80) rfl (o_ge rfl rfl ?_)
                        refine WL.c rfl (o_pickA rfl rfl ?_)
                        refine WL.c rfl (o_ash (show _ = Value.bool _ from rfl) ?_)
                        refine WL.nil ?_
                        exact ⟨rfl, rfl, congrArg Value.bool (by rw [Bool.eq_iff_iff]; simp_all [okB] <;> omega), rfl⟩
                      · skip
                        refine WL.s rfl (g80) rfl ?_
                        refine WL.s rfl (g80) rfl ?_
                        refine WL.s rfl (g80) rfl ?_
                        refine WL.c rfl (o_pickF rfl (g80) ?_)
                        refine WL.c rfl (o_ash (show _ = Value.bool _ from rfl) ?_)
                        refine WL.nil ?_
                        exact ⟨rfl, rfl, congrArg Value.bool (by rw [Bool.eq_iff_iff]; simp_all [okB] <;> omega), rfl⟩
                    · try simp only [decide_eq_true_eq, decide_eq_false_iff_not, Bool.not_eq_true', Bool.not_eq_false', Bool.and_eq_true, Bool.or_eq_true, Bool.and_eq_false_iff, Bool.or_eq_false_iff] at c74
                      refine W.seq ?_
                      refine W.region ?_
                      refine WL.c rfl (o_ash (show _ = Value.bool _ from rfl) ?_)
                      refine WL.nil ?_
                      refine W.ret ?_
                      refine ret1v rfl (show _ = Value.bool _ from rfl) ?_
                      have h9 : okB x = false := by
                        unfold okB
                        repeat' split
                        all_goals first | rfl | omega
                      exact ⟨congrArg Value.bool (by rw [rightB, h9]; rfl), hx2⟩
        · try simp only [decide_eq_true_eq, decide_eq_false_iff_not, Bool.not_eq_true', Bool.not_eq_false', Bool.and_eq_true, Bool.or_eq_true, Bool.and_eq_false_iff, Bool.or_eq_false_iff] at c36
          refine W.region ?_
          refine WL.c rfl (o_eq rfl rfl ?_)
          refine WL.c rfl (o_ash (show _ = Value.bool _ from rfl) ?_)
          refine WL.nil ?_
          refine W.cond rfl (fun c36 => ?_) (fun c36 => ?_)
          · try simp only [decide_eq_true_eq, decide_eq_false_iff_not, Bool.not_eq_true', Bool.not_eq_false', Bool.and_eq_true, Bool.or_eq_true, Bool.and_eq_false_iff, Bool.or_eq_false_iff] at c36
            refine W.region ?_
            refine WL.c rfl (o_fa 1 TI30 rfl TI3 rfl rfl ?_)
            refine WL.c rfl (o_ld TI3 rfl rfl (cell_of hC2 rfl) ?_)
            refine WL.c rfl (o_eq rfl rfl ?_)
            refine WL.c rfl (o_mvh (show _ = Value.bool _ from rfl) ?_)
            refine WL.sp 3 rfl (fun g43 => ?_) (fun g43 => ?_)
            · skip
              refine WL.g rfl (g43) rfl (o_fa 5 TI30 rfl TI3 rfl rfl ?_)
              refine WL.g rfl (g43) rfl (o_ld TI3 rfl rfl (cell_of hC2 rfl) ?_)
              refine WL.g rfl (g43) rfl (o_eq rfl rfl ?_)
              refine WL.c rfl (o_pickA rfl rfl ?_)
              refine WL.c rfl (o_ash (show _ = Value.bool _ from rfl) ?_)
              refine WL.nil ?_
              exact ⟨rfl, rfl, congrArg Value.bool (by rw [Bool.eq_iff_iff]; simp_all [okB] <;> omega), rfl⟩
            · skip
              refine WL.s rfl (g43) rfl ?_
              refine WL.s rfl (g43) rfl ?_
              refine WL.s rfl (g43) rfl ?_
              refine WL.c rfl (o_pickF rfl (g43) ?_)
              refine WL.c rfl (o_ash (show _ = Value.bool _ from rfl) ?_)
              refine WL.nil ?_
              exact ⟨rfl, rfl, congrArg Value.bool (by rw [Bool.eq_iff_iff]; simp_all [okB] <;> omega), rfl⟩
          · try simp only [decide_eq_true_eq, decide_eq_false_iff_not, Bool.not_eq_true', Bool.not_eq_false', Bool.and_eq_true, Bool.or_eq_true, Bool.and_eq_false_iff, Bool.or_eq_false_iff] at c36
            refine W.seq ?_
            refine W.seq ?_
            refine W.region ?_
            refine WL.c rfl (o_eq rfl rfl ?_)
            refine WL.c rfl (o_ash (show _ = Value.bool _ from rfl) ?_)
            refine WL.nil ?_
            refine W.cond rfl (fun c48 => ?_) (fun c48 => ?_)
            · try simp only [decide_eq_true_eq, decide_eq_false_iff_not, Bool.not_eq_true', Bool.not_eq_false', Bool.and_eq_true, Bool.or_eq_true, Bool.and_eq_false_iff, Bool.or_eq_false_iff] at c48
              refine W.skip ?_
              refine W.cond rfl (fun c48 => ?_) (fun c48 => ?_)
              · try simp only [decide_eq_true_eq, decide_eq_false_iff_not, Bool.not_eq_true', Bool.not_eq_false', Bool.and_eq_true, Bool.or_eq_true, Bool.and_eq_false_iff, Bool.or_eq_false_iff] at c48
                refine W.region ?_
                refine WL.c rfl (o_fa 1 TI30 rfl TI3 rfl rfl ?_)
                refine WL.c rfl (o_ld TI3 rfl rfl (cell_of hC2 rfl) ?_)
                refine WL.c rfl (o_ge rfl rfl ?_)
                refine WL.c rfl (o_mvh (show _ = Value.bool _ from rfl) ?_)
                refine WL.sp 3 rfl (fun g54 => ?_) (fun g54 => ?_)
                · skip
                  refine WL.g rfl (g54) rfl (o_fa 1 TI30 rfl TI3 rfl rfl ?_)
                  refine WL.g rfl (g54) rfl (o_ld TI3 rfl rfl (cell_of hC2 rfl) ?_)
                  refine WL.g rfl (g54) rfl (o_le rfl rfl ?_)
                  refine WL.c rfl (o_pickA rfl rfl ?_)
                  refine WL.c rfl (o_mvh (show _ = Value.bool _ from rfl) ?_)
                  refine WL.sp 8 rfl (fun g59 => ?_) (fun g59 => ?_)
                  · skip
                    refine WL.g rfl (g59) rfl (o_fa 5 TI30 rfl TI3 rfl rfl ?_)
                    refine WL.g rfl (g59) rfl (o_ld TI3 rfl rfl (cell_of hC2 rfl) ?_)
                    refine WL.g rfl (g59) rfl (o_eq rfl rfl ?_)
                    refine WL.c rfl (o_pickA rfl rfl ?_)
                    refine WL.c rfl (o_ash (show _ = Value.bool _ from rfl) ?_)
                    refine WL.nil ?_
                    exact ⟨rfl, rfl, congrArg Value.bool (by rw [Bool.eq_iff_iff]; simp_all [okB] <;> omega), rfl⟩
                  · skip
                    refine WL.s rfl (g59) rfl ?_
                    refine WL.s rfl (g59) rfl ?_
                    refine WL.s rfl (g59) rfl ?_
                    refine WL.c rfl (o_pickF rfl (g59) ?_)
                    refine WL.c rfl (o_ash (show _ = Value.bool _ from rfl) ?_)
                    refine WL.nil ?_
                    exact ⟨rfl, rfl, congrArg Value.bool (by rw [Bool.eq_iff_iff]; simp_all [okB] <;> omega), rfl⟩
                · skip
                  refine WL.s rfl (g54) rfl ?_
                  refine WL.s rfl (g54) rfl ?_
                  refine WL.s rfl (g54) rfl ?_
                  refine WL.c rfl (o_pickF rfl (g54) ?_)
                  refine WL.c rfl (o_mvh (show _ = Value.bool _ from rfl) ?_)
                  refine WL.s rfl (rfl) rfl ?_
                  refine WL.s rfl (rfl) rfl ?_
                  refine WL.s rfl (rfl) rfl ?_
                  refine WL.c rfl (o_pickF rfl (rfl) ?_)
                  refine WL.c rfl (o_ash (show _ = Value.bool _ from rfl) ?_)
                  refine WL.nil ?_
                  exact ⟨rfl, rfl, congrArg Value.bool (by rw [Bool.eq_iff_iff]; simp_all [okB] <;> omega), rfl⟩
              · try simp only [decide_eq_true_eq, decide_eq_false_iff_not, Bool.not_eq_true', Bool.not_eq_false', Bool.and_eq_true, Bool.or_eq_true, Bool.and_eq_false_iff, Bool.or_eq_false_iff] at c48
                refine W.seq ?_
                refine W.region ?_
                refine WL.c rfl (o_eq rfl rfl ?_)
                refine WL.c rfl (o_ash (show _ = Value.bool _ from rfl) ?_)
                refine WL.nil ?_
                refine W.cond rfl (fun c64 => ?_) (fun c64 => ?_)
                · try simp only [decide_eq_true_eq, decide_eq_false_iff_not, Bool.not_eq_true', Bool.not_eq_false', Bool.and_eq_true, Bool.or_eq_true, Bool.and_eq_false_iff, Bool.or_eq_false_iff] at c64
                  refine W.region ?_
                  refine WL.c rfl (o_fa 1 TI30 rfl TI3 rfl rfl ?_)
                  refine WL.c rfl (o_ld TI3 rfl rfl (cell_of hC2 rfl) ?_)
                  refine WL.c rfl (o_eq rfl rfl ?_)
                  refine WL.c rfl (o_mvh (show _ = Value.bool _ from rfl) ?_)
                  refine WL.sp 3 rfl (fun g69 => ?_) (fun g69 => ?_)
                  · skip
                    refine WL.g rfl (g69) rfl (o_fa 5 TI30 rfl TI3 rfl rfl ?_)
                    refine WL.g rfl (g69) rfl (o_ld TI3 rfl rfl (cell_of hC2 rfl) ?_)
                    refine WL.g rfl (g69) rfl (o_eq rfl rfl ?_)
                    refine WL.c rfl (o_pickA rfl rfl ?_)
                    refine WL.c rfl (o_ash (show _ = Value.bool _ from rfl) ?_)
                    refine WL.nil ?_
                    exact ⟨rfl, rfl, congrArg Value.bool (by rw [Bool.eq_iff_iff]; simp_all [okB] <;> omega), rfl⟩
                  · skip
                    refine WL.s rfl (g69) rfl ?_
                    refine WL.s rfl (g69) rfl ?_
                    refine WL.s rfl (g69) rfl ?_
                    refine WL.c rfl (o_pickF rfl (g69) ?_)
                    refine WL.c rfl (o_ash (show _ = Value.bool _ from rfl) ?_)
                    refine WL.nil ?_
                    exact ⟨rfl, rfl, congrArg Value.bool (by rw [Bool.eq_iff_iff]; simp_all [okB] <;> omega), rfl⟩
                · try simp only [decide_eq_true_eq, decide_eq_false_iff_not, Bool.not_eq_true', Bool.not_eq_false', Bool.and_eq_true, Bool.or_eq_true, Bool.and_eq_false_iff, Bool.or_eq_false_iff] at c64
                  refine W.seq ?_
                  refine W.seq ?_
                  refine W.region ?_
                  refine WL.c rfl (o_eq rfl rfl ?_)
                  refine WL.c rfl (o_ash (show _ = Value.bool _ from rfl) ?_)
                  refine WL.nil ?_
                  refine W.cond rfl (fun c74 => ?_) (fun c74 => ?_)
                  · try simp only [decide_eq_true_eq, decide_eq_false_iff_not, Bool.not_eq_true', Bool.not_eq_false', Bool.and_eq_true, Bool.or_eq_true, Bool.and_eq_false_iff, Bool.or_eq_false_iff] at c74
                    refine W.skip ?_
                    refine W.cond rfl (fun c74 => ?_) (fun c74 => ?_)
                    · try simp only [decide_eq_true_eq, decide_eq_false_iff_not, Bool.not_eq_true', Bool.not_eq_false', Bool.and_eq_true, Bool.or_eq_true, Bool.and_eq_false_iff, Bool.or_eq_false_iff] at c74
                      refine W.region ?_
                      refine WL.c rfl (o_fa 1 TI30 rfl TI3 rfl rfl ?_)
                      refine WL.c rfl (o_ld TI3 rfl rfl (cell_of hC2 rfl) ?_)
                      refine WL.c rfl (o_eq rfl rfl ?_)
                      refine WL.c rfl (o_mvh (show _ = Value.bool _ from rfl) ?_)
                      refine WL.sp 3 rfl (fun g80 => ?_) (fun g80 => ?_)
                      · skip
                        refine WL.g rfl (g80) rfl (o_fa 5 TI30 rfl TI3 rfl rfl ?_)
                        refine WL.g rfl (g80) rfl (o_ld TI3 rfl rfl (cell_of hC2 rfl) ?_)
                        refine WL.g rfl (g80) rfl (o_ge rfl rfl ?_)
                        refine WL.c rfl (o_pickA rfl rfl ?_)
                        refine WL.c rfl (o_ash (show _ = Value.bool _ from rfl) ?_)
                        refine WL.nil ?_
                        exact ⟨rfl, rfl, congrArg Value.bool (by rw [Bool.eq_iff_iff]; simp_all [okB] <;> omega), rfl⟩
                      · skip
                        refine WL.s rfl (g80) rfl ?_
                        refine WL.s rfl (g80) rfl ?_
                        refine WL.s rfl (g80) rfl ?_
                        refine WL.c rfl (o_pickF rfl (g80) ?_)
                        refine WL.c rfl (o_ash (show _ = Value.bool _ from rfl) ?_)
                        refine WL.nil ?_
                        exact ⟨rfl, rfl, congrArg Value.bool (by rw [Bool.eq_iff_iff]; simp_all [okB] <;> omega), rfl⟩
                    · try simp only [decide_eq_true_eq, decide_eq_false_iff_not, Bool.not_eq_true', Bool.not_eq_false', Bool.and_eq_true, Bool.or_eq_true, Bool.and_eq_false_iff, Bool.or_eq_false_iff] at c74
                      refine W.seq ?_
                      refine W.region ?_
                      refine WL.c rfl (o_ash (show _ = Value.bool _ from rfl) ?_)
                      refine WL.nil ?_
                      refine W.ret ?_
                      refine ret1v rfl (show _ = Value.bool _ from rfl) ?_
                      have h9 : okB x = false := by
                        unfold okB
                        repeat' split
                        all_goals first | rfl | omega
                      exact ⟨congrArg Value.bool (by rw [rightB, h9]; rfl), hx2⟩
                  · try simp only [decide_eq_true_eq, decide_eq_false_iff_not, Bool.not_eq_true', Bool.not_eq_false', Bool.and_eq_true, Bool.or_eq_true, Bool.and_eq_false_iff, Bool.or_eq_false_iff] at c74
                    refine W.region ?_
                    refine WL.c rfl (o_eq rfl rfl ?_)
                    refine WL.c rfl (o_ash (show _ = Value.bool _ from rfl) ?_)
                    refine WL.nil ?_
                    refine W.cond rfl (fun c74 => ?_) (fun c74 => ?_)
                    · try simp only [decide_eq_true_eq, decide_eq_false_iff_not, Bool.not_eq_true', Bool.not_eq_false', Bool.and_eq_true, Bool.or_eq_true, Bool.and_eq_false_iff, Bool.or_eq_false_iff] at c74
                      refine W.region ?_
                      refine WL.c rfl (o_fa 1 TI30 rfl TI3 rfl rfl ?_)
                      refine WL.c rfl (o_ld TI3 rfl rfl (cell_of hC2 rfl) ?_)
                      refine WL.c rfl (o_eq rfl rfl ?_)
                      refine WL.c rfl (o_mvh (show _ = Value.bool _ from rfl) ?_)
                      refine WL.sp 3 rfl (fun g80 => ?_) (fun g80 => ?_)
                      · skip
                        refine WL.g rfl (g80) rfl (o_fa 5 TI30 rfl TI3 rfl rfl ?_)
                        refine WL.g rfl (g80) rfl (o_ld TI3 rfl rfl (cell_of hC2 rfl) ?_)
                        refine WL.g rfl (g80) rfl (o_ge rfl rfl ?_)
                        refine WL.c rfl (o_pickA rfl rfl ?_)
                        refine WL.c rfl (o_ash (show _ = Value.bool _ from rfl) ?_)
                        refine WL.nil ?_
                        exact ⟨rfl, rfl, congrArg Value.bool (by rw [Bool.eq_iff_iff]; simp_all [okB] <;> omega), rfl⟩
                      · skip
                        refine WL.s rfl (g80) rfl ?_
                        refine WL.s rfl (g80) rfl ?_
                        refine WL.s rfl (g80) rfl ?_
                        refine WL.c rfl (o_pickF rfl (g80) ?_)
                        refine WL.c rfl (o_ash (show _ = Value.bool _ from rfl) ?_)
                        refine WL.nil ?_
                        exact ⟨rfl, rfl, congrArg Value.bool (by rw [Bool.eq_iff_iff]; simp_all [okB] <;> omega), rfl⟩
                    · try simp only [decide_eq_true_eq, decide_eq_false_iff_not, Bool.not_eq_true', Bool.not_eq_false', Bool.and_eq_true, Bool.or_eq_true, Bool.and_eq_false_iff, Bool.or_eq_false_iff] at c74
                      refine W.seq ?_
                      refine W.region ?_
                      refine WL.c rfl (o_ash (show _ = Value.bool _ from rfl) ?_)
                      refine WL.nil ?_
                      refine W.ret ?_
                      refine ret1v rfl (show _ = Value.bool _ from rfl) ?_
                      have h9 : okB x = false := by
                        unfold okB
                        repeat' split
                        all_goals first | rfl | omega
                      exact ⟨congrArg Value.bool (by rw [rightB, h9]; rfl), hx2⟩
            · try simp only [decide_eq_true_eq, decide_eq_false_iff_not, Bool.not_eq_true', Bool.not_eq_false', Bool.and_eq_true, Bool.or_eq_true, Bool.and_eq_false_iff, Bool.or_eq_false_iff] at c48
              refine W.region ?_
              refine WL.c rfl (o_eq rfl rfl ?_)
              refine WL.c rfl (o_ash (show _ = Value.bool _ from rfl) ?_)
              refine WL.nil ?_
              refine W.cond rfl (fun c48 => ?_) (fun c48 => ?_)
              · try simp only [decide_eq_true_eq, decide_eq_false_iff_not, Bool.not_eq_true', Bool.not_eq_false', Bool.and_eq_true, Bool.or_eq_true, Bool.and_eq_false_iff, Bool.or_eq_false_iff] at c48
                refine W.region ?_
                refine WL.c rfl (o_fa 1 TI30 rfl TI3 rfl rfl ?_)
                refine WL.c rfl (o_ld TI3 rfl rfl (cell_of hC2 rfl) ?_)
                refine WL.c rfl (o_ge rfl rfl ?_)
                refine WL.c rfl (o_mvh (show _ = Value.bool _ from rfl) ?_)
                refine WL.sp 3 rfl (fun g54 => ?_) (fun g54 => ?_)
                · skip
                  refine WL.g rfl (g54) rfl (o_fa 1 TI30 rfl TI3 rfl rfl ?_)
                  refine WL.g rfl (g54) rfl (o_ld TI3 rfl rfl (cell_of hC2 rfl) ?_)
                  refine WL.g rfl (g54) rfl (o_le rfl rfl ?_)
                  refine WL.c rfl (o_pickA rfl rfl ?_)
                  refine WL.c rfl (o_mvh (show _ = Value.bool _ from rfl) ?_)
                  refine WL.sp 8 rfl (fun g59 => ?_) (fun g59 => ?_)
                  · skip
                    refine WL.g rfl (g59) rfl (o_fa 5 TI30 rfl TI3 rfl rfl ?_)
                    refine WL.g rfl (g59) rfl (o_ld TI3 rfl rfl (cell_of hC2 rfl) ?_)
                    refine WL.g rfl (g59) rfl (o_eq rfl rfl ?_)
                    refine WL.c rfl (o_pickA rfl rfl ?_)
                    refine WL.c rfl (o_ash (show _ = Value.bool _ from rfl) ?_)
                    refine WL.nil ?_
                    exact ⟨rfl, rfl, congrArg Value.bool (by rw [Bool.eq_iff_iff]; simp_all [okB] <;> omega), rfl⟩
                  · skip
                    refine WL.s rfl (g59) rfl ?_
                    refine WL.s rfl (g59) rfl ?_
                    refine WL.s rfl (g59) rfl ?_
                    refine WL.c rfl (o_pickF rfl (g59) ?_)
                    refine WL.c rfl (o_ash (show _ = Value.bool _ from rfl) ?_)
                    refine WL.nil ?_
                    exact ⟨rfl, rfl, congrArg Value.bool (by rw [Bool.eq_iff_iff]; simp_all [okB] <;> omega), rfl⟩
                · skip
                  refine WL.s rfl (g54) rfl ?_
                  refine WL.s rfl (g54) rfl ?_
                  refine WL.s rfl (g54) rfl ?_
                  refine WL.c rfl (o_pickF rfl (g54) ?_)
                  refine WL.c rfl (o_mvh (show _ = Value.bool _ from rfl) ?_)
                  refine WL.s rfl (rfl) rfl ?_
                  refine WL.s rfl (rfl) rfl ?_
                  refine WL.s rfl (rfl) rfl ?_
                  refine WL.c rfl (o_pickF rfl (rfl) ?_)
                  refine WL.c rfl (o_ash (show _ = Value.bool _ from rfl) ?_)
                  refine WL.nil ?_
                  exact ⟨rfl, rfl, congrArg Value.bool (by rw [Bool.eq_iff_iff]; simp_all [okB] <;> omega), rfl⟩
              · try simp only [decide_eq_true_eq, decide_eq_false_iff_not, Bool.not_eq_true', Bool.not_eq_false', Bool.and_eq_true, Bool.or_eq_true, Bool.and_eq_false_iff, Bool.or_eq_false_iff] at c48
                refine W.seq ?_
                refine W.region ?_
                refine WL.c rfl (o_eq rfl rfl ?_)
                refine WL.c rfl (o_ash (show _ = Value.bool _ from rfl) ?_)
                refine WL.nil ?_
                refine W.cond rfl (fun c64 => ?_) (fun c64 => ?_)
                · try simp only [decide_eq_true_eq, decide_eq_false_iff_not, Bool.not_eq_true', Bool.not_eq_false', Bool.and_eq_true, Bool.or_eq_true, Bool.and_eq_false_iff, Bool.or_eq_false_iff] at c64
                  refine W.region ?_
                  refine WL.c rfl (o_fa 1 TI30 rfl TI3 rfl rfl ?_)
                  refine WL.c rfl (o_ld TI3 rfl rfl (cell_of hC2 rfl) ?_)
                  refine WL.c rfl (o_eq rfl rfl ?_)
                  refine WL.c rfl (o_mvh (show _ = Value.bool _ from rfl) ?_)
                  refine WL.sp 3 rfl (fun g69 => ?_) (fun g69 => ?_)
                  · skip
                    refine WL.g rfl (g69) rfl (o_fa 5 TI30 rfl TI3 rfl rfl ?_)
                    refine WL.g rfl (g69) rfl (o_ld TI3 rfl rfl (cell_of hC2 rfl) ?_)
                    refine WL.g rfl (g69) rfl (o_eq rfl rfl ?_)
                    refine WL.c rfl (o_pickA rfl rfl ?_)
                    refine WL.c rfl (o_ash (show _ = Value.bool _ from rfl) ?_)
                    refine WL.nil ?_
                    exact ⟨rfl, rfl, congrArg Value.bool (by rw [Bool.eq_iff_iff]; simp_all [okB] <;> omega), rfl⟩
                  · skip
                    refine WL.s rfl (g69) rfl ?_
                    refine WL.s rfl (g69) rfl ?_
                    refine WL.s rfl (g69) rfl ?_
                    refine WL.c rfl (o_pickF rfl (g69) ?_)
                    refine WL.c rfl (o_ash (show _ = Value.bool _ from rfl) ?_)
                    refine WL.nil ?_
                    exact ⟨rfl, rfl, congrArg Value.bool (by rw [Bool.eq_iff_iff]; simp_all [okB] <;> omega), rfl⟩
                · try simp only [decide_eq_true_eq, decide_eq_false_iff_not, Bool.not_eq_true', Bool.not_eq_false', Bool.and_eq_true, Bool.or_eq_true, Bool.and_eq_false_iff, Bool.or_eq_false_iff] at c64
                  refine W.seq ?_
                  refine W.seq ?_
                  refine W.region ?_
                  refine WL.c rfl (o_eq rfl rfl ?_)
                  refine WL.c rfl (o_ash (show _ = Value.bool _ from rfl) ?_)
                  refine WL.nil ?_
                  refine W.cond rfl (fun c74 => ?_) (fun c74 => ?_)
                  · try simp only [decide_eq_true_eq, decide_eq_false_iff_not, Bool.not_eq_true', Bool.not_eq_false', Bool.and_eq_true, Bool.or_eq_true, Bool.and_eq_false_iff, Bool.or_eq_false_iff] at c74
                    refine W.skip ?_
                    refine W.cond rfl (fun c74 => ?_) (fun c74 => ?_)
                    · try simp only [decide_eq_true_eq, decide_eq_false_iff_not, Bool.not_eq_true', Bool.not_eq_false', Bool.and_eq_true, Bool.or_eq_true, Bool.and_eq_false_iff, Bool.or_eq_false_iff] at c74
                      refine W.region ?_
                      refine WL.c rfl (o_fa 1 TI30 rfl TI3 rfl rfl ?_)
                      refine WL.c rfl (o_ld TI3 rfl rfl (cell_of hC2 rfl) ?_)
                      refine WL.c rfl (o_eq rfl rfl ?_)
                      refine WL.c rfl (o_mvh (show _ = Value.bool _ from rfl) ?_)
                      refine WL.sp 3 rfl (fun g80 => ?_) (fun g80 => ?_)
                      · skip
                        refine WL.g rfl (g80) rfl (o_fa 5 TI30 rfl TI3 rfl rfl ?_)
                        refine WL.g rfl (g80) rfl (o_ld TI3 rfl rfl (cell_of hC2 rfl) ?_)
                        refine WL.g rfl (g80) rfl (o_ge rfl rfl ?_)
                        refine WL.c rfl (o_pickA rfl rfl ?_)
                        refine WL.c rfl (o_ash (show _ = Value.bool _ from rfl) ?_)
                        refine WL.nil ?_
                        exact ⟨rfl, rfl, congrArg Value.bool (by rw [Bool.eq_iff_iff]; simp_all [okB] <;> omega), rfl⟩
                      · skip
                        refine WL.s rfl (g80) rfl ?_
                        refine WL.s rfl (g80) rfl ?_
                        refine WL.s rfl (g80) rfl ?_
                        refine WL.c rfl (o_pickF rfl (g80) ?_)
                        refine WL.c rfl (o_ash (show _ = Value.bool _ from rfl) ?_)
                        refine WL.nil ?_
                        exact ⟨rfl, rfl, congrArg Value.bool (by rw [Bool.eq_iff_iff]; simp_all [okB] <;> omega), rfl⟩
                    · try simp only [decide_eq_true_eq, decide_eq_false_iff_not, Bool.not_eq_true', Bool.not_eq_false', Bool.and_eq_true, Bool.or_eq_true, Bool.and_eq_false_iff, Bool.or_eq_false_iff] at c74
                      refine W.seq ?_
                      refine W.region ?_
                      refine WL.c rfl (o_ash (show _ = Value.bool _ from rfl) ?_)
                      refine WL.nil ?_
                      refine W.ret ?_
                      refine ret1v rfl (show _ = Value.bool _ from rfl) ?_
                      have h9 : okB x = false := by
                        unfold okB
                        repeat' split
                        all_goals first | rfl | omega
                      exact ⟨congrArg Value.bool (by rw [rightB, h9]; rfl), hx2⟩
                  · try simp only [decide_eq_true_eq, decide_eq_false_iff_not, Bool.not_eq_true', Bool.not_eq_false', Bool.and_eq_true, Bool.or_eq_true, Bool.and_eq_false_iff, Bool.or_eq_false_iff] at c74
                    refine W.region ?_
                    refine WL.c rfl (o_eq rfl rfl ?_)
                    refine WL.c rfl (o_ash (show _ = Value.bool _ from rfl) ?_)
                    refine WL.nil ?_
                    refine W.cond rfl (fun c74 => ?_) (fun c74 => ?_)
                    · try simp only [decide_eq_true_eq, decide_eq_false_iff_not, Bool.not_eq_true', Bool.not_eq_false', Bool.and_eq_true, Bool.or_eq_true, Bool.and_eq_false_iff, Bool.or_eq_false_iff] at c74
                      refine W.region ?_
                      refine WL.c rfl (o_fa 1 TI30 rfl TI3 rfl rfl ?_)
                      refine WL.c rfl (o_ld TI3 rfl rfl (cell_of hC2 rfl) ?_)
                      refine WL.c rfl (o_eq rfl rfl ?_)
                      refine WL.c rfl (o_mvh (show _ = Value.bool _ from rfl) ?_)
                      refine WL.sp 3 rfl (fun g80 => ?_) (fun g80 => ?_)
                      · skip
                        refine WL.g rfl (g80) rfl (o_fa 5 TI30 rfl TI3 rfl rfl ?_)
                        refine WL.g rfl (g80) rfl (o_ld TI3 rfl rfl (cell_of hC2 rfl) ?_)
                        refine WL.g rfl (g80) rfl (o_ge rfl rfl ?_)
                        refine WL.c rfl (o_pickA rfl rfl ?_)
                        refine WL.c rfl (o_ash (show _ = Value.bool _ from rfl) ?_)
                        refine WL.nil ?_
                        exact ⟨rfl, rfl, congrArg Value.bool (by rw [Bool.eq_iff_iff]; simp_all [okB] <;> omega), rfl⟩
                      · skip
                        refine WL.s rfl (g80) rfl ?_
                        refine WL.s rfl (g80) rfl ?_
                        refine WL.s rfl (g80) rfl ?_
                        refine WL.c rfl (o_pickF rfl (g80) ?_)
                        refine WL.c rfl (o_ash (show _ = Value.bool _ from rfl) ?_)
                        refine WL.nil ?_
                        exact ⟨rfl, rfl, congrArg Value.bool (by rw [Bool.eq_iff_iff]; simp_all [okB] <;> omega), rfl⟩
                    · try simp only [decide_eq_true_eq, decide_eq_false_iff_not, Bool.not_eq_true', Bool.not_eq_false', Bool.and_eq_true, Bool.or_eq_true, Bool.and_eq_false_iff, Bool.or_eq_false_iff] at c74
                      refine W.seq ?_
                      refine W.region ?_
                      refine WL.c rfl (o_ash (show _ = Value.bool _ from rfl) ?_)
                      refine WL.nil ?_
                      refine W.ret ?_
                      refine ret1v rfl (show _ = Value.bool _ from rfl) ?_
                      have h9 : okB x = false := by
                        unfold okB
                        repeat' split
                        all_goals first | rfl | omega
                      exact ⟨congrArg Value.bool (by rw [rightB, h9]; rfl), hx2⟩
  rintro e w ⟨h1, h2, h5, hw⟩
  subst hw
  refine W.seq ?_
  refine W.region ?_
  refine WL.cut (fun e1 w1 => e1 1 = .int .i64 above ∧ e1 2 = .pointer (some ⟨c2, 0, none⟩) ∧ e1 5 = .bool (okB x) ∧ e1 6 = .bool (namB x) ∧ w1 = w) ?_ ?_
  · -- region 18
    refine WL.c rfl (o_fa 0 TI30 rfl TI3 rfl h2 ?_)
    refine WL.c rfl (o_ld TI3 rfl rfl (cell_of hC2 rfl) ?_)
    refine WL.c rfl (o_eq rfl rfl ?_)
    refine WL.c rfl (o_mvh (show _ = Value.bool _ from rfl) ?_)
    refine WL.sp 3 rfl (fun g88 => ?_) (fun g88 => ?_)
    · skip
      refine WL.g rfl (g88) rfl (o_fa 2 TI30 rfl TI9 rfl h2 ?_)
      refine WL.g rfl (g88) rfl (o_ld TI9 rfl rfl (cell_of hC2 rfl) ?_)
      refine WL.g rfl (g88) rfl (o_call Try.call25 (lc rfl ln) ((name_spec x.name _ hn).mono ?_))
      rintro v91 w91 ⟨rfl, rfl⟩
      refine WL.c rfl (o_pickA rfl rfl ?_)
      refine WL.c rfl (o_mvh (show _ = Value.bool _ from rfl) ?_)
      refine WL.sp 8 rfl (fun g93 => ?_) (fun g93 => ?_)
      · skip
        refine WL.s rfl (g93) rfl ?_
        refine WL.s rfl (g93) rfl ?_
        refine WL.s rfl (g93) rfl ?_
        refine WL.s rfl (g93) rfl ?_
        refine WL.z rfl rfl ?_
        refine WL.z rfl rfl ?_
        refine WL.z rfl rfl ?_
        refine WL.s rfl (g93) rfl ?_
        refine WL.c rfl (o_pickT rfl (g93) ?_)
        refine WL.c rfl (o_ash (show _ = Value.bool _ from rfl) ?_)
        exact WL.nil (⟨h1, h2, h5, congrArg Value.bool (by rw [Bool.eq_iff_iff]; simp_all [namB] <;> omega), rfl⟩)
      · skip
        refine WL.g rfl (g93) rfl (o_fa 0 TI30 rfl TI3 rfl h2 ?_)
        refine WL.g rfl (g93) rfl (o_ld TI3 rfl rfl (cell_of hC2 rfl) ?_)
        refine WL.g rfl (g93) rfl (o_ne rfl rfl ?_)
        refine WL.g rfl (g93) rfl (o_mvh (show _ = Value.bool _ from rfl) ?_)
        refine WL.sp 12 rfl (fun g97 => ?_) (fun g97 => ?_)
        · skip
          refine WL.g rfl (g97) rfl (o_fa 2 TI30 rfl TI9 rfl h2 ?_)
          refine WL.g rfl (g97) rfl (o_ld TI9 rfl rfl (cell_of hC2 rfl) ?_)
          refine WL.g rfl (g97) rfl (o_eqT rfl rfl ?_)
          refine WL.g rfl (g93) rfl (o_pickA rfl rfl ?_)
          refine WL.c rfl (o_pickO rfl rfl ?_)
          refine WL.c rfl (o_ash (show _ = Value.bool _ from rfl) ?_)
          exact WL.nil (⟨h1, h2, h5, congrArg Value.bool (by rw [Bool.eq_iff_iff]; simp_all [namB] <;> omega), rfl⟩)
        · skip
          refine WL.s rfl (g97) rfl ?_
          refine WL.s rfl (g97) rfl ?_
          refine WL.s rfl (g97) rfl ?_
          refine WL.g rfl (g93) rfl (o_pickF rfl (g97) ?_)
          refine WL.c rfl (o_pickO rfl rfl ?_)
          refine WL.c rfl (o_ash (show _ = Value.bool _ from rfl) ?_)
          exact WL.nil (⟨h1, h2, h5, congrArg Value.bool (by rw [Bool.eq_iff_iff]; simp_all [namB] <;> omega), rfl⟩)
    · skip
      refine WL.s rfl (g88) rfl ?_
      refine WL.s rfl (g88) rfl ?_
      refine WL.s rfl (g88) rfl ?_
      refine WL.c rfl (o_pickF rfl (g88) ?_)
      refine WL.c rfl (o_mvh (show _ = Value.bool _ from rfl) ?_)
      refine WL.g rfl (rfl) rfl (o_fa 0 TI30 rfl TI3 rfl h2 ?_)
      refine WL.g rfl (rfl) rfl (o_ld TI3 rfl rfl (cell_of hC2 rfl) ?_)
      refine WL.g rfl (rfl) rfl (o_ne rfl rfl ?_)
      refine WL.g rfl (rfl) rfl (o_mvh (show _ = Value.bool _ from rfl) ?_)
      refine WL.sp 12 rfl (fun g97 => ?_) (fun g97 => ?_)
      · skip
        refine WL.g rfl (g97) rfl (o_fa 2 TI30 rfl TI9 rfl h2 ?_)
        refine WL.g rfl (g97) rfl (o_ld TI9 rfl rfl (cell_of hC2 rfl) ?_)
        refine WL.g rfl (g97) rfl (o_eqT rfl rfl ?_)
        refine WL.g rfl (rfl) rfl (o_pickA rfl rfl ?_)
        refine WL.c rfl (o_pickO rfl rfl ?_)
        refine WL.c rfl (o_ash (show _ = Value.bool _ from rfl) ?_)
        exact WL.nil (⟨h1, h2, h5, congrArg Value.bool (by rw [Bool.eq_iff_iff]; simp_all [namB] <;> omega), rfl⟩)
      · skip
        refine WL.s rfl (g97) rfl ?_
        refine WL.s rfl (g97) rfl ?_
        refine WL.s rfl (g97) rfl ?_
        refine WL.g rfl (rfl) rfl (o_pickF rfl (g97) ?_)
        refine WL.c rfl (o_pickO rfl rfl ?_)
        refine WL.c rfl (o_ash (show _ = Value.bool _ from rfl) ?_)
        exact WL.nil (⟨h1, h2, h5, congrArg Value.bool (by rw [Bool.eq_iff_iff]; simp_all [namB] <;> omega), rfl⟩)
  rintro e w ⟨h1, h2, h5, h6, hw⟩
  subst hw
  refine W.seq ?_
  refine W.region ?_
  refine WL.cut (fun e1 w1 => e1 1 = .int .i64 above ∧ e1 2 = .pointer (some ⟨c2, 0, none⟩) ∧ e1 5 = .bool (okB x) ∧ e1 6 = .bool (namB x) ∧ e1 7 = .bool (labB x above) ∧ w1 = w) ?_ ?_
  · -- region 19
    refine WL.c rfl (o_mvh h1 ?_)
    refine WL.c rfl (o_eq rfl rfl ?_)
    refine WL.c rfl (o_mvh (show _ = Value.bool _ from rfl) ?_)
    refine WL.sp 2 rfl (fun g105 => ?_) (fun g105 => ?_)
    · skip
      refine WL.g rfl (g105) rfl (o_fa 3 TI30 rfl TI9 rfl h2 ?_)
      refine WL.g rfl (g105) rfl (o_ld TI9 rfl rfl (cell_of hC2 rfl) ?_)
      refine WL.g rfl (g105) rfl (o_call Try.call25 (lc rfl ln) ((name_spec x.label _ hl).mono ?_))
      rintro v108 w108 ⟨rfl, rfl⟩
      refine WL.c rfl (o_pickA rfl rfl ?_)
      refine WL.c rfl (o_mvh (show _ = Value.bool _ from rfl) ?_)
      refine WL.sp 7 rfl (fun g110 => ?_) (fun g110 => ?_)
      · skip
        refine WL.s rfl (g110) rfl ?_
        refine WL.s rfl (g110) rfl ?_
        refine WL.s rfl (g110) rfl ?_
        refine WL.z rfl rfl ?_
        refine WL.z rfl rfl ?_
        refine WL.z rfl rfl ?_
        refine WL.s rfl (g110) rfl ?_
        refine WL.c rfl (o_pickT rfl (g110) ?_)
        refine WL.c rfl (o_ash (show _ = Value.bool _ from rfl) ?_)
        exact WL.nil (⟨h1, h2, h5, h6, congrArg Value.bool (by rw [Bool.eq_iff_iff]; simp_all [labB] <;> omega), rfl⟩)
      · skip
        refine WL.g rfl (g110) rfl (o_mvh h1 ?_)
        refine WL.g rfl (g110) rfl (o_ne rfl rfl ?_)
        refine WL.g rfl (g110) rfl (o_mvh (show _ = Value.bool _ from rfl) ?_)
        refine WL.sp 10 rfl (fun g113 => ?_) (fun g113 => ?_)
        · skip
          refine WL.g rfl (g113) rfl (o_fa 3 TI30 rfl TI9 rfl h2 ?_)
          refine WL.g rfl (g113) rfl (o_ld TI9 rfl rfl (cell_of hC2 rfl) ?_)
          refine WL.g rfl (g113) rfl (o_eqT rfl rfl ?_)
          refine WL.g rfl (g110) rfl (o_pickA rfl rfl ?_)
          refine WL.c rfl (o_pickO rfl rfl ?_)
          refine WL.c rfl (o_ash (show _ = Value.bool _ from rfl) ?_)
          exact WL.nil (⟨h1, h2, h5, h6, congrArg Value.bool (by rw [Bool.eq_iff_iff]; simp_all [labB] <;> omega), rfl⟩)
        · skip
          refine WL.s rfl (g113) rfl ?_
          refine WL.s rfl (g113) rfl ?_
          refine WL.s rfl (g113) rfl ?_
          refine WL.g rfl (g110) rfl (o_pickF rfl (g113) ?_)
          refine WL.c rfl (o_pickO rfl rfl ?_)
          refine WL.c rfl (o_ash (show _ = Value.bool _ from rfl) ?_)
          exact WL.nil (⟨h1, h2, h5, h6, congrArg Value.bool (by rw [Bool.eq_iff_iff]; simp_all [labB] <;> omega), rfl⟩)
    · skip
      refine WL.s rfl (g105) rfl ?_
      refine WL.s rfl (g105) rfl ?_
      refine WL.s rfl (g105) rfl ?_
      refine WL.c rfl (o_pickF rfl (g105) ?_)
      refine WL.c rfl (o_mvh (show _ = Value.bool _ from rfl) ?_)
      refine WL.g rfl (rfl) rfl (o_mvh h1 ?_)
      refine WL.g rfl (rfl) rfl (o_ne rfl rfl ?_)
      refine WL.g rfl (rfl) rfl (o_mvh (show _ = Value.bool _ from rfl) ?_)
      refine WL.sp 10 rfl (fun g113 => ?_) (fun g113 => ?_)
      · skip
        refine WL.g rfl (g113) rfl (o_fa 3 TI30 rfl TI9 rfl h2 ?_)
        refine WL.g rfl (g113) rfl (o_ld TI9 rfl rfl (cell_of hC2 rfl) ?_)
        refine WL.g rfl (g113) rfl (o_eqT rfl rfl ?_)
        refine WL.g rfl (rfl) rfl (o_pickA rfl rfl ?_)
        refine WL.c rfl (o_pickO rfl rfl ?_)
        refine WL.c rfl (o_ash (show _ = Value.bool _ from rfl) ?_)
        exact WL.nil (⟨h1, h2, h5, h6, congrArg Value.bool (by rw [Bool.eq_iff_iff]; simp_all [labB] <;> omega), rfl⟩)
      · skip
        refine WL.s rfl (g113) rfl ?_
        refine WL.s rfl (g113) rfl ?_
        refine WL.s rfl (g113) rfl ?_
        refine WL.g rfl (rfl) rfl (o_pickF rfl (g113) ?_)
        refine WL.c rfl (o_pickO rfl rfl ?_)
        refine WL.c rfl (o_ash (show _ = Value.bool _ from rfl) ?_)
        exact WL.nil (⟨h1, h2, h5, h6, congrArg Value.bool (by rw [Bool.eq_iff_iff]; simp_all [labB] <;> omega), rfl⟩)
  rintro e w ⟨h1, h2, h5, h6, h7, hw⟩
  subst hw
  refine W.seq ?_
  refine W.region ?_
  refine WL.cut (fun e1 w1 => e1 5 = .bool (okB x) ∧ e1 6 = .bool (namB x) ∧ e1 7 = .bool (labB x above) ∧ e1 8 = .bool (tagB x above) ∧ w1 = w) ?_ ?_
  · -- region 20
    refine WL.c rfl (o_fa 4 TI30 rfl TI3 rfl h2 ?_)
    refine WL.c rfl (o_ld TI3 rfl rfl (cell_of hC2 rfl) ?_)
    refine WL.c rfl (o_eq rfl rfl ?_)
    refine WL.c rfl (o_mvh (show _ = Value.bool _ from rfl) ?_)
    refine WL.sp 3 rfl (fun g122 => ?_) (fun g122 => ?_)
    · skip
      refine WL.s rfl (g122) rfl ?_
      refine WL.s rfl (g122) rfl ?_
      refine WL.s rfl (g122) rfl ?_
      refine WL.z rfl rfl ?_
      refine WL.z rfl rfl ?_
      refine WL.z rfl rfl ?_
      refine WL.s rfl (g122) rfl ?_
      refine WL.s rfl (g122) rfl ?_
      refine WL.z rfl rfl ?_
      refine WL.z rfl rfl ?_
      refine WL.z rfl rfl ?_
      refine WL.s rfl (g122) rfl ?_
      refine WL.c rfl (o_pickT rfl (g122) ?_)
      refine WL.c rfl (o_ash (show _ = Value.bool _ from rfl) ?_)
      exact WL.nil (⟨h5, h6, h7, congrArg Value.bool (by rw [Bool.eq_iff_iff]; simp_all [tagB] <;> omega), rfl⟩)
    · skip
      refine WL.g rfl (g122) rfl (o_mvh h1 ?_)
      refine WL.g rfl (g122) rfl (o_eq rfl rfl ?_)
      refine WL.g rfl (g122) rfl (o_mvh (show _ = Value.bool _ from rfl) ?_)
      refine WL.sp 6 rfl (fun g125 => ?_) (fun g125 => ?_)
      · skip
        refine WL.g rfl (g125) rfl (o_fa 4 TI30 rfl TI3 rfl h2 ?_)
        refine WL.g rfl (g125) rfl (o_ld TI3 rfl rfl (cell_of hC2 rfl) ?_)
        refine WL.g rfl (g125) rfl (o_gt rfl rfl ?_)
        refine WL.g rfl (g122) rfl (o_pickA rfl rfl ?_)
        refine WL.g rfl (g122) rfl (o_mvh (show _ = Value.bool _ from rfl) ?_)
        refine WL.sp 11 rfl (fun g130 => ?_) (fun g130 => ?_)
        · skip
          refine WL.g rfl (g130) rfl (o_fa 4 TI30 rfl TI3 rfl h2 ?_)
          refine WL.g rfl (g130) rfl (o_ld TI3 rfl rfl (cell_of hC2 rfl) ?_)
          refine WL.g rfl (g130) rfl (o_le rfl rfl ?_)
          refine WL.g rfl (g122) rfl (o_pickA rfl rfl ?_)
          refine WL.c rfl (o_pickO rfl rfl ?_)
          refine WL.c rfl (o_ash (show _ = Value.bool _ from rfl) ?_)
          exact WL.nil (⟨h5, h6, h7, congrArg Value.bool (by rw [Bool.eq_iff_iff]; simp_all [tagB] <;> omega), rfl⟩)
        · skip
          refine WL.s rfl (g130) rfl ?_
          refine WL.s rfl (g130) rfl ?_
          refine WL.s rfl (g130) rfl ?_
          refine WL.g rfl (g122) rfl (o_pickF rfl (g130) ?_)
          refine WL.c rfl (o_pickO rfl rfl ?_)
          refine WL.c rfl (o_ash (show _ = Value.bool _ from rfl) ?_)
          exact WL.nil (⟨h5, h6, h7, congrArg Value.bool (by rw [Bool.eq_iff_iff]; simp_all [tagB] <;> omega), rfl⟩)
      · skip
        refine WL.s rfl (g125) rfl ?_
        refine WL.s rfl (g125) rfl ?_
        refine WL.s rfl (g125) rfl ?_
        refine WL.g rfl (g122) rfl (o_pickF rfl (g125) ?_)
        refine WL.g rfl (g122) rfl (o_mvh (show _ = Value.bool _ from rfl) ?_)
        refine WL.s rfl (rfl) rfl ?_
        refine WL.s rfl (rfl) rfl ?_
        refine WL.s rfl (rfl) rfl ?_
        refine WL.g rfl (g122) rfl (o_pickF rfl (rfl) ?_)
        refine WL.c rfl (o_pickO rfl rfl ?_)
        refine WL.c rfl (o_ash (show _ = Value.bool _ from rfl) ?_)
        exact WL.nil (⟨h5, h6, h7, congrArg Value.bool (by rw [Bool.eq_iff_iff]; simp_all [tagB] <;> omega), rfl⟩)
  rintro e w ⟨h5, h6, h7, h8, hw⟩
  subst hw
  refine W.seq ?_
  refine W.region ?_
  refine WL.c rfl (o_mvh h5 ?_)
  refine WL.c rfl (o_mvh (show _ = Value.bool _ from rfl) ?_)
  refine WL.sp 1 rfl (fun g137 => ?_) (fun g137 => ?_)
  · skip
    refine WL.g rfl (g137) rfl (o_mvh h6 ?_)
    refine WL.c rfl (o_pickA rfl rfl ?_)
    refine WL.c rfl (o_mvh (show _ = Value.bool _ from rfl) ?_)
    refine WL.sp 4 rfl (fun g140 => ?_) (fun g140 => ?_)
    · skip
      refine WL.g rfl (g140) rfl (o_mvh h7 ?_)
      refine WL.c rfl (o_pickA rfl rfl ?_)
      refine WL.c rfl (o_mvh (show _ = Value.bool _ from rfl) ?_)
      refine WL.sp 7 rfl (fun g143 => ?_) (fun g143 => ?_)
      · skip
        refine WL.g rfl (g143) rfl (o_mvh h8 ?_)
        refine WL.c rfl (o_pickA rfl rfl ?_)
        refine WL.c rfl (o_ash (show _ = Value.bool _ from rfl) ?_)
        refine WL.nil ?_
        refine W.ret ?_
        refine ret1v rfl (show _ = Value.bool _ from rfl) ?_
        exact ⟨congrArg Value.bool (by first | rfl | (rw [rightB, Bool.eq_iff_iff]; simp_all; done) | (rw [rightB]; simp_all; done)), hx2⟩
      · skip
        refine WL.s rfl (g143) rfl ?_
        refine WL.c rfl (o_pickF rfl (g143) ?_)
        refine WL.c rfl (o_ash (show _ = Value.bool _ from rfl) ?_)
        refine WL.nil ?_
        refine W.ret ?_
        refine ret1v rfl (show _ = Value.bool _ from rfl) ?_
        exact ⟨congrArg Value.bool (by first | rfl | (rw [rightB, Bool.eq_iff_iff]; simp_all; done) | (rw [rightB]; simp_all; done)), hx2⟩
    · skip
      refine WL.s rfl (g140) rfl ?_
      refine WL.c rfl (o_pickF rfl (g140) ?_)
      refine WL.c rfl (o_mvh (show _ = Value.bool _ from rfl) ?_)
      refine WL.s rfl (rfl) rfl ?_
      refine WL.c rfl (o_pickF rfl (rfl) ?_)
      refine WL.c rfl (o_ash (show _ = Value.bool _ from rfl) ?_)
      refine WL.nil ?_
      refine W.ret ?_
      refine ret1v rfl (show _ = Value.bool _ from rfl) ?_
      exact ⟨congrArg Value.bool (by first | rfl | (rw [rightB, Bool.eq_iff_iff]; simp_all; done) | (rw [rightB]; simp_all; done)), hx2⟩
  · skip
    refine WL.s rfl (g137) rfl ?_
    refine WL.c rfl (o_pickF rfl (g137) ?_)
    refine WL.c rfl (o_mvh (show _ = Value.bool _ from rfl) ?_)
    refine WL.s rfl (rfl) rfl ?_
    refine WL.c rfl (o_pickF rfl (rfl) ?_)
    refine WL.c rfl (o_mvh (show _ = Value.bool _ from rfl) ?_)
    refine WL.s rfl (rfl) rfl ?_
    refine WL.c rfl (o_pickF rfl (rfl) ?_)
    refine WL.c rfl (o_ash (show _ = Value.bool _ from rfl) ?_)
    refine WL.nil ?_
    refine W.ret ?_
    refine ret1v rfl (show _ = Value.bool _ from rfl) ?_
    exact ⟨congrArg Value.bool (by first | rfl | (rw [rightB, Bool.eq_iff_iff]; simp_all; done) | (rw [rightB]; simp_all; done)), hx2⟩

structure Opn where
  kind : Int
  left : Int
  deep : Int
def opV (o : Opn) : List Value := [.int .i64 o.kind, .int .i64 o.left, .int .i64 o.deep]
def opsR (S : List Opn) : List Value := S.reverse.flatMap opV
def popZ (S : List Opn) : List Opn := S.dropWhile (fun o => decide (o.left = 0))
def manyB (x : Ex) : Bool := (decide (x.kind = 8) && decide (64 < x.kids)) || (decide (x.kind = 7) && decide (64 < x.kids))
def leftB (S : List Opn) : Bool := S.any (fun o => decide (0 < o.left))
/-- the nodes of an expression; the open ones, the last one first -/
def chkE : List Opn → Nat → List Ex → Nat × Nat
  | S, i, [] => if leftB S = true then (i, 62) else (0, 0)
  | S, i, x :: xs => match popZ S with
    | [] => (i, 62)
    | o :: S' => if 16 < o.deep then (i, 61) else if manyB x = true then (i, 5) else if rightB x o.kind = false then (i, 62)
      else chkE (⟨x.kind, x.kids, o.deep + 1⟩ :: { o with left := o.left - 1 } :: S') (i + 1) xs
theorem chkE_nil {S : List Opn} {i : Nat} : chkE S i [] = if leftB S = true then (i, 62) else (0, 0) := rfl
theorem chkE_cons {S : List Opn} {i : Nat} {x : Ex} {xs : List Ex} : chkE S i (x :: xs) = match popZ S with
    | [] => (i, 62)
    | o :: S' => if 16 < o.deep then (i, 61) else if manyB x = true then (i, 5) else if rightB x o.kind = false then (i, 62)
      else chkE (⟨x.kind, x.kids, o.deep + 1⟩ :: { o with left := o.left - 1 } :: S') (i + 1) xs := rfl
theorem chkE_z {S : List Opn} {i : Nat} {x : Ex} {xs : List Ex} (h : popZ S = []) : chkE S i (x :: xs) = (i, 62) := by rw [chkE_cons, h]
theorem chkE_o {S S' : List Opn} {o : Opn} {i : Nat} {x : Ex} {xs : List Ex} (h : popZ S = o :: S') : chkE S i (x :: xs) = if 16 < o.deep then (i, 61) else if manyB x = true then (i, 5) else if rightB x o.kind = false then (i, 62)
      else chkE (⟨x.kind, x.kids, o.deep + 1⟩ :: { o with left := o.left - 1 } :: S') (i + 1) xs := by rw [chkE_cons, h]
def OkS : List Opn → Prop
  | [] => True
  | o :: S => o.deep = (S.length : Int) ∧ 0 ≤ o.left ∧ o.left ≤ 64 ∧ OkS S
theorem OkS_cons {o : Opn} {S : List Opn} : OkS (o :: S) ↔ o.deep = (S.length : Int) ∧ 0 ≤ o.left ∧ o.left ≤ 64 ∧ OkS S := Iff.rfl
theorem opsR_cons (o : Opn) (S : List Opn) : opsR (o :: S) = opsR S ++ opV o := by simp [opsR]
theorem opsR_len (S : List Opn) : (opsR S).length = S.length * 3 := by
  induction S with
  | nil => rfl
  | cons o S ih => rw [opsR_cons, List.length_append, ih, List.length_cons]; show _ + 3 = _; omega
theorem opsR_get {o : Opn} {S : List Opn} {k : Nat} (v : Value) (h : (opV o)[k]? = some v) : (opsR (o :: S))[S.length * 3 + k]? = some v := by
  rw [opsR_cons, List.getElem?_append_right (by rw [opsR_len]; omega), opsR_len, Nat.add_sub_cancel_left, h]
theorem opsR_take {o : Opn} {S : List Opn} : (opsR (o :: S)).take (S.length * 3) = opsR S := by
  rw [opsR_cons]; exact List.take_left' (opsR_len S)
theorem opsR_set {o : Opn} {S : List Opn} {z : Int} : (opsR (o :: S)).set (S.length * 3 + 1) (.int .i64 z) = opsR ({ o with left := z } :: S) := by
  rw [opsR_cons, opsR_cons, List.set_append_right _ _ (by rw [opsR_len]; omega), opsR_len, Nat.add_sub_cancel_left]
  rfl
theorem leftB_at (S : List Opn) : ∀ k (hk : k < S.length), leftB (S.reverse.drop k).reverse = (decide (0 < (S.reverse[k]'(by simpa using hk)).left) || leftB (S.reverse.drop (k + 1)).reverse) := by
  intro k hk
  rw [← List.getElem_cons_drop (by simpa using hk), List.reverse_cons]
  simp [leftB, Bool.or_comm]
theorem ops_at {S : List Opn} {k : Nat} (hk : k < S.length) : ((opsR S).drop (k * 3)).take 3 = opV (S.reverse[k]'(by simpa using hk)) := by
  have : ∀ (l : List Opn) (k : Nat) (hk : k < l.length), ((l.flatMap opV).drop (k * 3)).take 3 = opV l[k] := by
    intro l
    induction l with
    | nil => intro k hk; simp at hk
    | cons t ts ih =>
      intro k hk
      have h5 : (opV t).length = 3 := rfl
      cases k with
      | zero => rw [Nat.zero_mul, List.drop_zero, List.flatMap_cons]; exact List.take_left' h5
      | succ k =>
        have h1 : (k + 1) * 3 - (opV t).length = k * 3 := by rw [h5]; omega
        have := ih k (by simpa using hk)
        rw [List.flatMap_cons, List.drop_append, List.drop_eq_nil_of_le (by rw [h5]; omega), List.nil_append, h1]
        exact this
  exact this _ _ _
theorem exs_at (ts : List Ex) : ∀ (k : Nat) (hk : k < ts.length), ((exs ts).drop (k * 7)).take 7 = exV ts[k] := by
  induction ts with
  | nil => intro k hk; simp at hk
  | cons t ts ih =>
    intro k hk
    have h5 : (exV t).length = 7 := rfl
    cases k with
    | zero => rw [Nat.zero_mul, List.drop_zero, exs, List.flatMap_cons]; exact List.take_left' h5
    | succ k =>
      have h1 : (k + 1) * 7 - (exV t).length = k * 7 := by rw [h5]; omega
      have := ih k (by simpa using hk)
      rw [exs, List.flatMap_cons, List.drop_append, List.drop_eq_nil_of_le (by rw [h5]; omega), List.nil_append, h1]
      exact this
theorem Sl.exq {w : World} {v : Value} {ts : List Ex} (h : Sl w 7 v ts.length (exs ts)) {k : Nat} (hk : k < ts.length) : ∃ b o c, v = .slice (some ⟨b, o, none⟩) ts.length c ∧ Cells w b (o + k * 7) (exV ts[k]) := by
  rcases h.val with ⟨hz, h0⟩ | ⟨b, o, c, rfl, hnc, hc⟩
  · omega
  · exact ⟨b, o, c, rfl, by rw [← exs_at ts k hk]; exact hc.sub _ _⟩
def slen : Value → Nat
  | .slice _ n _ => n
  | _ => 0
theorem popZ_z {o : Opn} {S : List Opn} (h : o.left = 0) : popZ (o :: S) = popZ S := by simp [popZ, h]
theorem popZ_n {o : Opn} {S : List Opn} (h : ¬ o.left = 0) : popZ (o :: S) = o :: S := by simp [popZ, h]
theorem rightB_kids {x : Ex} {k : Int} (h : rightB x k = true) (hm : manyB x = false) : 0 ≤ x.kids ∧ x.kids ≤ 64 := by
  simp only [rightB, Bool.and_eq_true] at h
  have h1 := h.1.1.1
  unfold okB at h1
  simp only [manyB, Bool.or_eq_false_iff, Bool.and_eq_false_iff, decide_eq_false_iff_not] at hm
  repeat' split at h1
  all_goals first | (simp only [Bool.and_eq_true, decide_eq_true_eq] at h1; omega) | cases h1

theorem own_form {w : World} {base : Nat} {el : TypeId} {s n : Nat} {v : Value} {xs : List Value} (h : w.ownsRow base el s v n xs) : ∃ a c, v = .slice a n c ∧ n ≤ c := by
  rcases h.2 with ⟨rfl, rfl⟩ | ⟨g, cap, cur, rfl, hb, hc, hnc, r⟩
  · exact ⟨none, 0, rfl, Nat.le_refl _⟩
  · exact ⟨_, cap, rfl, hnc⟩
theorem own_take {w : World} {base : Nat} {el : TypeId} {s n m g cap : Nat} {xs : List Value} (h : w.ownsRow base el s (.slice (some ⟨g, 0, none⟩) n cap) n xs) (hm : m ≤ n) : w.ownsRow base el s (.slice (some ⟨g, 0, none⟩) m cap) m (xs.take (m * s)) := by
  obtain ⟨cap', cur, hv, hb, hc, hnc, hcm, hcs, ht⟩ := own_blk h rfl
  simp only [Value.slice.injEq] at hv
  obtain ⟨-, -, rfl⟩ := hv
  have hms : m * s ≤ n * s := Nat.mul_le_mul_right _ hm
  refine ⟨by rw [List.length_take, h.1]; omega, .inr ⟨g, cap, cur, rfl, hb, hc, by omega, hcm, hcs, ?_⟩⟩
  rw [← ht, List.take_take, Nat.min_eq_left hms]
theorem sliced0 (g h c s : Nat) : sliced (some ⟨g, 0, none⟩) 0 h c s = .slice (some ⟨g, 0, none⟩) h c := by
  unfold sliced
  split <;> simp [Addr.add]


set_option maxHeartbeats 4000000 in
theorem checked_spec (l : List Ex) (v : Value) (w0 : World) (hS : Sl w0 7 v l.length (exs l)) (hl : l.length ≤ 4611686018427387904) (hln : ∀ x ∈ l, x.name.length ≤ 9223372036854775807 ∧ x.label.length ≤ 9223372036854775807) : Ca Try.prog 26 #[v] w0 (fun r w' => r = .tuple #[.int .i64 ((chkE [⟨0, 1, 0⟩] 0 l).1 : Int), .int .i64 ((chkE [⟨0, 1, 0⟩] 0 l).2 : Int)] ∧ Ext w0 w') := by
  have hx : Ext w0 w0 := Only.refl _ _
  have hS0 := hS
  refine Ca.of Try.func26 Try.ntmps26 rfl rfl ?_
  refine W.seq ?_
  refine W.region ?_
  refine WL.c rfl (o_ash (show _ = Value.int _ _ from rfl) ?_)
  refine WL.c rfl (o_ash (show _ = Value.int _ _ from rfl) ?_)
  refine WL.nil ?_
  refine W.seq ?_
  refine W.region ?_
  refine WL.c rfl (o_bldC (cs := [(.int .i64 0), (.int .i64 1), (.int .i64 0)]) TI96 (Sizes.cons TI3 (Sizes.cons TI3 (Sizes.cons TI3 Sizes.nil))) rfl (lcp (show _ = Value.int _ _ from rfl) lnp) rfl rfl ?_)
  refine WL.c rfl (o_bs1 TI97 TI96 (show _ = Value.agg #[.int .i64 0, .int .i64 1, .int .i64 0] from rfl) (by decide) (by decide) rfl ?_)
  have hown : (w0.alloc (.cells (Value.agg #[.int .i64 0, .int .i64 1, .int .i64 0]).cells 96)).ownsRow w0.heap.size 96 3 (.slice (some ⟨w0.heap.size, 0, none⟩) 1 1) [(⟨0, 1, 0⟩ : Opn)].length (opsR [⟨0, 1, 0⟩]) := own_new1 rfl
  replace hx : Ext w0 (w0.alloc (.cells (Value.agg #[.int .i64 0, .int .i64 1, .int .i64 0]).cells 96)) := Only.alloc w0 _
  replace hS := hS.ext hx
  generalize w0.alloc (.cells (Value.agg #[.int .i64 0, .int .i64 1, .int .i64 0]).cells 96) = w1 at *
  refine WL.c rfl (o_ash (by first | exact (show _ = Value.slice _ _ _ from rfl) | exact rfl) ?_)
  refine WL.nil ?_
  refine W.seq ?_
  refine W.seq ?_
  refine W.region ?_
  refine WL.c rfl (o_mvh (by first | exact (show _ = Value.slice _ _ _ from rfl) | exact rfl) ?_)
  refine WL.c rfl (o_lenR TI38 rfl hS ?_)
  refine WL.c rfl (o_mvh (show _ = Value.int _ _ from rfl) ?_)
  refine WL.nil ?_
  refine W.block ?_
  refine W.loop (fun e w => ∃ (i : Nat) (S : List Opn) (sv : Value), i ≤ l.length ∧ e 0 = v ∧ e 4 = sv ∧ e 12 = v ∧ e 13 = .int .i64 (l.length : Int) ∧ e 14 = .int .i64 (i : Int) ∧ w.ownsRow w0.heap.size 96 3 sv S.length (opsR S) ∧ OkS S ∧ S.length ≤ 18 ∧ chkE [⟨0, 1, 0⟩] 0 l = chkE S i (l.drop i) ∧ Ext w0 w) (fun e w => l.length - (intOf (e 14)).toNat) ?_ ?_
  · refine ⟨0, [⟨0, 1, 0⟩], _, Nat.zero_le _, rfl, rfl, rfl, rfl, rfl, hown, ⟨rfl, by decide, by decide, trivial⟩, by decide, rfl, hx⟩
  rintro e w ⟨i, S0, sv0, hi, h0, h4, h12, h13, h14, hown, hok, hSl, hres, hx⟩
  have hm14 := h14
  have hSw := hS0.ext hx
  refine W.seq ?_
  refine W.region ?_
  refine WL.c rfl (o_lt h14 h13 ?_)
  refine WL.nil ?_
  refine W.seq ?_
  refine W.cond rfl (fun c15 => ?_) (fun c15 => ?_)
  · try simp only [decide_eq_true_eq, decide_eq_false_iff_not, Bool.not_eq_true', Bool.not_eq_false', Bool.and_eq_true, Bool.or_eq_true, Bool.and_eq_false_iff, Bool.or_eq_false_iff] at c15
    have hil : i < l.length := by omega
    obtain ⟨tb, to_, tc, rfl, htc⟩ := Sl.exq hSw hil
    have hlc : l.drop i = l[i] :: l.drop (i + 1) := (List.getElem_cons_drop hil).symm
    refine W.skip ?_
    refine W.seq ?_
    refine W.block ?_
    refine W.seq ?_
    refine W.region ?_
    refine WL.c rfl (o_mvh h14 ?_)
    refine WL.c rfl (o_ixB TI38 TI30 h12 h14 (by omega) ?_)
    refine WL.c rfl (o_ldA TI30 rfl rfl htc rfl ?_)
    have hx0 := hx
    have hown0 := hown
    refine WL.c rfl (o_alB TI30 ?_)
    intro w6 hC6 hx6 hs6
    refine WL.c rfl (o_ash (show _ = Value.int _ _ from rfl) ?_)
    refine WL.u (o_stA TI30 rfl (show _ = Value.agg (exV l[i]).toArray from rfl) rfl rfl hC6 rfl ?_)
    intro w7 hC7 ho7 hs7
    have hxb := Ext.own hx6 (Nat.le_refl _) ho7
    clear hC6 hx6 hs6 ho7 hs7 hSw htc
    replace hown := own_ext hown hxb
    replace hx := hx.tr hxb
    obtain ⟨c6, hc6⟩ : ∃ c, c = w.heap.size := ⟨_, rfl⟩
    have hc6l : w0.heap.size ≤ c6 ∧ ¬ sv0.ownBlock = some c6 := by
      subst hc6
      exact ⟨by have := hx0.size; omega, fun hk => by have := (hown0.lt _ hk).2; omega⟩
    rw [← hc6] at hC7 ⊢
    refine WL.nil ?_
    refine W.seq ?_
    refine W.block ?_
    refine W.loop (fun e w => ∃ (S : List Opn) (sv : Value), e 0 = Value.slice (some ⟨tb, to_, none⟩) l.length tc ∧ e 4 = sv ∧ e 5 = .int .i64 (i : Int) ∧ e 6 = .pointer (some ⟨c6, 0, none⟩) ∧ e 12 = Value.slice (some ⟨tb, to_, none⟩) l.length tc ∧ e 13 = .int .i64 (l.length : Int) ∧ e 14 = .int .i64 (i : Int) ∧ w.ownsRow w0.heap.size 96 3 sv S.length (opsR S) ∧ OkS S ∧ S.length ≤ 18 ∧ popZ S0 = popZ S ∧ (sv.ownBlock = sv0.ownBlock) ∧ w.heap[c6]? = some (.cells (exV l[i]).toArray 30 (0, 0)) ∧ Ext w0 w) (fun e w => slen (e 4)) ?_ ?_
    · exact ⟨S0, sv0, h0, h4, rfl, rfl, h12, h13, h14, hown, hok, hSl, rfl, rfl, hC7, hx⟩
    rintro e w ⟨S, sv, h0, h4, h5, h6, h12, h13, h14, hown, hok, hSl, hpz, hsb, hC7, hx⟩
    have hm4 := h4
    refine W.seq ?_
    refine W.seq ?_
    rcases S with _ | ⟨o, S⟩
    · skip
      have h062 := hres.trans (by rw [hlc, chkE_z hpz])
      refine W.region ?_
      refine WL.c rfl (o_mvh h4 ?_)
      refine WL.c rfl (o_lenR TI97 rfl (Sl.own hown) ?_)
      refine WL.c rfl (o_gt rfl rfl ?_)
      refine WL.c rfl (o_mvh (show _ = Value.bool _ from rfl) ?_)
      refine WL.s rfl (decide_eq_false (by simp)) rfl ?_
      refine WL.s rfl (decide_eq_false (by simp)) rfl ?_
      refine WL.s rfl (decide_eq_false (by simp)) rfl ?_
      refine WL.s rfl (decide_eq_false (by simp)) rfl ?_
      refine WL.s rfl (decide_eq_false (by simp)) rfl ?_
      refine WL.s rfl (decide_eq_false (by simp)) rfl ?_
      refine WL.s rfl (decide_eq_false (by simp)) rfl ?_
      refine WL.s rfl (decide_eq_false (by simp)) rfl ?_
      refine WL.c rfl (o_pickF rfl (decide_eq_false (by simp)) ?_)
      refine WL.nil ?_
      refine W.condF' rfl (rfl) ?_
      refine W.exit ?_
      refine W.seq ?_
      refine W.seq ?_
      refine W.region ?_
      refine WL.c rfl (o_mvh h4 ?_)
      refine WL.c rfl (o_lenR TI97 rfl (Sl.own hown) ?_)
      refine WL.c rfl (o_eq rfl rfl ?_)
      refine WL.nil ?_
      refine W.condT' rfl (by simp) ?_
      refine W.seq ?_
      refine W.region ?_
      refine WL.c rfl (o_mvh h5 ?_)
      refine WL.c rfl (o_ash (show _ = Value.int _ _ from rfl) ?_)
      refine WL.c rfl (o_ash (show _ = Value.int _ _ from rfl) ?_)
      refine WL.nil ?_
      refine W.ret ?_
      refine ret2v rfl (show _ = Value.int _ _ from rfl) (show _ = Value.int _ _ from rfl) ?_
      rw [h062]
      exact ⟨rfl, hx⟩
    · skip
      replace hown : w.ownsRow w0.heap.size 96 3 sv (S.length + 1) (opsR (o :: S)) := hown
      obtain ⟨g, cap, rfl, hgb⟩ := own_some hown (by omega)
      have hcap : S.length + 1 ≤ cap := by obtain ⟨_, _, hv, hh⟩ := own_form hown; cases hv; exact hh
      obtain ⟨hdp, hlo, hhi, hok2⟩ := OkS_cons.1 hok
      have hSl2 : S.length + 1 ≤ 18 := hSl
      have hcg : ¬ g = c6 := fun he => hc6l.2 (by rw [← hsb, he]; rfl)
      refine W.region ?_
      refine WL.c rfl (o_mvh h4 ?_)
      refine WL.c rfl (o_lenR TI97 rfl (Sl.own hown) ?_)
      refine WL.c rfl (o_gt rfl rfl ?_)
      refine WL.c rfl (o_mvh (show _ = Value.bool _ from rfl) ?_)
      refine WL.g rfl (decide_eq_true (by omega)) rfl (o_mvh h4 ?_)
      refine WL.g rfl (decide_eq_true (by omega)) rfl (o_mvh h4 ?_)
      refine WL.g rfl (decide_eq_true (by omega)) rfl (o_lenR TI97 rfl (Sl.own hown) ?_)
      refine WL.g rfl (decide_eq_true (by omega)) rfl (o_subi rfl rfl (by omega) ?_)
      refine WL.g rfl (decide_eq_true (by omega)) rfl (o_ixB (i := S.length) TI97 TI96 rfl (by show Value.int .i64 _ = _; congr 1; omega) (by omega) ?_)
      refine WL.g rfl (decide_eq_true (by omega)) rfl (o_fa 1 TI96 rfl TI3 rfl rfl ?_)
      refine WL.g rfl (decide_eq_true (by omega)) rfl (o_ld TI3 rfl rfl (own_cell hown (j := 0 + S.length * 3 + 1) (by rw [Nat.zero_add]; exact opsR_get _ rfl)) ?_)
      refine WL.g rfl (decide_eq_true (by omega)) rfl (o_eq rfl rfl ?_)
      refine WL.c rfl (o_pickA rfl rfl ?_)
      refine WL.nil ?_
      refine W.cond rfl (fun c31 => ?_) (fun c31 => ?_)
      · try simp only [decide_eq_true_eq, decide_eq_false_iff_not, Bool.not_eq_true', Bool.not_eq_false', Bool.and_eq_true, Bool.or_eq_true, Bool.and_eq_false_iff, Bool.or_eq_false_iff] at c31
        have hz : o.left = 0 := c31.2
        refine W.skip ?_
        refine W.block ?_
        refine W.region ?_
        refine WL.c rfl (o_mvh h4 ?_)
        refine WL.c rfl (o_mvh h4 ?_)
        refine WL.c rfl (o_lenR TI97 rfl (Sl.own hown) ?_)
        refine WL.c rfl (o_subi rfl rfl (by omega) ?_)
        refine WL.c rfl (o_slv (h := S.length) TI97 TI96 rfl Lo.n (Hi.s (by show Value.int .i64 _ = _; congr 1; omega)) (Nat.zero_le _) (by omega) ?_)
        rw [sliced0]
        have hown2 := own_take hown (m := S.length) (by omega)
        rw [opsR_take] at hown2
        refine WL.c rfl (o_ash (by first | exact (show _ = Value.slice _ _ _ from rfl) | exact rfl) ?_)
        refine WL.nil ?_
        refine ⟨⟨S, _, h0, rfl, h5, h6, h12, h13, h14, hown2, hok.2.2.2, by omega, by rw [hpz, popZ_z hz], hsb, hC7, hx⟩, ?_⟩
        rw [hm4]; show S.length < S.length + 1; omega
      · try simp only [decide_eq_true_eq, decide_eq_false_iff_not, Bool.not_eq_true', Bool.not_eq_false', Bool.and_eq_true, Bool.or_eq_true, Bool.and_eq_false_iff, Bool.or_eq_false_iff] at c31
        have hz : ¬ o.left = 0 := fun hz => by rcases c31 with c | c; omega; exact c hz
        have hpz2 := hpz.trans (popZ_n hz)
        have hres2 := hres.trans (by rw [hlc, chkE_o hpz2])
        refine W.exit ?_
        refine W.seq ?_
        refine W.seq ?_
        refine W.region ?_
        refine WL.c rfl (o_mvh h4 ?_)
        refine WL.c rfl (o_lenR TI97 rfl (Sl.own hown) ?_)
        refine WL.c rfl (o_eq rfl rfl ?_)
        refine WL.nil ?_
        refine W.condF' rfl (decide_eq_false (by omega)) ?_
        refine W.skip ?_
        refine W.seq ?_
        refine W.region ?_
        refine WL.c rfl (o_mvh h4 ?_)
        refine WL.c rfl (o_mvh h4 ?_)
        refine WL.c rfl (o_lenR TI97 rfl (Sl.own hown) ?_)
        refine WL.c rfl (o_subi rfl rfl (by omega) ?_)
        refine WL.c rfl (o_ixB (i := S.length) TI97 TI96 rfl (by show Value.int .i64 _ = _; congr 1; omega) (by omega) ?_)
        refine WL.c rfl (o_ash (by first | exact (show _ = Value.pointer _ from rfl) | exact rfl) ?_)
        refine WL.nil ?_
        refine W.seq ?_
        refine W.block ?_
        refine W.seq ?_
        refine W.region ?_
        refine WL.c rfl (o_mvh (by first | exact (show _ = Value.pointer _ from rfl) | exact rfl) ?_)
        refine WL.c rfl (o_nil rfl ?_)
        refine WL.c rfl (o_fa 2 TI96 rfl TI3 rfl rfl ?_)
        refine WL.c rfl (o_ld TI3 rfl rfl (own_cell hown (j := 0 + S.length * 3 + 2) (by rw [Nat.zero_add]; exact opsR_get _ rfl)) ?_)
        refine WL.c rfl (o_gt rfl rfl ?_)
        refine WL.c rfl (o_ash (show _ = Value.bool _ from rfl) ?_)
        refine WL.nil ?_
        refine W.cond rfl (fun c46 => ?_) (fun c46 => ?_)
        · try simp only [decide_eq_true_eq, decide_eq_false_iff_not, Bool.not_eq_true', Bool.not_eq_false', Bool.and_eq_true, Bool.or_eq_true, Bool.and_eq_false_iff, Bool.or_eq_false_iff] at c46
          have hdeep : 16 < o.deep := by omega
          rw [if_pos hdeep] at hres2
          refine W.seq ?_
          refine W.region ?_
          refine WL.c rfl (o_mvh h5 ?_)
          refine WL.c rfl (o_ash (show _ = Value.int _ _ from rfl) ?_)
          refine WL.c rfl (o_ash (show _ = Value.int _ _ from rfl) ?_)
          refine WL.nil ?_
          refine W.ret ?_
          refine ret2v rfl (show _ = Value.int _ _ from rfl) (show _ = Value.int _ _ from rfl) ?_
          rw [hres2]
          exact ⟨rfl, hx⟩
        · try simp only [decide_eq_true_eq, decide_eq_false_iff_not, Bool.not_eq_true', Bool.not_eq_false', Bool.and_eq_true, Bool.or_eq_true, Bool.and_eq_false_iff, Bool.or_eq_false_iff] at c46
          have hdeep : ¬ 16 < o.deep := by omega
          rw [if_neg hdeep] at hres2
          refine W.seq ?_
          refine W.seq ?_
          refine W.region ?_
          refine WL.c rfl (o_fa 0 TI30 rfl TI3 rfl h6 ?_)
          refine WL.c rfl (o_ld TI3 rfl rfl (cell_of hC7 rfl) ?_)
          refine WL.c rfl (o_eq rfl rfl ?_)
          refine WL.c rfl (o_mvh (show _ = Value.bool _ from rfl) ?_)
          refine WL.sp 3 rfl (fun g57 => ?_) (fun g57 => ?_)
          · skip
            refine WL.g rfl (g57) rfl (o_fa 5 TI30 rfl TI3 rfl h6 ?_)
            refine WL.g rfl (g57) rfl (o_ld TI3 rfl rfl (cell_of hC7 rfl) ?_)
            refine WL.g rfl (g57) rfl (o_gt rfl rfl ?_)
            refine WL.c rfl (o_pickA rfl rfl ?_)
            refine WL.c rfl (o_ash (show _ = Value.bool _ from rfl) ?_)
            refine WL.nil ?_
            refine W.cut (fun e1 w1 => e1 0 = Value.slice (some ⟨tb, to_, none⟩) l.length tc ∧ e1 4 = Value.slice (some ⟨g, 0, none⟩) (S.length + 1) cap ∧ e1 5 = .int .i64 (i : Int) ∧ e1 6 = .pointer (some ⟨c6, 0, none⟩) ∧ e1 7 = .pointer (some ⟨g, 0 + S.length * 3, none⟩) ∧ e1 12 = Value.slice (some ⟨tb, to_, none⟩) l.length tc ∧ e1 13 = .int .i64 (l.length : Int) ∧ e1 14 = .int .i64 (i : Int) ∧ e1 53 = .bool (manyB l[i]) ∧ w1 = w) ?_ ?_
            · -- both ways
              refine W.cond rfl (fun c53 => ?_) (fun c53 => ?_)
              · try simp only [decide_eq_true_eq, decide_eq_false_iff_not, Bool.not_eq_true', Bool.not_eq_false', Bool.and_eq_true, Bool.or_eq_true, Bool.and_eq_false_iff, Bool.or_eq_false_iff] at c53
                refine W.skip ?_
                exact ⟨h0, h4, h5, h6, rfl, h12, h13, h14, congrArg Value.bool (by rw [Bool.eq_iff_iff]; (try simp only [decide_eq_true_eq, decide_eq_false_iff_not] at g57); (try simp only [decide_eq_true_eq, decide_eq_false_iff_not] at g65); (try (cases c53; done)); all_goals simp only [manyB, Bool.or_eq_true, Bool.and_eq_true, decide_eq_true_eq, Bool.false_eq_true, false_iff]; all_goals omega), rfl⟩
              · try simp only [decide_eq_true_eq, decide_eq_false_iff_not, Bool.not_eq_true', Bool.not_eq_false', Bool.and_eq_true, Bool.or_eq_true, Bool.and_eq_false_iff, Bool.or_eq_false_iff] at c53
                refine W.region ?_
                refine WL.c rfl (o_fa 0 TI30 rfl TI3 rfl h6 ?_)
                refine WL.c rfl (o_ld TI3 rfl rfl (cell_of hC7 rfl) ?_)
                refine WL.c rfl (o_eq rfl rfl ?_)
                refine WL.c rfl (o_mvh (show _ = Value.bool _ from rfl) ?_)
                refine WL.sp 3 rfl (fun g65 => ?_) (fun g65 => ?_)
                · skip
                  refine WL.g rfl (g65) rfl (o_fa 5 TI30 rfl TI3 rfl h6 ?_)
                  refine WL.g rfl (g65) rfl (o_ld TI3 rfl rfl (cell_of hC7 rfl) ?_)
                  refine WL.g rfl (g65) rfl (o_gt rfl rfl ?_)
                  refine WL.c rfl (o_pickA rfl rfl ?_)
                  refine WL.c rfl (o_ash (show _ = Value.bool _ from rfl) ?_)
                  refine WL.nil ?_
                  exact ⟨h0, h4, h5, h6, rfl, h12, h13, h14, congrArg Value.bool (by rw [Bool.eq_iff_iff]; (try simp only [decide_eq_true_eq, decide_eq_false_iff_not] at g57); (try simp only [decide_eq_true_eq, decide_eq_false_iff_not] at g65); (try (cases c53; done)); all_goals simp only [manyB, Bool.or_eq_true, Bool.and_eq_true, decide_eq_true_eq, Bool.false_eq_true, false_iff]; all_goals omega), rfl⟩
                · skip
                  refine WL.s rfl (g65) rfl ?_
                  refine WL.s rfl (g65) rfl ?_
                  refine WL.s rfl (g65) rfl ?_
                  refine WL.c rfl (o_pickF rfl (g65) ?_)
                  refine WL.c rfl (o_ash (show _ = Value.bool _ from rfl) ?_)
                  refine WL.nil ?_
                  exact ⟨h0, h4, h5, h6, rfl, h12, h13, h14, congrArg Value.bool (by rw [Bool.eq_iff_iff]; (try simp only [decide_eq_true_eq, decide_eq_false_iff_not] at g57); (try simp only [decide_eq_true_eq, decide_eq_false_iff_not] at g65); (try (cases c53; done)); all_goals simp only [manyB, Bool.or_eq_true, Bool.and_eq_true, decide_eq_true_eq, Bool.false_eq_true, false_iff]; all_goals omega), rfl⟩
            rintro e w ⟨h0, h4, h5, h6, h7, h12, h13, h14, h53, rfl⟩
            refine W.cond h53 (fun c53 => ?_) (fun c53 => ?_)
            · try simp only [decide_eq_true_eq, decide_eq_false_iff_not, Bool.not_eq_true', Bool.not_eq_false', Bool.and_eq_true, Bool.or_eq_true, Bool.and_eq_false_iff, Bool.or_eq_false_iff] at c53
              refine W.seq ?_
              have hmany : manyB l[i] = true := by simpa using c53
              rw [if_pos hmany] at hres2
              refine W.region ?_
              refine WL.c rfl (o_mvh h5 ?_)
              refine WL.c rfl (o_ash (show _ = Value.int _ _ from rfl) ?_)
              refine WL.c rfl (o_ash (show _ = Value.int _ _ from rfl) ?_)
              refine WL.nil ?_
              refine W.ret ?_
              refine ret2v rfl (show _ = Value.int _ _ from rfl) (show _ = Value.int _ _ from rfl) ?_
              rw [hres2]
              exact ⟨rfl, hx⟩
            · try simp only [decide_eq_true_eq, decide_eq_false_iff_not, Bool.not_eq_true', Bool.not_eq_false', Bool.and_eq_true, Bool.or_eq_true, Bool.and_eq_false_iff, Bool.or_eq_false_iff] at c53
              refine W.seq ?_
              have hmany : manyB l[i] = false := by simpa using c53
              rw [if_neg (by simp [hmany])] at hres2
              refine W.tail 5 rfl (by kernel_rfl) ?_
              refine WS.c rfl ((SO.o rfl (o_ldA TI30 rfl h6 (show Cells w c6 0 (exV l[i]) from Cells.of hC7 0 _ (by simp)) rfl ⟨rfl, rfl⟩))) ?_
              refine WS.c rfl ((SO.o rfl (o_mvh h7 ⟨rfl, rfl⟩))) ?_
              refine WS.c rfl ((SO.r (r_nil rfl))) ?_
              refine WS.c rfl ((SO.o rfl (o_fa 0 TI96 rfl TI3 rfl rfl ⟨rfl, rfl⟩))) ?_
              refine WS.c rfl ((SO.o rfl (o_ld TI3 rfl rfl (own_cell hown (j := 0 + S.length * 3 + 0) (by rw [Nat.zero_add]; exact opsR_get _ rfl)) ⟨rfl, rfl⟩))) ?_
              refine WS.nil ?_
              have hxd := Only.drew w
              replace hx := hx.tr hxd
              replace hown := own_ext hown hxd
              replace hC7 := hxd.blk hC7 (fun h => h)
              clear hxd
              generalize w.drew = wd at *
              refine WL.c rfl (o_call Try.call48 (lc rfl (lc rfl ln)) ((right_spec l[i] o.kind _ (hln _ (List.getElem_mem hil)).1 (hln _ (List.getElem_mem hil)).2).mono ?_))
              rintro v77 w77 ⟨rfl, hx77⟩
              replace hx := hx.tr hx77
              replace hown := own_ext hown hx77
              replace hC7 := hx77.blk hC7 (fun h => h)
              refine WL.c rfl (o_not' rfl ?_)
              refine WL.c rfl (o_ash (show _ = Value.bool _ from rfl) ?_)
              refine WL.nil ?_
              refine W.cond rfl (fun c71 => ?_) (fun c71 => ?_)
              · try simp only [decide_eq_true_eq, decide_eq_false_iff_not, Bool.not_eq_true', Bool.not_eq_false', Bool.and_eq_true, Bool.or_eq_true, Bool.and_eq_false_iff, Bool.or_eq_false_iff] at c71
                have hright : rightB l[i] o.kind = false := by simpa using c71
                rw [if_pos hright] at hres2
                refine W.seq ?_
                refine W.region ?_
                refine WL.c rfl (o_mvh h5 ?_)
                refine WL.c rfl (o_ash (show _ = Value.int _ _ from rfl) ?_)
                refine WL.c rfl (o_ash (show _ = Value.int _ _ from rfl) ?_)
                refine WL.nil ?_
                refine W.ret ?_
                refine ret2v rfl (show _ = Value.int _ _ from rfl) (show _ = Value.int _ _ from rfl) ?_
                rw [hres2]
                exact ⟨rfl, hx⟩
              · try simp only [decide_eq_true_eq, decide_eq_false_iff_not, Bool.not_eq_true', Bool.not_eq_false', Bool.and_eq_true, Bool.or_eq_true, Bool.and_eq_false_iff, Bool.or_eq_false_iff] at c71
                have hright : rightB l[i] o.kind = true := by simpa using c71
                rw [if_neg (by simp [hright])] at hres2
                have hkd := rightB_kids hright hmany
                refine W.skip ?_
                refine W.seq ?_
                refine W.region ?_
                refine WL.c rfl (o_mvh h7 ?_)
                refine WL.c rfl (o_nil rfl ?_)
                refine WL.c rfl (o_fa 1 TI96 rfl TI3 rfl rfl ?_)
                refine WL.c rfl (o_ld TI3 rfl rfl (own_cell hown (j := 0 + S.length * 3 + 1) (by rw [Nat.zero_add]; exact opsR_get _ rfl)) ?_)
                refine WL.c rfl (o_subi rfl rfl (by omega) ?_)
                refine WL.c rfl (o_nil rfl ?_)
                refine WL.c rfl (o_fa 1 TI96 rfl TI3 rfl rfl ?_)
                refine WL.u (o_stRj (i := S.length * 3 + 1) TI3 rfl (by omega) (show _ = Value.int .i64 (o.left - 1) from rfl) rfl hown rfl (by omega) ?_)
                intro wA hown' hoA hsA
                replace hown : wA.ownsRow w0.heap.size 96 3 (Value.slice (some ⟨g, 0, none⟩) (S.length + 1) cap) (S.length + 1) (opsR ({ o with left := o.left - 1 } :: S)) := by rw [← opsR_set]; exact hown'
                clear hown'
                replace hC7 := hoA.blk hC7 (fun hk => hcg (by simpa [Value.ownBlock] using hk))
                have hgl := (hown.lt g rfl).1
                replace hx := hx.trans' hoA (fun _ h => h) (fun k hk he => by have := ob he; omega)
                refine WL.nil ?_
                obtain ⟨wd2, hwd⟩ : ∃ wd2, wd2 = wA.drew := ⟨_, rfl⟩
                have hxd : Ext wA wd2 := hwd ▸ Only.drew wA
                replace hx := hx.tr hxd
                replace hown := own_ext hown hxd
                replace hC7 := hxd.blk hC7 (fun h => h)
                refine W.drawT 12 (Ext) [(4, fun v _ => v = _), (6, fun v _ => v = _), (7, fun v _ => v = _), (0, fun v _ => v = _), (5, fun v _ => v = _), (12, fun v _ => v = _), (13, fun v _ => v = _), (14, fun v _ => v = _)] rfl (by kernel_rfl) (Only.refl No) (fun _ _ _ h k => h.trans k) ⟨Mono.eq, Mono.eq, Mono.eq, Mono.eq, Mono.eq, Mono.eq, Mono.eq, Mono.eq, trivial⟩ ⟨h4, h6, h7, h0, h5, h12, h13, h14, trivial⟩ ?_
                refine WD.p rfl (fun e w hR hh => by obtain ⟨h4, -⟩ := hh; exact SG.n (o_mvh h4 ⟨rfl, Only.refl No _⟩)) ?_
                refine WD.p rfl (fun e w hR hh => by obtain ⟨h6, -⟩ := hh; exact SG.n (o_fa 0 TI30 rfl TI3 rfl h6 ⟨rfl, Only.refl No _⟩)) ?_
                refine WD.p rfl (fun e w hR hh => by obtain ⟨h88, -⟩ := hh; rw [← hwd] at hR; exact SG.n (o_ld TI3 rfl h88 (cell_of (hR.blk hC7 (fun h => h)) rfl) ⟨rfl, Only.refl No _⟩)) ?_
                refine WD.p rfl (fun e w hR hh => by obtain ⟨h6, -⟩ := hh; exact SG.n (o_fa 5 TI30 rfl TI3 rfl h6 ⟨rfl, Only.refl No _⟩)) ?_
                refine WD.p rfl (fun e w hR hh => by obtain ⟨h90, -⟩ := hh; rw [← hwd] at hR; exact SG.n (o_ld TI3 rfl h90 (cell_of (hR.blk hC7 (fun h => h)) rfl) ⟨rfl, Only.refl No _⟩)) ?_
                refine WD.p rfl (fun e w hR hh => by obtain ⟨h7, -⟩ := hh; exact SG.n (o_mvh h7 ⟨rfl, Only.refl No _⟩)) ?_
                refine WD.p rfl (fun e w hR hh => by obtain ⟨h92, -⟩ := hh; exact SG.n (o_nil h92 ⟨rfl, Only.refl No _⟩)) ?_
                refine WD.p rfl (fun e w hR hh => by obtain ⟨h93, -⟩ := hh; exact SG.n (o_fa 2 TI96 rfl TI3 rfl h93 ⟨rfl, Only.refl No _⟩)) ?_
                refine WD.p rfl (fun e w hR hh => by obtain ⟨h94, -⟩ := hh; rw [← hwd] at hR; exact SG.n (o_ld TI3 rfl h94 (show w.cell? ⟨g, 0 + S.length * 3 + 2, none⟩ = some (.int .i64 o.deep) from own_cell (own_ext hown hR) (by rw [Nat.zero_add]; exact opsR_get _ rfl)) ⟨rfl, Only.refl No _⟩)) ?_
                refine WD.p rfl (fun e w hR hh => by obtain ⟨h95, -⟩ := hh; exact SG.n (o_addi h95 rfl (by omega) ⟨rfl, Only.refl No _⟩)) ?_
                refine WD.p rfl (fun e w hR hh => by obtain ⟨h96, h91, h89, -⟩ := hh; exact SG.n (o_bldC (cs := [_, _, _]) TI96 (Sizes.cons TI3 (Sizes.cons TI3 (Sizes.cons TI3 Sizes.nil))) rfl (lcp h89 (lcp h91 (lcp h96 lnp))) rfl rfl ⟨rfl, Only.refl No _⟩)) ?_
                refine WD.q (fun u w => w.ownsRow wd2.heap.size 96 3 u 1 (opV ⟨l[i].kind, l[i].kids, o.deep + 1⟩)) (fun u w w2 hR hh => own_ext hh hR) rfl (fun e w hR hh => by obtain ⟨h97, -⟩ := hh; rw [← hwd] at hR; exact SG.n (o_bs1 TI97 TI96 h97 (by decide) (by decide) rfl ⟨own_mono (own_new1 rfl) hR.size, Only.alloc w _⟩)) ?_
                rintro e w hR ⟨h98, h97, h96, h95, h94, h93, h92, h91, h90, h89, h88, h87, h4, h6, h7, h0, h5, h12, h13, h14, -⟩
                rw [← hwd] at hR
                replace hx := hx.tr hR
                replace hown := own_ext hown hR
                replace hC7 := hR.blk hC7 (fun h => h)
                refine WL.c rfl (o_apO (w0.heap.size) TI97 TI96 h87 rfl hown (Sl.own h98) rfl (by decide) (by simp [opV, Value.oneCell']) (by rw [maxLen_eq]; omega) (by omega) hx.size ?_)
                intro v99 w99 hown99 ho99 hb99 hk99
                have hrow : w99.ownsRow w0.heap.size 96 3 v99 (⟨l[i].kind, l[i].kids, o.deep + 1⟩ :: { o with left := o.left - 1 } :: S).length (opsR (⟨l[i].kind, l[i].kids, o.deep + 1⟩ :: { o with left := o.left - 1 } :: S)) := by rw [opsR_cons ⟨l[i].kind, l[i].kids, o.deep + 1⟩]; exact hown99
                replace hx := hx.trans' ho99 (fun _ h => h) (fun k hk he => by have := ob he; omega)
                have hok3 : OkS ({ o with left := o.left - 1 } :: S) := ⟨hdp, by show 0 ≤ o.left - 1; omega, by show o.left - 1 ≤ 64; omega, hok2⟩
                refine WL.c rfl (o_ash (by first | exact (show _ = Value.slice _ _ _ from rfl) | exact rfl) ?_)
                refine WL.nil ?_
                refine W.region ?_
                refine WL.c rfl (o_addi h14 rfl (by omega) ?_)
                refine WL.c rfl (o_mvh (show _ = Value.int _ _ from rfl) ?_)
                refine WL.nil ?_
                refine ⟨⟨i + 1, _, _, by omega, h0, rfl, h12, h13, rfl, hrow, ⟨by simp only [List.length_cons]; omega, hkd.1, hkd.2, hok3⟩, by simp only [List.length_cons] at hdp ⊢; omega, ?_, hx⟩, ?_⟩
                · rw [hres, hlc, chkE_o hpz2, if_neg hdeep, if_neg (by simp [hmany]), if_neg (by simp [hright])]
                · show l.length - ((i : Int) + 1).toNat < _
                  rw [hm14]; simp [intOf]; omega
          · skip
            refine WL.s rfl (g57) rfl ?_
            refine WL.s rfl (g57) rfl ?_
            refine WL.s rfl (g57) rfl ?_
            refine WL.c rfl (o_pickF rfl (g57) ?_)
            refine WL.c rfl (o_ash (show _ = Value.bool _ from rfl) ?_)
            refine WL.nil ?_
            refine W.cut (fun e1 w1 => e1 0 = Value.slice (some ⟨tb, to_, none⟩) l.length tc ∧ e1 4 = Value.slice (some ⟨g, 0, none⟩) (S.length + 1) cap ∧ e1 5 = .int .i64 (i : Int) ∧ e1 6 = .pointer (some ⟨c6, 0, none⟩) ∧ e1 7 = .pointer (some ⟨g, 0 + S.length * 3, none⟩) ∧ e1 12 = Value.slice (some ⟨tb, to_, none⟩) l.length tc ∧ e1 13 = .int .i64 (l.length : Int) ∧ e1 14 = .int .i64 (i : Int) ∧ e1 53 = .bool (manyB l[i]) ∧ w1 = w) ?_ ?_
            · -- both ways
              refine W.cond rfl (fun c53 => ?_) (fun c53 => ?_)
              · try simp only [decide_eq_true_eq, decide_eq_false_iff_not, Bool.not_eq_true', Bool.not_eq_false', Bool.and_eq_true, Bool.or_eq_true, Bool.and_eq_false_iff, Bool.or_eq_false_iff] at c53
                refine W.skip ?_
                exact ⟨h0, h4, h5, h6, rfl, h12, h13, h14, congrArg Value.bool (by rw [Bool.eq_iff_iff]; (try simp only [decide_eq_true_eq, decide_eq_false_iff_not] at g57); (try simp only [decide_eq_true_eq, decide_eq_false_iff_not] at g65); (try (cases c53; done)); all_goals simp only [manyB, Bool.or_eq_true, Bool.and_eq_true, decide_eq_true_eq, Bool.false_eq_true, false_iff]; all_goals omega), rfl⟩
              · try simp only [decide_eq_true_eq, decide_eq_false_iff_not, Bool.not_eq_true', Bool.not_eq_false', Bool.and_eq_true, Bool.or_eq_true, Bool.and_eq_false_iff, Bool.or_eq_false_iff] at c53
                refine W.region ?_
                refine WL.c rfl (o_fa 0 TI30 rfl TI3 rfl h6 ?_)
                refine WL.c rfl (o_ld TI3 rfl rfl (cell_of hC7 rfl) ?_)
                refine WL.c rfl (o_eq rfl rfl ?_)
                refine WL.c rfl (o_mvh (show _ = Value.bool _ from rfl) ?_)
                refine WL.sp 3 rfl (fun g65 => ?_) (fun g65 => ?_)
                · skip
                  refine WL.g rfl (g65) rfl (o_fa 5 TI30 rfl TI3 rfl h6 ?_)
                  refine WL.g rfl (g65) rfl (o_ld TI3 rfl rfl (cell_of hC7 rfl) ?_)
                  refine WL.g rfl (g65) rfl (o_gt rfl rfl ?_)
                  refine WL.c rfl (o_pickA rfl rfl ?_)
                  refine WL.c rfl (o_ash (show _ = Value.bool _ from rfl) ?_)
                  refine WL.nil ?_
                  exact ⟨h0, h4, h5, h6, rfl, h12, h13, h14, congrArg Value.bool (by rw [Bool.eq_iff_iff]; (try simp only [decide_eq_true_eq, decide_eq_false_iff_not] at g57); (try simp only [decide_eq_true_eq, decide_eq_false_iff_not] at g65); (try (cases c53; done)); all_goals simp only [manyB, Bool.or_eq_true, Bool.and_eq_true, decide_eq_true_eq, Bool.false_eq_true, false_iff]; all_goals omega), rfl⟩
                · skip
                  refine WL.s rfl (g65) rfl ?_
                  refine WL.s rfl (g65) rfl ?_
                  refine WL.s rfl (g65) rfl ?_
                  refine WL.c rfl (o_pickF rfl (g65) ?_)
                  refine WL.c rfl (o_ash (show _ = Value.bool _ from rfl) ?_)
                  refine WL.nil ?_
                  exact ⟨h0, h4, h5, h6, rfl, h12, h13, h14, congrArg Value.bool (by rw [Bool.eq_iff_iff]; (try simp only [decide_eq_true_eq, decide_eq_false_iff_not] at g57); (try simp only [decide_eq_true_eq, decide_eq_false_iff_not] at g65); (try (cases c53; done)); all_goals simp only [manyB, Bool.or_eq_true, Bool.and_eq_true, decide_eq_true_eq, Bool.false_eq_true, false_iff]; all_goals omega), rfl⟩
            rintro e w ⟨h0, h4, h5, h6, h7, h12, h13, h14, h53, rfl⟩
            refine W.cond h53 (fun c53 => ?_) (fun c53 => ?_)
            · try simp only [decide_eq_true_eq, decide_eq_false_iff_not, Bool.not_eq_true', Bool.not_eq_false', Bool.and_eq_true, Bool.or_eq_true, Bool.and_eq_false_iff, Bool.or_eq_false_iff] at c53
              refine W.seq ?_
              have hmany : manyB l[i] = true := by simpa using c53
              rw [if_pos hmany] at hres2
              refine W.region ?_
              refine WL.c rfl (o_mvh h5 ?_)
              refine WL.c rfl (o_ash (show _ = Value.int _ _ from rfl) ?_)
              refine WL.c rfl (o_ash (show _ = Value.int _ _ from rfl) ?_)
              refine WL.nil ?_
              refine W.ret ?_
              refine ret2v rfl (show _ = Value.int _ _ from rfl) (show _ = Value.int _ _ from rfl) ?_
              rw [hres2]
              exact ⟨rfl, hx⟩
            · try simp only [decide_eq_true_eq, decide_eq_false_iff_not, Bool.not_eq_true', Bool.not_eq_false', Bool.and_eq_true, Bool.or_eq_true, Bool.and_eq_false_iff, Bool.or_eq_false_iff] at c53
              refine W.seq ?_
              have hmany : manyB l[i] = false := by simpa using c53
              rw [if_neg (by simp [hmany])] at hres2
              refine W.tail 5 rfl (by kernel_rfl) ?_
              refine WS.c rfl ((SO.o rfl (o_ldA TI30 rfl h6 (show Cells w c6 0 (exV l[i]) from Cells.of hC7 0 _ (by simp)) rfl ⟨rfl, rfl⟩))) ?_
              refine WS.c rfl ((SO.o rfl (o_mvh h7 ⟨rfl, rfl⟩))) ?_
              refine WS.c rfl ((SO.r (r_nil rfl))) ?_
              refine WS.c rfl ((SO.o rfl (o_fa 0 TI96 rfl TI3 rfl rfl ⟨rfl, rfl⟩))) ?_
              refine WS.c rfl ((SO.o rfl (o_ld TI3 rfl rfl (own_cell hown (j := 0 + S.length * 3 + 0) (by rw [Nat.zero_add]; exact opsR_get _ rfl)) ⟨rfl, rfl⟩))) ?_
              refine WS.nil ?_
              have hxd := Only.drew w
              replace hx := hx.tr hxd
              replace hown := own_ext hown hxd
              replace hC7 := hxd.blk hC7 (fun h => h)
              clear hxd
              generalize w.drew = wd at *
              refine WL.c rfl (o_call Try.call48 (lc rfl (lc rfl ln)) ((right_spec l[i] o.kind _ (hln _ (List.getElem_mem hil)).1 (hln _ (List.getElem_mem hil)).2).mono ?_))
              rintro v77 w77 ⟨rfl, hx77⟩
              replace hx := hx.tr hx77
              replace hown := own_ext hown hx77
              replace hC7 := hx77.blk hC7 (fun h => h)
              refine WL.c rfl (o_not' rfl ?_)
              refine WL.c rfl (o_ash (show _ = Value.bool _ from rfl) ?_)
              refine WL.nil ?_
              refine W.cond rfl (fun c71 => ?_) (fun c71 => ?_)
              · try simp only [decide_eq_true_eq, decide_eq_false_iff_not, Bool.not_eq_true', Bool.not_eq_false', Bool.and_eq_true, Bool.or_eq_true, Bool.and_eq_false_iff, Bool.or_eq_false_iff] at c71
                have hright : rightB l[i] o.kind = false := by simpa using c71
                rw [if_pos hright] at hres2
                refine W.seq ?_
                refine W.region ?_
                refine WL.c rfl (o_mvh h5 ?_)
                refine WL.c rfl (o_ash (show _ = Value.int _ _ from rfl) ?_)
                refine WL.c rfl (o_ash (show _ = Value.int _ _ from rfl) ?_)
                refine WL.nil ?_
                refine W.ret ?_
                refine ret2v rfl (show _ = Value.int _ _ from rfl) (show _ = Value.int _ _ from rfl) ?_
                rw [hres2]
                exact ⟨rfl, hx⟩
              · try simp only [decide_eq_true_eq, decide_eq_false_iff_not, Bool.not_eq_true', Bool.not_eq_false', Bool.and_eq_true, Bool.or_eq_true, Bool.and_eq_false_iff, Bool.or_eq_false_iff] at c71
                have hright : rightB l[i] o.kind = true := by simpa using c71
                rw [if_neg (by simp [hright])] at hres2
                have hkd := rightB_kids hright hmany
                refine W.skip ?_
                refine W.seq ?_
                refine W.region ?_
                refine WL.c rfl (o_mvh h7 ?_)
                refine WL.c rfl (o_nil rfl ?_)
                refine WL.c rfl (o_fa 1 TI96 rfl TI3 rfl rfl ?_)
                refine WL.c rfl (o_ld TI3 rfl rfl (own_cell hown (j := 0 + S.length * 3 + 1) (by rw [Nat.zero_add]; exact opsR_get _ rfl)) ?_)
                refine WL.c rfl (o_subi rfl rfl (by omega) ?_)
                refine WL.c rfl (o_nil rfl ?_)
                refine WL.c rfl (o_fa 1 TI96 rfl TI3 rfl rfl ?_)
                refine WL.u (o_stRj (i := S.length * 3 + 1) TI3 rfl (by omega) (show _ = Value.int .i64 (o.left - 1) from rfl) rfl hown rfl (by omega) ?_)
                intro wA hown' hoA hsA
                replace hown : wA.ownsRow w0.heap.size 96 3 (Value.slice (some ⟨g, 0, none⟩) (S.length + 1) cap) (S.length + 1) (opsR ({ o with left := o.left - 1 } :: S)) := by rw [← opsR_set]; exact hown'
                clear hown'
                replace hC7 := hoA.blk hC7 (fun hk => hcg (by simpa [Value.ownBlock] using hk))
                have hgl := (hown.lt g rfl).1
                replace hx := hx.trans' hoA (fun _ h => h) (fun k hk he => by have := ob he; omega)
                refine WL.nil ?_
                obtain ⟨wd2, hwd⟩ : ∃ wd2, wd2 = wA.drew := ⟨_, rfl⟩
                have hxd : Ext wA wd2 := hwd ▸ Only.drew wA
                replace hx := hx.tr hxd
                replace hown := own_ext hown hxd
                replace hC7 := hxd.blk hC7 (fun h => h)
                refine W.drawT 12 (Ext) [(4, fun v _ => v = _), (6, fun v _ => v = _), (7, fun v _ => v = _), (0, fun v _ => v = _), (5, fun v _ => v = _), (12, fun v _ => v = _), (13, fun v _ => v = _), (14, fun v _ => v = _)] rfl (by kernel_rfl) (Only.refl No) (fun _ _ _ h k => h.trans k) ⟨Mono.eq, Mono.eq, Mono.eq, Mono.eq, Mono.eq, Mono.eq, Mono.eq, Mono.eq, trivial⟩ ⟨h4, h6, h7, h0, h5, h12, h13, h14, trivial⟩ ?_
                refine WD.p rfl (fun e w hR hh => by obtain ⟨h4, -⟩ := hh; exact SG.n (o_mvh h4 ⟨rfl, Only.refl No _⟩)) ?_
                refine WD.p rfl (fun e w hR hh => by obtain ⟨h6, -⟩ := hh; exact SG.n (o_fa 0 TI30 rfl TI3 rfl h6 ⟨rfl, Only.refl No _⟩)) ?_
                refine WD.p rfl (fun e w hR hh => by obtain ⟨h88, -⟩ := hh; rw [← hwd] at hR; exact SG.n (o_ld TI3 rfl h88 (cell_of (hR.blk hC7 (fun h => h)) rfl) ⟨rfl, Only.refl No _⟩)) ?_
                refine WD.p rfl (fun e w hR hh => by obtain ⟨h6, -⟩ := hh; exact SG.n (o_fa 5 TI30 rfl TI3 rfl h6 ⟨rfl, Only.refl No _⟩)) ?_
                refine WD.p rfl (fun e w hR hh => by obtain ⟨h90, -⟩ := hh; rw [← hwd] at hR; exact SG.n (o_ld TI3 rfl h90 (cell_of (hR.blk hC7 (fun h => h)) rfl) ⟨rfl, Only.refl No _⟩)) ?_
                refine WD.p rfl (fun e w hR hh => by obtain ⟨h7, -⟩ := hh; exact SG.n (o_mvh h7 ⟨rfl, Only.refl No _⟩)) ?_
                refine WD.p rfl (fun e w hR hh => by obtain ⟨h92, -⟩ := hh; exact SG.n (o_nil h92 ⟨rfl, Only.refl No _⟩)) ?_
                refine WD.p rfl (fun e w hR hh => by obtain ⟨h93, -⟩ := hh; exact SG.n (o_fa 2 TI96 rfl TI3 rfl h93 ⟨rfl, Only.refl No _⟩)) ?_
                refine WD.p rfl (fun e w hR hh => by obtain ⟨h94, -⟩ := hh; rw [← hwd] at hR; exact SG.n (o_ld TI3 rfl h94 (show w.cell? ⟨g, 0 + S.length * 3 + 2, none⟩ = some (.int .i64 o.deep) from own_cell (own_ext hown hR) (by rw [Nat.zero_add]; exact opsR_get _ rfl)) ⟨rfl, Only.refl No _⟩)) ?_
                refine WD.p rfl (fun e w hR hh => by obtain ⟨h95, -⟩ := hh; exact SG.n (o_addi h95 rfl (by omega) ⟨rfl, Only.refl No _⟩)) ?_
                refine WD.p rfl (fun e w hR hh => by obtain ⟨h96, h91, h89, -⟩ := hh; exact SG.n (o_bldC (cs := [_, _, _]) TI96 (Sizes.cons TI3 (Sizes.cons TI3 (Sizes.cons TI3 Sizes.nil))) rfl (lcp h89 (lcp h91 (lcp h96 lnp))) rfl rfl ⟨rfl, Only.refl No _⟩)) ?_
                refine WD.q (fun u w => w.ownsRow wd2.heap.size 96 3 u 1 (opV ⟨l[i].kind, l[i].kids, o.deep + 1⟩)) (fun u w w2 hR hh => own_ext hh hR) rfl (fun e w hR hh => by obtain ⟨h97, -⟩ := hh; rw [← hwd] at hR; exact SG.n (o_bs1 TI97 TI96 h97 (by decide) (by decide) rfl ⟨own_mono (own_new1 rfl) hR.size, Only.alloc w _⟩)) ?_
                rintro e w hR ⟨h98, h97, h96, h95, h94, h93, h92, h91, h90, h89, h88, h87, h4, h6, h7, h0, h5, h12, h13, h14, -⟩
                rw [← hwd] at hR
                replace hx := hx.tr hR
                replace hown := own_ext hown hR
                replace hC7 := hR.blk hC7 (fun h => h)
                refine WL.c rfl (o_apO (w0.heap.size) TI97 TI96 h87 rfl hown (Sl.own h98) rfl (by decide) (by simp [opV, Value.oneCell']) (by rw [maxLen_eq]; omega) (by omega) hx.size ?_)
                intro v99 w99 hown99 ho99 hb99 hk99
                have hrow : w99.ownsRow w0.heap.size 96 3 v99 (⟨l[i].kind, l[i].kids, o.deep + 1⟩ :: { o with left := o.left - 1 } :: S).length (opsR (⟨l[i].kind, l[i].kids, o.deep + 1⟩ :: { o with left := o.left - 1 } :: S)) := by rw [opsR_cons ⟨l[i].kind, l[i].kids, o.deep + 1⟩]; exact hown99
                replace hx := hx.trans' ho99 (fun _ h => h) (fun k hk he => by have := ob he; omega)
                have hok3 : OkS ({ o with left := o.left - 1 } :: S) := ⟨hdp, by show 0 ≤ o.left - 1; omega, by show o.left - 1 ≤ 64; omega, hok2⟩
                refine WL.c rfl (o_ash (by first | exact (show _ = Value.slice _ _ _ from rfl) | exact rfl) ?_)
                refine WL.nil ?_
                refine W.region ?_
                refine WL.c rfl (o_addi h14 rfl (by omega) ?_)
                refine WL.c rfl (o_mvh (show _ = Value.int _ _ from rfl) ?_)
                refine WL.nil ?_
                refine ⟨⟨i + 1, _, _, by omega, h0, rfl, h12, h13, rfl, hrow, ⟨by simp only [List.length_cons]; omega, hkd.1, hkd.2, hok3⟩, by simp only [List.length_cons] at hdp ⊢; omega, ?_, hx⟩, ?_⟩
                · rw [hres, hlc, chkE_o hpz2, if_neg hdeep, if_neg (by simp [hmany]), if_neg (by simp [hright])]
                · show l.length - ((i : Int) + 1).toNat < _
                  rw [hm14]; simp [intOf]; omega
  · try simp only [decide_eq_true_eq, decide_eq_false_iff_not, Bool.not_eq_true', Bool.not_eq_false', Bool.and_eq_true, Bool.or_eq_true, Bool.and_eq_false_iff, Bool.or_eq_false_iff] at c15
    have hil : i = l.length := by omega
    rw [hil, List.drop_length, chkE_nil] at hres
    refine W.exit ?_
    refine W.seq ?_
    refine W.seq ?_
    refine W.region ?_
    refine WL.c rfl (o_mvh h4 ?_)
    refine WL.c rfl (o_lenR TI97 rfl (Sl.own hown) ?_)
    refine WL.c rfl (o_mvh (show _ = Value.int _ _ from rfl) ?_)
    refine WL.nil ?_
    refine W.block ?_
    refine W.loop (fun e w => ∃ k : Nat, k ≤ S0.length ∧ e 0 = v ∧ e 101 = sv0 ∧ e 102 = .int .i64 (S0.length : Int) ∧ e 103 = .int .i64 (k : Int) ∧ leftB S0 = leftB (S0.reverse.drop k).reverse ∧ w.ownsRow w0.heap.size 96 3 sv0 S0.length (opsR S0) ∧ Ext w0 w) (fun e w => S0.length - (intOf (e 103)).toNat) ?_ ?_
    · exact ⟨0, Nat.zero_le _, h0, rfl, rfl, rfl, by rw [List.drop_zero, List.reverse_reverse], hown, hx⟩
    rintro e w ⟨k, hk, h0, h101, h102, h103, hlb, hown, hx⟩
    have hm103 := h103
    refine W.seq ?_
    refine W.region ?_
    refine WL.c rfl (o_lt h103 h102 ?_)
    refine WL.nil ?_
    refine W.seq ?_
    refine W.cond rfl (fun c104 => ?_) (fun c104 => ?_)
    · try simp only [decide_eq_true_eq, decide_eq_false_iff_not, Bool.not_eq_true', Bool.not_eq_false', Bool.and_eq_true, Bool.or_eq_true, Bool.and_eq_false_iff, Bool.or_eq_false_iff] at c104
      have hk1 : k < S0.length := by omega
      obtain ⟨g, cap, rfl, hgb⟩ := own_some hown (by omega)
      have hcc := own_cellsAt hown k
      rw [ops_at hk1] at hcc
      refine W.skip ?_
      refine W.seq ?_
      refine W.block ?_
      refine W.seq ?_
      refine W.region ?_
      refine WL.c rfl (o_ixB TI97 TI96 h101 h103 (by omega) ?_)
      refine WL.c rfl (o_ldA TI96 rfl rfl hcc rfl ?_)
      refine WL.c rfl (o_alB TI96 ?_)
      intro w9 hC9 hx9 hs9
      refine WL.u (o_stA TI96 rfl (show _ = Value.agg (opV (S0.reverse[k]'(by simpa using hk1))).toArray from rfl) rfl rfl hC9 rfl ?_)
      intro wb hCb hob hsb
      have hxb := Ext.own hx9 (Nat.le_refl _) hob
      clear hC9 hx9 hs9 hob hsb hcc
      replace hown := own_ext hown hxb
      replace hx := hx.tr hxb
      refine WL.nil ?_
      refine W.seq ?_
      refine W.region ?_
      refine WL.c rfl (o_fa 1 TI96 rfl TI3 rfl rfl ?_)
      refine WL.c rfl (o_ld TI3 rfl rfl (cell_of hCb rfl) ?_)
      refine WL.c rfl (o_gt rfl rfl ?_)
      refine WL.nil ?_
      refine W.cond rfl (fun c109 => ?_) (fun c109 => ?_)
      · try simp only [decide_eq_true_eq, decide_eq_false_iff_not, Bool.not_eq_true', Bool.not_eq_false', Bool.and_eq_true, Bool.or_eq_true, Bool.and_eq_false_iff, Bool.or_eq_false_iff] at c109
        have hnl : 0 < (S0.reverse[k]'(by simpa using hk1)).left := by omega
        rw [hlb, leftB_at _ _ hk1, decide_eq_true hnl, Bool.true_or, if_pos rfl] at hres
        refine W.seq ?_
        refine W.region ?_
        refine WL.c rfl (o_mvh h0 ?_)
        refine WL.c rfl (o_lenR TI38 rfl (hS0.ext hx) ?_)
        refine WL.c rfl (o_ash (show _ = Value.int _ _ from rfl) ?_)
        refine WL.c rfl (o_ash (show _ = Value.int _ _ from rfl) ?_)
        refine WL.nil ?_
        refine W.ret ?_
        refine ret2v rfl (show _ = Value.int _ _ from rfl) (show _ = Value.int _ _ from rfl) ?_
        rw [hres]
        exact ⟨rfl, hx⟩
      · try simp only [decide_eq_true_eq, decide_eq_false_iff_not, Bool.not_eq_true', Bool.not_eq_false', Bool.and_eq_true, Bool.or_eq_true, Bool.and_eq_false_iff, Bool.or_eq_false_iff] at c109
        have hnl : ¬ 0 < (S0.reverse[k]'(by simpa using hk1)).left := by omega
        refine W.skip ?_
        refine W.region ?_
        refine WL.c rfl (o_addi h103 rfl (by omega) ?_)
        refine WL.c rfl (o_mvh (show _ = Value.int _ _ from rfl) ?_)
        refine WL.nil ?_
        refine ⟨⟨k + 1, by omega, h0, h101, h102, rfl, ?_, hown, hx⟩, ?_⟩
        · rw [hlb, leftB_at _ _ hk1, decide_eq_false hnl, Bool.false_or]
        · show S0.length - ((k : Int) + 1).toNat < _
          rw [hm103]; simp [intOf]; omega
    · try simp only [decide_eq_true_eq, decide_eq_false_iff_not, Bool.not_eq_true', Bool.not_eq_false', Bool.and_eq_true, Bool.or_eq_true, Bool.and_eq_false_iff, Bool.or_eq_false_iff] at c104
      have hk1 : k = S0.length := by omega
      rw [hk1, show (S0.reverse.drop S0.length).reverse = [] by simp] at hlb
      rw [hlb, if_neg (by simp [leftB])] at hres
      refine W.exit ?_
      refine W.seq ?_
      refine W.region ?_
      refine WL.c rfl (o_ash (show _ = Value.int _ _ from rfl) ?_)
      refine WL.c rfl (o_ash (show _ = Value.int _ _ from rfl) ?_)
      refine WL.nil ?_
      refine W.ret ?_
      refine ret2v rfl (show _ = Value.int _ _ from rfl) (show _ = Value.int _ _ from rfl) ?_
      rw [hres]
      exact ⟨rfl, hx⟩
end Go.Proofs.Ytcljkkfpcomdcaa
