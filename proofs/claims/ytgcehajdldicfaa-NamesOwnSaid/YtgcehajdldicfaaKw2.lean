/-
  Walks and lemmas. Written by program out of specs of mine.
-/
import Derived.WalkKit
import Derived.WalkSpells
import Derived.WalkLawsBesides
import Derived.Deep.Quiet
import Derived.StillTail
import Derived.StringKeys
import Derived.Laws.StructEq
import Derived.Laws.Externs
import Derived.Laws.Tables
import Derived.Scope
import Derived.Test.YtgcehajdldicfaaProg
import Derived.Laws.AppendOwn
import Derived.Maps.AppendAt
import Derived.Recover
import Derived.Lib.Bytealg
import Derived.SizedLaws
import Derived.ChangeArms
import Derived.ChangeSlices
import Derived.Maps.OwnSet
import Derived.Test.YtgcehajdldicfaaRows
import Derived.ProofKit
import Derived.OpenShut
import Derived.ShutString
import Derived.ChangeOld
import Derived.Below
import Derived.Test.YtgcehajdldicfaaKw1
set_option linter.unusedSimpArgs false
set_option linter.unusedVariables false
set_option maxRecDepth 100000
set_option linter.unusedSimpArgs false
set_option linter.unusedVariables false
set_option maxRecDepth 100000
namespace Go.Proofs.Ytgcehajdldicfaa
open Go Go.Vc Go.RowKit Go.Proofs

def okB (x : Ex) : Bool :=
  if x.kind = 1 then (decide (x.n = 1) || decide (x.n = 2) || decide (x.n = 4) || decide (x.n = 8)) && decide (x.kids = 0)
  else if x.kind = 2 ∨ x.kind = 3 ∨ x.kind = 9 then decide (x.n = 0) && decide (x.kids = 0)
  else if x.kind = 4 ∨ x.kind = 5 then decide (0 ≤ x.n) && decide (x.n ≤ 2147483647) && decide (x.kids = 1)
  else if x.kind = 6 then decide (x.n = 0) && decide (x.kids = 1)
  else if x.kind = 7 ∨ x.kind = 8 then decide (x.n = 0) && decide (1 ≤ x.kids)
  else false
def namB (x : Ex) : Bool := if x.kind = 9 then nameB x.name else decide (x.name = [])
def labB (x : Ex) (above : Int) : Bool := if above = 8 then nameB x.label else decide (x.label = [])
def tagB (x : Ex) (above : Int) : Bool := decide (x.tag = 0) || (decide (above = 7) && decide (0 < x.tag) && decide (x.tag ≤ 2147483647))
def rightB (x : Ex) (above : Int) : Bool := okB x && namB x && labB x above && tagB x above
set_option maxHeartbeats 2000000 in
theorem right_spec (x : Ex) (above : Int) (w0 : World) (hn : x.name.length ≤ 9223372036854775807) (hl : x.label.length ≤ 9223372036854775807) : Ca Try.prog 66 #[.agg (exV x).toArray, .int .i64 above] w0 (fun v w' => v = .bool (rightB x above) ∧ Ext w0 w') := by
  refine Ca.of Try.func66 Try.ntmps66 rfl rfl ?_
  refine W.seq ?_
  refine W.region ?_
  refine WL.c rfl (o_boxB rfl ?_)
  intro w2 hC2 hx2 hs2
  obtain ⟨c2, hc2⟩ : ∃ c, c = w0.heap.size := ⟨_, rfl⟩
  rw [← hc2] at hC2 ⊢
  replace hC2 : w2.heap[c2]? = some (.cells (exV x).toArray 26 (0, 0)) := hC2
  refine WL.c rfl (o_ash (show _ = Value.bool _ from rfl) ?_)
  refine WL.nil ?_
  refine W.seq ?_
  refine W.region ?_
  refine WL.c rfl (o_ash (show _ = Value.bool _ from rfl) ?_)
  refine WL.nil ?_
  refine W.seq ?_
  refine W.seq ?_
  refine W.region ?_
  refine WL.c rfl (o_fa 0 TI26 rfl TI3 rfl rfl ?_)
  refine WL.c rfl (o_ld TI3 rfl rfl (cell_of hC2 rfl) ?_)
  refine WL.nil ?_
  refine W.block ?_
  refine W.seq ?_
  refine W.region ?_
  refine WL.c rfl (o_eq rfl rfl ?_)
  refine WL.c rfl (o_ash (show _ = Value.bool _ from rfl) ?_)
  refine WL.nil ?_
  refine W.cut (fun e1 w1 => e1 1 = .int .i64 above ∧ e1 2 = .pointer (some ⟨c2, 0, none⟩) ∧ e1 5 = .bool (okB x) ∧ w1 = w2) ?_ ?_
  · -- both ways
    refine W.cond rfl (fun c11 => ?_) (fun c11 => ?_)
    · try simp only [decide_eq_true_eq, decide_eq_false_iff_not, Bool.not_eq_true', Bool.not_eq_false', Bool.and_eq_true, Bool.or_eq_true, Bool.and_eq_false_iff, Bool.or_eq_false_iff] at c11
      refine W.region ?_
      refine WL.c rfl (o_fa 1 TI26 rfl TI3 rfl rfl ?_)
      refine WL.c rfl (o_ld TI3 rfl rfl (cell_of hC2 rfl) ?_)
      refine WL.c rfl (o_eq rfl rfl ?_)
      refine WL.c rfl (o_mvh (show _ = Value.bool _ from rfl) ?_)
      refine WL.sp 3 rfl (fun g16 => ?_) (fun g16 => ?_)
      · skip
        refine WL.s rfl (g16) rfl ?_
        refine WL.s rfl (g16) rfl ?_
        refine WL.s rfl (g16) rfl ?_
        refine WL.c rfl (o_pickT rfl (g16) ?_)
        refine WL.c rfl (o_mvh (show _ = Value.bool _ from rfl) ?_)
        refine WL.s rfl (rfl) rfl ?_
        refine WL.s rfl (rfl) rfl ?_
        refine WL.s rfl (rfl) rfl ?_
        refine WL.c rfl (o_pickT rfl (rfl) ?_)
        refine WL.c rfl (o_mvh (show _ = Value.bool _ from rfl) ?_)
        refine WL.s rfl (rfl) rfl ?_
        refine WL.s rfl (rfl) rfl ?_
        refine WL.s rfl (rfl) rfl ?_
        refine WL.c rfl (o_pickT rfl (rfl) ?_)
        refine WL.c rfl (o_mvh (show _ = Value.bool _ from rfl) ?_)
        refine WL.g rfl (rfl) rfl (o_fa 5 TI26 rfl TI3 rfl rfl ?_)
        refine WL.g rfl (rfl) rfl (o_ld TI3 rfl rfl (cell_of hC2 rfl) ?_)
        refine WL.g rfl (rfl) rfl (o_eq rfl rfl ?_)
        refine WL.c rfl (o_pickA rfl rfl ?_)
        refine WL.c rfl (o_ash (show _ = Value.bool _ from rfl) ?_)
        refine WL.nil ?_
        exact ⟨rfl, rfl, congrArg Value.bool (by rw [Bool.eq_iff_iff]; simp_all [okB] <;> omega), rfl⟩
      · skip
        refine WL.g rfl (g16) rfl (o_fa 1 TI26 rfl TI3 rfl rfl ?_)
        refine WL.g rfl (g16) rfl (o_ld TI3 rfl rfl (cell_of hC2 rfl) ?_)
        refine WL.g rfl (g16) rfl (o_eq rfl rfl ?_)
        refine WL.c rfl (o_pickO rfl rfl ?_)
        refine WL.c rfl (o_mvh (show _ = Value.bool _ from rfl) ?_)
        refine WL.sp 8 rfl (fun g21 => ?_) (fun g21 => ?_)
        · skip
          refine WL.s rfl (g21) rfl ?_
          refine WL.s rfl (g21) rfl ?_
          refine WL.s rfl (g21) rfl ?_
          refine WL.c rfl (o_pickT rfl (g21) ?_)
          refine WL.c rfl (o_mvh (show _ = Value.bool _ from rfl) ?_)
          refine WL.s rfl (rfl) rfl ?_
          refine WL.s rfl (rfl) rfl ?_
          refine WL.s rfl (rfl) rfl ?_
          refine WL.c rfl (o_pickT rfl (rfl) ?_)
          refine WL.c rfl (o_mvh (show _ = Value.bool _ from rfl) ?_)
          refine WL.g rfl (rfl) rfl (o_fa 5 TI26 rfl TI3 rfl rfl ?_)
          refine WL.g rfl (rfl) rfl (o_ld TI3 rfl rfl (cell_of hC2 rfl) ?_)
          refine WL.g rfl (rfl) rfl (o_eq rfl rfl ?_)
          refine WL.c rfl (o_pickA rfl rfl ?_)
          refine WL.c rfl (o_ash (show _ = Value.bool _ from rfl) ?_)
          refine WL.nil ?_
          exact ⟨rfl, rfl, congrArg Value.bool (by rw [Bool.eq_iff_iff]; simp_all [okB] <;> omega), rfl⟩
        · skip
          refine WL.g rfl (g21) rfl (o_fa 1 TI26 rfl TI3 rfl rfl ?_)
          refine WL.g rfl (g21) rfl (o_ld TI3 rfl rfl (cell_of hC2 rfl) ?_)
          refine WL.g rfl (g21) rfl (o_eq rfl rfl ?_)
          refine WL.c rfl (o_pickO rfl rfl ?_)
          refine WL.c rfl (o_mvh (show _ = Value.bool _ from rfl) ?_)
          refine WL.sp 13 rfl (fun g26 => ?_) (fun g26 => ?_)
          · skip
            refine WL.s rfl (g26) rfl ?_
            refine WL.s rfl (g26) rfl ?_
            refine WL.s rfl (g26) rfl ?_
            refine WL.c rfl (o_pickT rfl (g26) ?_)
            refine WL.c rfl (o_mvh (show _ = Value.bool _ from rfl) ?_)
            refine WL.g rfl (rfl) rfl (o_fa 5 TI26 rfl TI3 rfl rfl ?_)
            refine WL.g rfl (rfl) rfl (o_ld TI3 rfl rfl (cell_of hC2 rfl) ?_)
            refine WL.g rfl (rfl) rfl (o_eq rfl rfl ?_)
            refine WL.c rfl (o_pickA rfl rfl ?_)
            refine WL.c rfl (o_ash (show _ = Value.bool _ from rfl) ?_)
            refine WL.nil ?_
            exact ⟨rfl, rfl, congrArg Value.bool (by rw [Bool.eq_iff_iff]; simp_all [okB] <;> omega), rfl⟩
          · skip
            refine WL.g rfl (g26) rfl (o_fa 1 TI26 rfl TI3 rfl rfl ?_)
            refine WL.g rfl (g26) rfl (o_ld TI3 rfl rfl (cell_of hC2 rfl) ?_)
            refine WL.g rfl (g26) rfl (o_eq rfl rfl ?_)
            refine WL.c rfl (o_pickO rfl rfl ?_)
            refine WL.c rfl (o_mvh (show _ = Value.bool _ from rfl) ?_)
            refine WL.sp 18 rfl (fun g31 => ?_) (fun g31 => ?_)
            · skip
              refine WL.g rfl (g31) rfl (o_fa 5 TI26 rfl TI3 rfl rfl ?_)
              refine WL.g rfl (g31) rfl (o_ld TI3 rfl rfl (cell_of hC2 rfl) ?_)
              refine WL.g rfl (g31) rfl (o_eq rfl rfl ?_)
              refine WL.c rfl (o_pickA rfl rfl ?_)
              refine WL.c rfl (o_ash (show _ = Value.bool _ from rfl) ?_)
              refine WL.nil ?_
              exact ⟨rfl, rfl, congrArg Value.bool (by rw [Bool.eq_iff_iff]; simp_all [okB] <;> omega), rfl⟩
            · skip
              refine WL.s rfl (g31) rfl ?_
              refine WL.s rfl (g31) rfl ?_
              refine WL.s rfl (g31) rfl ?_
              refine WL.c rfl (o_pickF rfl (g31) ?_)
              refine WL.c rfl (o_ash (show _ = Value.bool _ from rfl) ?_)
              refine WL.nil ?_
              exact ⟨rfl, rfl, congrArg Value.bool (by rw [Bool.eq_iff_iff]; simp_all [okB] <;> omega), rfl⟩
    · try simp only [decide_eq_true_eq, decide_eq_false_iff_not, Bool.not_eq_true', Bool.not_eq_false', Bool.and_eq_true, Bool.or_eq_true, Bool.and_eq_false_iff, Bool.or_eq_false_iff] at c11
      refine W.seq ?_
      refine W.seq ?_
      refine W.region ?_
      refine WL.c rfl (o_eq rfl rfl ?_)
      refine WL.c rfl (o_ash (show _ = Value.bool _ from rfl) ?_)
      refine WL.nil ?_
      refine W.cond rfl (fun c36 => ?_) (fun c36 => ?_)
      · try simp only [decide_eq_true_eq, decide_eq_false_iff_not, Bool.not_eq_true', Bool.not_eq_false', Bool.and_eq_true, Bool.or_eq_true, Bool.and_eq_false_iff, Bool.or_eq_false_iff] at c36
        refine W.skip ?_
        refine W.cond rfl (fun c36 => ?_) (fun c36 => ?_)
        · try simp only [decide_eq_true_eq, decide_eq_false_iff_not, Bool.not_eq_true', Bool.not_eq_false', Bool.and_eq_true, Bool.or_eq_true, Bool.and_eq_false_iff, Bool.or_eq_false_iff] at c36
          refine W.region ?_
          refine WL.c rfl (o_fa 1 TI26 rfl TI3 rfl rfl ?_)
          refine WL.c rfl (o_ld TI3 rfl rfl (cell_of hC2 rfl) ?_)
          refine WL.c rfl (o_eq rfl rfl ?_)
          refine WL.c rfl (o_mvh (show _ = Value.bool _ from rfl) ?_)
          refine WL.sp 3 rfl (fun g43 => ?_) (fun g43 => ?_)
          · skip
            refine WL.g rfl (g43) rfl (o_fa 5 TI26 rfl TI3 rfl rfl ?_)
            refine WL.g rfl (g43) rfl (o_ld TI3 rfl rfl (cell_of hC2 rfl) ?_)
            refine WL.g rfl (g43) rfl (o_eq rfl rfl ?_)
            refine WL.c rfl (o_pickA rfl rfl ?_)
            refine WL.c rfl (o_ash (show _ = Value.bool _ from rfl) ?_)
            refine WL.nil ?_
            exact ⟨rfl, rfl, congrArg Value.bool (by rw [Bool.eq_iff_iff]; simp_all [okB] <;> omega), rfl⟩
          · skip
            refine WL.s rfl (g43) rfl ?_
            refine WL.s rfl (g43) rfl ?_
            refine WL.s rfl (g43) rfl ?_
            refine WL.c rfl (o_pickF rfl (g43) ?_)
            refine WL.c rfl (o_ash (show _ = Value.bool _ from rfl) ?_)
            refine WL.nil ?_
            exact ⟨rfl, rfl, congrArg Value.bool (by rw [Bool.eq_iff_iff]; simp_all [okB] <;> omega), rfl⟩
        · try simp only [decide_eq_true_eq, decide_eq_false_iff_not, Bool.not_eq_true', Bool.not_eq_false', Bool.and_eq_true, Bool.or_eq_true, Bool.and_eq_false_iff, Bool.or_eq_false_iff] at c36
          refine W.seq ?_
          refine W.seq ?_
          refine W.region ?_
          refine WL.c rfl (o_eq rfl rfl ?_)
          refine WL.c rfl (o_ash (show _ = Value.bool _ from rfl) ?_)
          refine WL.nil ?_
          refine W.cond rfl (fun c48 => ?_) (fun c48 => ?_)
          · try simp only [decide_eq_true_eq, decide_eq_false_iff_not, Bool.not_eq_true', Bool.not_eq_false', Bool.and_eq_true, Bool.or_eq_true, Bool.and_eq_false_iff, Bool.or_eq_false_iff] at c48
            refine W.skip ?_
            refine W.cond rfl (fun c48 => ?_) (fun c48 => ?_)
            · try simp only [decide_eq_true_eq, decide_eq_false_iff_not, Bool.not_eq_true', Bool.not_eq_false', Bool.and_eq_true, Bool.or_eq_true, Bool.and_eq_false_iff, Bool.or_eq_false_iff] at c48
              refine W.region ?_
              refine WL.c rfl (o_fa 1 TI26 rfl TI3 rfl rfl ?_)
              refine WL.c rfl (o_ld TI3 rfl rfl (cell_of hC2 rfl) ?_)
              refine WL.c rfl (o_ge rfl rfl ?_)
              refine WL.c rfl (o_mvh (show _ = Value.bool _ from rfl) ?_)
              refine WL.sp 3 rfl (fun g54 => ?_) (fun g54 => ?_)
              · skip
                refine WL.g rfl (g54) rfl (o_fa 1 TI26 rfl TI3 rfl rfl ?_)
                refine WL.g rfl (g54) rfl (o_ld TI3 rfl rfl (cell_of hC2 rfl) ?_)
                refine WL.g rfl (g54) rfl (o_le rfl rfl ?_)
                refine WL.c rfl (o_pickA rfl rfl ?_)
                refine WL.c rfl (o_mvh (show _ = Value.bool _ from rfl) ?_)
                refine WL.sp 8 rfl (fun g59 => ?_) (fun g59 => ?_)
                · skip
                  refine WL.g rfl (g59) rfl (o_fa 5 TI26 rfl TI3 rfl rfl ?_)
                  refine WL.g rfl (g59) rfl (o_ld TI3 rfl rfl (cell_of hC2 rfl) ?_)
                  refine WL.g rfl (g59) rfl (o_eq rfl rfl ?_)
                  refine WL.c rfl (o_pickA rfl rfl ?_)
                  refine WL.c rfl (o_ash (show _ = Value.bool _ from rfl) ?_)
                  refine WL.nil ?_
                  exact ⟨rfl, rfl, congrArg Value.bool (by rw [Bool.eq_iff_iff]; simp_all [okB] <;> omega), rfl⟩
                · skip
                  refine WL.s rfl (g59) rfl ?_
                  refine WL.s rfl (g59) rfl ?_
                  refine WL.s rfl (g59) rfl ?_
                  refine WL.c rfl (o_pickF rfl (g59) ?_)
                  refine WL.c rfl (o_ash (show _ = Value.bool _ from rfl) ?_)
                  refine WL.nil ?_
                  exact ⟨rfl, rfl, congrArg Value.bool (by rw [Bool.eq_iff_iff]; simp_all [okB] <;> omega), rfl⟩
              · skip
                refine WL.s rfl (g54) rfl ?_
                refine WL.s rfl (g54) rfl ?_
                refine WL.s rfl (g54) rfl ?_
                refine WL.c rfl (o_pickF rfl (g54) ?_)
                refine WL.c rfl (o_mvh (show _ = Value.bool _ from rfl) ?_)
                refine WL.s rfl (rfl) rfl ?_
                refine WL.s rfl (rfl) rfl ?_
                refine WL.s rfl (rfl) rfl ?_
                refine WL.c rfl (o_pickF rfl (rfl) ?_)
                refine WL.c rfl (o_ash (show _ = Value.bool _ from rfl) ?_)
                refine WL.nil ?_
                exact ⟨rfl, rfl, congrArg Value.bool (by rw [Bool.eq_iff_iff]; simp_all [okB] <;> omega), rfl⟩
            · try simp only [decide_eq_true_eq, decide_eq_false_iff_not, Bool.not_eq_true', Bool.not_eq_false', Bool.and_eq_true, Bool.or_eq_true, Bool.and_eq_false_iff, Bool.or_eq_false_iff] at c48
              refine W.seq ?_
              refine W.region ?_
              refine WL.c rfl (o_eq rfl rfl ?_)
              refine WL.c rfl (o_ash (show _ = Value.bool _ from rfl) ?_)
              refine WL.nil ?_
              refine W.cond rfl (fun c64 => ?_) (fun c64 => ?_)
              · try simp only [decide_eq_true_eq, decide_eq_false_iff_not, Bool.not_eq_true', Bool.not_eq_false', Bool.and_eq_true, Bool.or_eq_true, Bool.and_eq_false_iff, Bool.or_eq_false_iff] at c64
                refine W.region ?_
                refine WL.c rfl (o_fa 1 TI26 rfl TI3 rfl rfl ?_)
                refine WL.c rfl (o_ld TI3 rfl rfl (cell_of hC2 rfl) ?_)
                refine WL.c rfl (o_eq rfl rfl ?_)
                refine WL.c rfl (o_mvh (show _ = Value.bool _ from rfl) ?_)
                refine WL.sp 3 rfl (fun g69 => ?_) (fun g69 => ?_)
                · skip
                  refine WL.g rfl (g69) rfl (o_fa 5 TI26 rfl TI3 rfl rfl ?_)
                  refine WL.g rfl (g69) rfl (o_ld TI3 rfl rfl (cell_of hC2 rfl) ?_)
                  refine WL.g rfl (g69) rfl (o_eq rfl rfl ?_)
                  refine WL.c rfl (o_pickA rfl rfl ?_)
                  refine WL.c rfl (o_ash (show _ = Value.bool _ from rfl) ?_)
                  refine WL.nil ?_
                  exact ⟨rfl, rfl, congrArg Value.bool (by rw [Bool.eq_iff_iff]; simp_all [okB] <;> omega), rfl⟩
                · skip
                  refine WL.s rfl (g69) rfl ?_
                  refine WL.s rfl (g69) rfl ?_
                  refine WL.s rfl (g69) rfl ?_
                  refine WL.c rfl (o_pickF rfl (g69) ?_)
                  refine WL.c rfl (o_ash (show _ = Value.bool _ from rfl) ?_)
                  refine WL.nil ?_
                  exact ⟨rfl, rfl, congrArg Value.bool (by rw [Bool.eq_iff_iff]; simp_all [okB] <;> omega), rfl⟩
              · try simp only [decide_eq_true_eq, decide_eq_false_iff_not, Bool.not_eq_true', Bool.not_eq_false', Bool.and_eq_true, Bool.or_eq_true, Bool.and_eq_false_iff, Bool.or_eq_false_iff] at c64
                refine W.seq ?_
                refine W.seq ?_
                refine W.region ?_
                refine WL.c rfl (o_eq rfl rfl ?_)
                refine WL.c rfl (o_ash (show _ = Value.bool _ from rfl) ?_)
                refine WL.nil ?_
                refine W.cond rfl (fun c74 => ?_) (fun c74 => ?_)
                · try simp only [decide_eq_true_eq, decide_eq_false_iff_not, Bool.not_eq_true', Bool.not_eq_false', Bool.and_eq_true, Bool.or_eq_true, Bool.and_eq_false_iff, Bool.or_eq_false_iff] at c74
                  refine W.skip ?_
                  refine W.cond rfl (fun c74 => ?_) (fun c74 => ?_)
                  · try simp only [decide_eq_true_eq, decide_eq_false_iff_not, Bool.not_eq_true', Bool.not_eq_false', Bool.and_eq_true, Bool.or_eq_true, Bool.and_eq_false_iff, Bool.or_eq_false_iff] at c74
                    refine W.region ?_
                    refine WL.c rfl (o_fa 1 TI26 rfl TI3 rfl rfl ?_)
                    refine WL.c rfl (o_ld TI3 rfl rfl (cell_of hC2 rfl) ?_)
                    refine WL.c rfl (o_eq rfl rfl ?_)
                    refine WL.c rfl (o_mvh (show _ = Value.bool _ from rfl) ?_)
                    refine WL.sp 3 rfl (fun g80 => ?_) (fun g80 => ?_)
                    · skip
                      refine WL.g rfl (g80) rfl (o_fa 5 TI26 rfl TI3 rfl rfl ?_)
                      refine WL.g rfl (g80) rfl (o_ld TI3 rfl rfl (cell_of hC2 rfl) ?_)
                      refine WL.g rfl (g80) rfl (o_ge rfl rfl ?_)
                      refine WL.c rfl (o_pickA rfl rfl ?_)
                      refine WL.c rfl (o_ash (show _ = Value.bool _ from rfl) ?_)
                      refine WL.nil ?_
                      exact ⟨rfl, rfl, congrArg Value.bool (by rw [Bool.eq_iff_iff]; simp_all [okB] <;> omega), rfl⟩
                    · skip
                      refine WL.s rfl (g80) rfl ?_
                      refine WL.s rfl (g80) rfl ?_
                      refine WL.s rfl (g80) rfl ?_
                      refine WL.c rfl (o_pickF rfl (g80) ?_)
                      refine WL.c rfl (o_ash (show _ = Value.bool _ from rfl) ?_)
                      refine WL.nil ?_
                      exact ⟨rfl, rfl, congrArg Value.bool (by rw [Bool.eq_iff_iff]; simp_all [okB] <;> omega), rfl⟩
                  · try simp only [decide_eq_true_eq, decide_eq_false_iff_not, Bool.not_eq_true', Bool.not_eq_false', Bool.and_eq_true, Bool.or_eq_true, Bool.and_eq_false_iff, Bool.or_eq_false_iff] at c74
                    refine W.seq ?_
                    refine W.region ?_
                    refine WL.c rfl (o_ash (show _ = Value.bool _ from rfl) ?_)
                    refine WL.nil ?_
                    refine W.ret ?_
                    refine ret1v rfl (show _ = Value.bool _ from rfl) ?_
                    have h9 : okB x = false := by
                      unfold okB
                      repeat' split
                      all_goals first | rfl | omega
                    exact ⟨congrArg Value.bool (by rw [rightB, h9]; rfl), hx2⟩
                · try simp only [decide_eq_true_eq, decide_eq_false_iff_not, Bool.not_eq_true', Bool.not_eq_false', Bool.and_eq_true, Bool.or_eq_true, Bool.and_eq_false_iff, Bool.or_eq_false_iff] at c74
                  refine W.region ?_
                  refine WL.c rfl (o_eq rfl rfl ?_)
                  refine WL.c rfl (o_ash (show _ = Value.bool _ from rfl) ?_)
                  refine WL.nil ?_
                  refine W.cond rfl (fun c74 => ?_) (fun c74 => ?_)
                  · try simp only [decide_eq_true_eq, decide_eq_false_iff_not, Bool.not_eq_true', Bool.not_eq_false', Bool.and_eq_true, Bool.or_eq_true, Bool.and_eq_false_iff, Bool.or_eq_false_iff] at c74
                    refine W.region ?_
                    refine WL.c rfl (o_fa 1 TI26 rfl TI3 rfl rfl ?_)
                    refine WL.c rfl (o_ld TI3 rfl rfl (cell_of hC2 rfl) ?_)
                    refine WL.c rfl (o_eq rfl rfl ?_)
                    refine WL.c rfl (o_mvh (show _ = Value.bool _ from rfl) ?_)
                    refine WL.sp 3 rfl (fun g80 => ?_) (fun g80 => ?_)
                    · skip
                      refine WL.g rfl (g80) rfl (o_fa 5 TI26 rfl TI3 rfl rfl ?_)
                      refine WL.g rfl (g80) rfl (o_ld TI3 rfl rfl (cell_of hC2 rfl) ?_)
                      refine WL.g rfl (g80) rfl (o_ge rfl rfl ?_)
                      refine WL.c rfl (o_pickA rfl rfl ?_)
                      refine WL.c rfl (o_ash (show _ = Value.bool _ from rfl) ?_)
                      refine WL.nil ?_
                      exact ⟨rfl, rfl, congrArg Value.bool (by rw [Bool.eq_iff_iff]; simp_all [okB] <;> omega), rfl⟩
                    · skip
                      refine WL.s rfl (g80) rfl ?_
                      refine WL.s rfl (g80) rfl ?_
                      refine WL.s rfl (g80) rfl ?_
                      refine WL.c rfl (o_pickF rfl (g80) ?_)
                      refine WL.c rfl (o_ash (show _ = Value.bool _ from rfl) ?_)
                      refine WL.nil ?_
                      exact ⟨rfl, rfl, congrArg Value.bool (by rw [Bool.eq_iff_iff]; simp_all [okB] <;> omega), rfl⟩
                  · try simp only [decide_eq_true_eq, decide_eq_false_iff_not, Bool.not_eq_true', Bool.not_eq_false', Bool.and_eq_true, Bool.or_eq_true, Bool.and_eq_false_iff, Bool.or_eq_false_iff] at c74
                    refine W.seq ?_
                    refine W.region ?_
                    refine WL.c rfl (o_ash (show _ = Value.bool _ from rfl) ?_)
                    refine WL.nil ?_
                    refine W.ret ?_
                    refine ret1v rfl (show _ = Value.bool _ from rfl) ?_
                    have h9 : okB x = false := by
                      unfold okB
                      repeat' split
                      all_goals first | rfl | omega
                    exact ⟨congrArg Value.bool (by rw [rightB, h9]; rfl), hx2⟩
          · try simp only [decide_eq_true_eq, decide_eq_false_iff_not, Bool.not_eq_true', Bool.not_eq_false', Bool.and_eq_true, Bool.or_eq_true, Bool.and_eq_false_iff, Bool.or_eq_false_iff] at c48
            refine W.region ?_
            refine WL.c rfl (o_eq rfl rfl ?_)
            refine WL.c rfl (o_ash (show _ = Value.bool _ from rfl) ?_)
            refine WL.nil ?_
            refine W.cond rfl (fun c48 => ?_) (fun c48 => ?_)
            · try simp only [decide_eq_true_eq, decide_eq_false_iff_not, Bool.not_eq_true', Bool.not_eq_false', Bool.and_eq_true, Bool.or_eq_true, Bool.and_eq_false_iff, Bool.or_eq_false_iff] at c48
              refine W.region ?_
              refine WL.c rfl (o_fa 1 TI26 rfl TI3 rfl rfl ?_)
              refine WL.c rfl (o_ld TI3 rfl rfl (cell_of hC2 rfl) ?_)
              refine WL.c rfl (o_ge rfl rfl ?_)
              refine WL.c rfl (o_mvh (show _ = Value.bool _ from rfl) ?_)
              refine WL.sp 3 rfl (fun g54 => ?_) (fun g54 => ?_)
              · skip
                refine WL.g rfl (g54) rfl (o_fa 1 TI26 rfl TI3 rfl rfl ?_)
                refine WL.g rfl (g54) rfl (o_ld TI3 rfl rfl (cell_of hC2 rfl) ?_)
                refine WL.g rfl (g54) rfl (o_le rfl rfl ?_)
                refine WL.c rfl (o_pickA rfl rfl ?_)
                refine WL.c rfl (o_mvh (show _ = Value.bool _ from rfl) ?_)
                refine WL.sp 8 rfl (fun g59 => ?_) (fun g59 => ?_)
                · skip
                  refine WL.g rfl (g59) rfl (o_fa 5 TI26 rfl TI3 rfl rfl ?_)
                  refine WL.g rfl (g59) rfl (o_ld TI3 rfl rfl (cell_of hC2 rfl) ?_)
                  refine WL.g rfl (g59) rfl (o_eq rfl rfl ?_)
                  refine WL.c rfl (o_pickA rfl rfl ?_)
                  refine WL.c rfl (o_ash (show _ = Value.bool _ from rfl) ?_)
                  refine WL.nil ?_
                  exact ⟨rfl, rfl, congrArg Value.bool (by rw [Bool.eq_iff_iff]; simp_all [okB] <;> omega), rfl⟩
                · skip
                  refine WL.s rfl (g59) rfl ?_
                  refine WL.s rfl (g59) rfl ?_
                  refine WL.s rfl (g59) rfl ?_
                  refine WL.c rfl (o_pickF rfl (g59) ?_)
                  refine WL.c rfl (o_ash (show _ = Value.bool _ from rfl) ?_)
                  refine WL.nil ?_
                  exact ⟨rfl, rfl, congrArg Value.bool (by rw [Bool.eq_iff_iff]; simp_all [okB] <;> omega), rfl⟩
              · skip
                refine WL.s rfl (g54) rfl ?_
                refine WL.s rfl (g54) rfl ?_
                refine WL.s rfl (g54) rfl ?_
                refine WL.c rfl (o_pickF rfl (g54) ?_)
                refine WL.c rfl (o_mvh (show _ = Value.bool _ from rfl) ?_)
                refine WL.s rfl (rfl) rfl ?_
                refine WL.s rfl (rfl) rfl ?_
                refine WL.s rfl (rfl) rfl ?_
                refine WL.c rfl (o_pickF rfl (rfl) ?_)
                refine WL.c rfl (o_ash (show _ = Value.bool _ from rfl) ?_)
                refine WL.nil ?_
                exact ⟨rfl, rfl, congrArg Value.bool (by rw [Bool.eq_iff_iff]; simp_all [okB] <;> omega), rfl⟩
            · try simp only [decide_eq_true_eq, decide_eq_false_iff_not, Bool.not_eq_true', Bool.not_eq_false', Bool.and_eq_true, Bool.or_eq_true, Bool.and_eq_false_iff, Bool.or_eq_false_iff] at c48
              refine W.seq ?_
              refine W.region ?_
              refine WL.c rfl (o_eq rfl rfl ?_)
              refine WL.c rfl (o_ash (show _ = Value.bool _ from rfl) ?_)
              refine WL.nil ?_
              refine W.cond rfl (fun c64 => ?_) (fun c64 => ?_)
              · try simp only [decide_eq_true_eq, decide_eq_false_iff_not, Bool.not_eq_true', Bool.not_eq_false', Bool.and_eq_true, Bool.or_eq_true, Bool.and_eq_false_iff, Bool.or_eq_false_iff] at c64
                refine W.region ?_
                refine WL.c rfl (o_fa 1 TI26 rfl TI3 rfl rfl ?_)
                refine WL.c rfl (o_ld TI3 rfl rfl (cell_of hC2 rfl) ?_)
                refine WL.c rfl (o_eq rfl rfl ?_)
                refine WL.c rfl (o_mvh (show _ = Value.bool _ from rfl) ?_)
                refine WL.sp 3 rfl (fun g69 => ?_) (fun g69 => ?_)
                · skip
                  refine WL.g rfl (g69) rfl (o_fa 5 TI26 rfl TI3 rfl rfl ?_)
                  refine WL.g rfl (g69) rfl (o_ld TI3 rfl rfl (cell_of hC2 rfl) ?_)
                  refine WL.g rfl (g69) rfl (o_eq rfl rfl ?_)
                  refine WL.c rfl (o_pickA rfl rfl ?_)
                  refine WL.c rfl (o_ash (show _ = Value.bool _ from rfl) ?_)
                  refine WL.nil ?_
                  exact ⟨rfl, rfl, congrArg Value.bool (by rw [Bool.eq_iff_iff]; simp_all [okB] <;> omega), rfl⟩
                · skip
                  refine WL.s rfl (g69) rfl ?_
                  refine WL.s rfl (g69) rfl ?_
                  refine WL.s rfl (g69) rfl ?_
                  refine WL.c rfl (o_pickF rfl (g69) ?_)
                  refine WL.c rfl (o_ash (show _ = Value.bool _ from rfl) ?_)
                  refine WL.nil ?_
                  exact ⟨rfl, rfl, congrArg Value.bool (by rw [Bool.eq_iff_iff]; simp_all [okB] <;> omega), rfl⟩
              · try simp only [decide_eq_true_eq, decide_eq_false_iff_not, Bool.not_eq_true', Bool.not_eq_false', Bool.and_eq_true, Bool.or_eq_true, Bool.and_eq_false_iff, Bool.or_eq_false_iff] at c64
                refine W.seq ?_
                refine W.seq ?_
                refine W.region ?_
                refine WL.c rfl (o_eq rfl rfl ?_)
                refine WL.c rfl (o_ash (show _ = Value.bool _ from rfl) ?_)
                refine WL.nil ?_
                refine W.cond rfl (fun c74 => ?_) (fun c74 => ?_)
                · try simp only [decide_eq_true_eq, decide_eq_false_iff_not, Bool.not_eq_true', Bool.not_eq_false', Bool.and_eq_true, Bool.or_eq_true, Bool.and_eq_false_iff, Bool.or_eq_false_iff] at c74
                  refine W.skip ?_
                  refine W.cond rfl (fun c74 => ?_) (fun c74 => ?_)
                  · try simp only [decide_eq_true_eq, decide_eq_false_iff_not, Bool.not_eq_true', Bool.not_eq_false', Bool.and_eq_true, Bool.or_eq_true, Bool.and_eq_false_iff, Bool.or_eq_false_iff] at c74
                    refine W.region ?_
                    refine WL.c rfl (o_fa 1 TI26 rfl TI3 rfl rfl ?_)
                    refine WL.c rfl (o_ld TI3 rfl rfl (cell_of hC2 rfl) ?_)
                    refine WL.c rfl (o_eq rfl rfl ?_)
                    refine WL.c rfl (o_mvh (show _ = Value.bool _ from rfl) ?_)
                    refine WL.sp 3 rfl (fun g80 => ?_) (fun g80 => ?_)
                    · skip
                      refine WL.g rfl (g80) rfl (o_fa 5 TI26 rfl TI3 rfl rfl ?_)
                      refine WL.g rfl (g80) rfl (o_ld TI3 rfl rfl (cell_of hC2 rfl) ?_)
                      refine WL.g rfl (g80) rfl (o_ge rfl rfl ?_)
                      refine WL.c rfl (o_pickA rfl rfl ?_)
                      refine WL.c rfl (o_ash (show _ = Value.bool _ from rfl) ?_)
                      refine WL.nil ?_
                      exact ⟨rfl, rfl, congrArg Value.bool (by rw [Bool.eq_iff_iff]; simp_all [okB] <;> omega), rfl⟩
                    · skip
                      refine WL.s rfl (g80) rfl ?_
                      refine WL.s rfl (g80) rfl ?_
                      refine WL.s rfl (g80) rfl ?_
                      refine WL.c rfl (o_pickF rfl (g80) ?_)
                      refine WL.c rfl (o_ash (show _ = Value.bool _ from rfl) ?_)
                      refine WL.nil ?_
                      exact ⟨rfl, rfl, congrArg Value.bool (by rw [Bool.eq_iff_iff]; simp_all [okB] <;> omega), rfl⟩
                  · try simp only [decide_eq_true_eq, decide_eq_false_iff_not, Bool.not_eq_true', Bool.not_eq_false', Bool.and_eq_true, Bool.or_eq_true, Bool.and_eq_false_iff, Bool.or_eq_false_iff] at c74
                    refine W.seq ?_
                    refine W.region ?_
                    refine WL.c rfl (o_ash (show _ = Value.bool _ from rfl) ?_)
                    refine WL.nil ?_
                    refine W.ret ?_
                    refine ret1v rfl (show _ = Value.bool _ from rfl) ?_
                    have h9 : okB x = false := by
                      unfold okB
                      repeat' split
                      all_goals first | rfl | omega
                    exact ⟨congrArg Value.bool (by rw [rightB, h9]; rfl), hx2⟩
                · try simp only [decide_eq_true_eq, decide_eq_false_iff_not, Bool.not_eq_true', Bool.not_eq_false', Bool.and_eq_true, Bool.or_eq_true, Bool.and_eq_false_iff, Bool.or_eq_false_iff] at c74
                  refine W.region ?_
                  refine WL.c rfl (o_eq rfl rfl ?_)
                  refine WL.c rfl (o_ash (show _ = Value.bool _ from rfl) ?_)
                  refine WL.nil ?_
                  refine W.cond rfl (fun c74 => ?_) (fun c74 => ?_)
                  · try simp only [decide_eq_true_eq, decide_eq_false_iff_not, Bool.not_eq_true', Bool.not_eq_false', Bool.and_eq_true, Bool.or_eq_true, Bool.and_eq_false_iff, Bool.or_eq_false_iff] at c74
                    refine W.region ?_
                    refine WL.c rfl (o_fa 1 TI26 rfl TI3 rfl rfl ?_)
                    refine WL.c rfl (o_ld TI3 rfl rfl (cell_of hC2 rfl) ?_)
                    refine WL.c rfl (o_eq rfl rfl ?_)
                    refine WL.c rfl (o_mvh (show _ = Value.bool _ from rfl) ?_)
                    refine WL.sp 3 rfl (fun g80 => ?_) (fun g80 => ?_)
                    · skip
                      refine WL.g rfl (g80) rfl (o_fa 5 TI26 rfl TI3 rfl rfl ?_)
                      refine WL.g rfl (g80) rfl (o_ld TI3 rfl rfl (cell_of hC2 rfl) ?_)
                      refine WL.g rfl (g80) rfl (o_ge rfl rfl ?_)
                      refine WL.c rfl (o_pickA rfl rfl ?_)
                      refine WL.c rfl (o_ash (show _ = Value.bool _ from rfl) ?_)
                      refine WL.nil ?_
                      exact ⟨rfl, rfl, congrArg Value.bool (by rw [Bool.eq_iff_iff]; simp_all [okB] <;> omega), rfl⟩
                    · skip
                      refine WL.s rfl (g80) rfl ?_
                      refine WL.s rfl (g80) rfl ?_
                      refine WL.s rfl (g80) rfl ?_
                      refine WL.c rfl (o_pickF rfl (g80) ?_)
                      refine WL.c rfl (o_ash (show _ = Value.bool _ from rfl) ?_)
                      refine WL.nil ?_
                      exact ⟨rfl, rfl, congrArg Value.bool (by rw [Bool.eq_iff_iff]; simp_all [okB] <;> omega), rfl⟩
                  · try simp only [decide_eq_true_eq, decide_eq_false_iff_not, Bool.not_eq_true', Bool.not_eq_false', Bool.and_eq_true, Bool.or_eq_true, Bool.and_eq_false_iff, Bool.or_eq_false_iff] at c74
                    refine W.seq ?_
                    refine W.region ?_
                    refine WL.c rfl (o_ash (show _ = Value.bool _ from rfl) ?_)
                    refine WL.nil ?_
                    refine W.ret ?_
                    refine ret1v rfl (show _ = Value.bool _ from rfl) ?_
                    have h9 : okB x = false := by
                      unfold okB
                      repeat' split
                      all_goals first | rfl | omega
                    exact ⟨congrArg Value.bool (by rw [rightB, h9]; rfl), hx2⟩
      · try simp only [decide_eq_true_eq, decide_eq_false_iff_not, Bool.not_eq_true', Bool.not_eq_false', Bool.and_eq_true, Bool.or_eq_true, Bool.and_eq_false_iff, Bool.or_eq_false_iff] at c36
        refine W.seq ?_
        refine W.region ?_
        refine WL.c rfl (o_eq rfl rfl ?_)
        refine WL.c rfl (o_ash (show _ = Value.bool _ from rfl) ?_)
        refine WL.nil ?_
        refine W.cond rfl (fun c36 => ?_) (fun c36 => ?_)
        · try simp only [decide_eq_true_eq, decide_eq_false_iff_not, Bool.not_eq_true', Bool.not_eq_false', Bool.and_eq_true, Bool.or_eq_true, Bool.and_eq_false_iff, Bool.or_eq_false_iff] at c36
          refine W.skip ?_
          refine W.cond rfl (fun c36 => ?_) (fun c36 => ?_)
          · try simp only [decide_eq_true_eq, decide_eq_false_iff_not, Bool.not_eq_true', Bool.not_eq_false', Bool.and_eq_true, Bool.or_eq_true, Bool.and_eq_false_iff, Bool.or_eq_false_iff] at c36
            refine W.region ?_
            refine WL.c rfl (o_fa 1 TI26 rfl TI3 rfl rfl ?_)
            refine WL.c rfl (o_ld TI3 rfl rfl (cell_of hC2 rfl) ?_)
            refine WL.c rfl (o_eq rfl rfl ?_)
            refine WL.c rfl (o_mvh (show _ = Value.bool _ from rfl) ?_)
            refine WL.sp 3 rfl (fun g43 => ?_) (fun g43 => ?_)
            · skip
              refine WL.g rfl (g43) rfl (o_fa 5 TI26 rfl TI3 rfl rfl ?_)
              refine WL.g rfl (g43) rfl (o_ld TI3 rfl rfl (cell_of hC2 rfl) ?_)
              refine WL.g rfl (g43) rfl (o_eq rfl rfl ?_)
              refine WL.c rfl (o_pickA rfl rfl ?_)
              refine WL.c rfl (o_ash (show _ = Value.bool _ from rfl) ?_)
              refine WL.nil ?_
              exact ⟨rfl, rfl, congrArg Value.bool (by rw [Bool.eq_iff_iff]; simp_all [okB] <;> omega), rfl⟩
            · skip
              refine WL.s rfl (g43) rfl ?_
              refine WL.s rfl (g43) rfl ?_
              refine WL.s rfl (g43) rfl ?_
              refine WL.c rfl (o_pickF rfl (g43) ?_)
              refine WL.c rfl (o_ash (show _ = Value.bool _ from rfl) ?_)
              refine WL.nil ?_
              exact ⟨rfl, rfl, congrArg Value.bool (by rw [Bool.eq_iff_iff]; simp_all [okB] <;> omega), rfl⟩
          · try simp only [decide_eq_true_eq, decide_eq_false_iff_not, Bool.not_eq_true', Bool.not_eq_false', Bool.and_eq_true, Bool.or_eq_true, Bool.and_eq_false_iff, Bool.or_eq_false_iff] at c36
            refine W.seq ?_
            refine W.seq ?_
            refine W.region ?_
            refine WL.c rfl (o_eq rfl rfl ?_)
            refine WL.c rfl (o_ash (show _ = Value.bool _ from rfl) ?_)
            refine WL.nil ?_
            refine W.cond rfl (fun c48 => ?_) (fun c48 => ?_)
            · try simp only [decide_eq_true_eq, decide_eq_false_iff_not, Bool.not_eq_true', Bool.not_eq_false', Bool.and_eq_true, Bool.or_eq_true, Bool.and_eq_false_iff, Bool.or_eq_false_iff] at c48
              refine W.skip ?_
              refine W.cond rfl (fun c48 => ?_) (fun c48 => ?_)
              · try simp only [decide_eq_true_eq, decide_eq_false_iff_not, Bool.not_eq_true', Bool.not_eq_false', Bool.and_eq_true, Bool.or_eq_true, Bool.and_eq_false_iff, Bool.or_eq_false_iff] at c48
                refine W.region ?_
                refine WL.c rfl (o_fa 1 TI26 rfl TI3 rfl rfl ?_)
                refine WL.c rfl (o_ld TI3 rfl rfl (cell_of hC2 rfl) ?_)
                refine WL.c rfl (o_ge rfl rfl ?_)
                refine WL.c rfl (o_mvh (show _ = Value.bool _ from rfl) ?_)
                refine WL.sp 3 rfl (fun g54 => ?_) (fun g54 => ?_)
                · skip
                  refine WL.g rfl (g54) rfl (o_fa 1 TI26 rfl TI3 rfl rfl ?_)
                  refine WL.g rfl (g54) rfl (o_ld TI3 rfl rfl (cell_of hC2 rfl) ?_)
                  refine WL.g rfl (g54) rfl (o_le rfl rfl ?_)
                  refine WL.c rfl (o_pickA rfl rfl ?_)
                  refine WL.c rfl (o_mvh (show _ = Value.bool _ from rfl) ?_)
                  refine WL.sp 8 rfl (fun g59 => ?_) (fun g59 => ?_)
                  · skip
                    refine WL.g rfl (g59) rfl (o_fa 5 TI26 rfl TI3 rfl rfl ?_)
                    refine WL.g rfl (g59) rfl (o_ld TI3 rfl rfl (cell_of hC2 rfl) ?_)
                    refine WL.g rfl (g59) rfl (o_eq rfl rfl ?_)
                    refine WL.c rfl (o_pickA rfl rfl ?_)
                    refine WL.c rfl (o_ash (show _ = Value.bool _ from rfl) ?_)
                    refine WL.nil ?_
                    exact ⟨rfl, rfl, congrArg Value.bool (by rw [Bool.eq_iff_iff]; simp_all [okB] <;> omega), rfl⟩
                  · skip
                    refine WL.s rfl (g59) rfl ?_
                    refine WL.s rfl (g59) rfl ?_
                    refine WL.s rfl (g59) rfl ?_
                    refine WL.c rfl (o_pickF rfl (g59) ?_)
                    refine WL.c rfl (o_ash (show _ = Value.bool _ from rfl) ?_)
                    refine WL.nil ?_
                    exact ⟨rfl, rfl, congrArg Value.bool (by rw [Bool.eq_iff_iff]; simp_all [okB] <;> omega), rfl⟩
                · skip
                  refine WL.s rfl (g54) rfl ?_
                  refine WL.s rfl (g54) rfl ?_
                  refine WL.s rfl (g54) rfl ?_
                  refine WL.c rfl (o_pickF rfl (g54) ?_)
                  refine WL.c rfl (o_mvh (show _ = Value.bool _ from rfl) ?_)
                  refine WL.s rfl (rfl) rfl ?_
                  refine WL.s rfl (rfl) rfl ?_
                  refine WL.s rfl (rfl) rfl ?_
                  refine WL.c rfl (o_pickF rfl (rfl) ?_)
                  refine WL.c rfl (o_ash (show _ = Value.bool _ from rfl) ?_)
                  refine WL.nil ?_
                  exact ⟨rfl, rfl, congrArg Value.bool (by rw [Bool.eq_iff_iff]; simp_all [okB] <;> omega), rfl⟩
              · try simp only [decide_eq_true_eq, decide_eq_false_iff_not, Bool.not_eq_true', Bool.not_eq_false', Bool.and_eq_true, Bool.or_eq_true, Bool.and_eq_false_iff, Bool.or_eq_false_iff] at c48
                refine W.seq ?_
                refine W.region ?_
                refine WL.c rfl (o_eq rfl rfl ?_)
                refine WL.c rfl (o_ash (show _ = Value.bool _ from rfl) ?_)
                refine WL.nil ?_
                refine W.cond rfl (fun c64 => ?_) (fun c64 => ?_)
                · try simp only [decide_eq_true_eq, decide_eq_false_iff_not, Bool.not_eq_true', Bool.not_eq_false', Bool.and_eq_true, Bool.or_eq_true, Bool.and_eq_false_iff, Bool.or_eq_false_iff] at c64
                  refine W.region ?_
                  refine WL.c rfl (o_fa 1 TI26 rfl TI3 rfl rfl ?_)
                  refine WL.c rfl (o_ld TI3 rfl rfl (cell_of hC2 rfl) ?_)
                  refine WL.c rfl (o_eq rfl rfl ?_)
                  refine WL.c rfl (o_mvh (show _ = Value.bool _ from rfl) ?_)
                  refine WL.sp 3 rfl (fun g69 => ?_) (fun g69 => ?_)
                  · skip
                    refine WL.g rfl (g69) rfl (o_fa 5 TI26 rfl TI3 rfl rfl ?_)
                    refine WL.g rfl (g69) rfl (o_ld TI3 rfl rfl (cell_of hC2 rfl) ?_)
                    refine WL.g rfl (g69) rfl (o_eq rfl rfl ?_)
                    refine WL.c rfl (o_pickA rfl rfl ?_)
                    refine WL.c rfl (o_ash (show _ = Value.bool _ from rfl) ?_)
                    refine WL.nil ?_
                    exact ⟨rfl, rfl, congrArg Value.bool (by rw [Bool.eq_iff_iff]; simp_all [okB] <;> omega), rfl⟩
                  · skip
                    refine WL.s rfl (g69) rfl ?_
                    refine WL.s rfl (g69) rfl ?_
                    refine WL.s rfl (g69) rfl ?_
                    refine WL.c rfl (o_pickF rfl (g69) ?_)
                    refine WL.c rfl (o_ash (show _ = Value.bool _ from rfl) ?_)
                    refine WL.nil ?_
                    exact ⟨rfl, rfl, congrArg Value.bool (by rw [Bool.eq_iff_iff]; simp_all [okB] <;> omega), rfl⟩
                · try simp only [decide_eq_true_eq, decide_eq_false_iff_not, Bool.not_eq_true', Bool.not_eq_false', Bool.and_eq_true, Bool.or_eq_true, Bool.and_eq_false_iff, Bool.or_eq_false_iff] at c64
                  refine W.seq ?_
                  refine W.seq ?_
                  refine W.region ?_
                  refine WL.c rfl (o_eq rfl rfl ?_)
                  refine WL.c rfl (o_ash (show _ = Value.bool _ from rfl) ?_)
                  refine WL.nil ?_
                  refine W.cond rfl (fun c74 => ?_) (fun c74 => ?_)
                  · try simp only [decide_eq_true_eq, decide_eq_false_iff_not, Bool.not_eq_true', Bool.not_eq_false', Bool.and_eq_true, Bool.or_eq_true, Bool.and_eq_false_iff, Bool.or_eq_false_iff] at c74
                    refine W.skip ?_
                    refine W.cond rfl (fun c74 => ?_) (fun c74 => ?_)
                    · try simp only [decide_eq_true_eq, decide_eq_false_iff_not, Bool.not_eq_true', Bool.not_eq_false', Bool.and_eq_true, Bool.or_eq_true, Bool.and_eq_false_iff, Bool.or_eq_false_iff] at c74
                      refine W.region ?_
                      refine WL.c rfl (o_fa 1 TI26 rfl TI3 rfl rfl ?_)
                      refine WL.c rfl (o_ld TI3 rfl rfl (cell_of hC2 rfl) ?_)
                      refine WL.c rfl (o_eq rfl rfl ?_)
                      refine WL.c rfl (o_mvh (show _ = Value.bool _ from rfl) ?_)
                      refine WL.sp 3 rfl (fun g80 => ?_) (fun g80 => ?_)
                      · skip
                        refine WL.g rfl (g80) rfl (o_fa 5 TI26 rfl TI3 rfl rfl ?_)
                        refine WL.g rfl (g80) rfl (o_ld TI3 rfl rfl (cell_of hC2 rfl) ?_)
                        refine WL.g rfl (g80) rfl (o_ge rfl rfl ?_)
                        refine WL.c rfl (o_pickA rfl rfl ?_)
                        refine WL.c rfl (o_ash (show _ = Value.bool _ from rfl) ?_)
                        refine WL.nil ?_
                        exact ⟨rfl, rfl, congrArg Value.bool (by rw [Bool.eq_iff_iff]; simp_all [okB] <;> omega), rfl⟩
                      · skip
                        refine WL.s rfl (g80) rfl ?_
                        refine WL.s rfl (g80) rfl ?_
                        refine WL.s rfl (g80) rfl ?_
                        refine WL.c rfl (o_pickF rfl (g80) ?_)
                        refine WL.c rfl (o_ash (show _ = Value.bool _ from rfl) ?_)
                        refine WL.nil ?_
                        exact ⟨rfl, rfl, congrArg Value.bool (by rw [Bool.eq_iff_iff]; simp_all [okB] <;> omega), rfl⟩
                    · try simp only [decide_eq_true_eq, decide_eq_false_iff_not, Bool.not_eq_true', Bool.not_eq_false', Bool.and_eq_true, Bool.or_eq_true, Bool.and_eq_false_iff, Bool.or_eq_false_iff] at c74
                      refine W.seq ?_
                      refine W.region ?_
                      refine WL.c rfl (o_ash (show _ = Value.bool _ from rfl) ?_)
                      refine WL.nil ?_
                      refine W.ret ?_
                      refine ret1v rfl (show _ = Value.bool _ from rfl) ?_
                      have h9 : okB x = false := by
                        unfold okB
                        repeat' split
                        all_goals first | rfl | omega
                      exact ⟨congrArg Value.bool (by rw [rightB, h9]; rfl), hx2⟩
                  · try simp only [decide_eq_true_eq, decide_eq_false_iff_not, Bool.not_eq_true', Bool.not_eq_false', Bool.and_eq_true, Bool.or_eq_true, Bool.and_eq_false_iff, Bool.or_eq_false_iff] at c74
                    refine W.region ?_
                    refine WL.c rfl (o_eq rfl rfl ?_)
                    refine WL.c rfl (o_ash (show _ = Value.bool _ from rfl) ?_)
                    refine WL.nil ?_
                    refine W.cond rfl (fun c74 => ?_) (fun c74 => ?_)
                    · try simp only [decide_eq_true_eq, decide_eq_false_iff_not, Bool.not_eq_true', Bool.not_eq_false', Bool.and_eq_true, Bool.or_eq_true, Bool.and_eq_false_iff, Bool.or_eq_false_iff] at c74
                      refine W.region ?_
                      refine WL.c rfl (o_fa 1 TI26 rfl TI3 rfl rfl ?_)
                      refine WL.c rfl (o_ld TI3 rfl rfl (cell_of hC2 rfl) ?_)
                      refine WL.c rfl (o_eq rfl rfl ?_)
                      refine WL.c rfl (o_mvh (show _ = Value.bool _ from rfl) ?_)
                      refine WL.sp 3 rfl (fun g80 => ?_) (fun g80 => ?_)
                      · skip
                        refine WL.g rfl (g80) rfl (o_fa 5 TI26 rfl TI3 rfl rfl ?_)
                        refine WL.g rfl (g80) rfl (o_ld TI3 rfl rfl (cell_of hC2 rfl) ?_)
                        refine WL.g rfl (g80) rfl (o_ge rfl rfl ?_)
                        refine WL.c rfl (o_pickA rfl rfl ?_)
                        refine WL.c rfl (o_ash (show _ = Value.bool _ from rfl) ?_)
                        refine WL.nil ?_
                        exact ⟨rfl, rfl, congrArg Value.bool (by rw [Bool.eq_iff_iff]; simp_all [okB] <;> omega), rfl⟩
                      · skip
                        refine WL.s rfl (g80) rfl ?_
                        refine WL.s rfl (g80) rfl ?_
                        refine WL.s rfl (g80) rfl ?_
                        refine WL.c rfl (o_pickF rfl (g80) ?_)
                        refine WL.c rfl (o_ash (show _ = Value.bool _ from rfl) ?_)
                        refine WL.nil ?_
                        exact ⟨rfl, rfl, congrArg Value.bool (by rw [Bool.eq_iff_iff]; simp_all [okB] <;> omega), rfl⟩
                    · try simp only [decide_eq_true_eq, decide_eq_false_iff_not, Bool.not_eq_true', Bool.not_eq_false', Bool.and_eq_true, Bool.or_eq_true, Bool.and_eq_false_iff, Bool.or_eq_false_iff] at c74
                      refine W.seq ?_
                      refine W.region ?_
                      refine WL.c rfl (o_ash (show _ = Value.bool _ from rfl) ?_)
                      refine WL.nil ?_
                      refine W.ret ?_
                      refine ret1v rfl (show _ = Value.bool _ from rfl) ?_
                      have h9 : okB x = false := by
                        unfold okB
                        repeat' split
                        all_goals first | rfl | omega
                      exact ⟨congrArg Value.bool (by rw [rightB, h9]; rfl), hx2⟩
            · try simp only [decide_eq_true_eq, decide_eq_false_iff_not, Bool.not_eq_true', Bool.not_eq_false', Bool.and_eq_true, Bool.or_eq_true, Bool.and_eq_false_iff, Bool.or_eq_false_iff] at c48
              refine W.region ?_
              refine WL.c rfl (o_eq rfl rfl ?_)
              refine WL.c rfl (o_ash (show _ = Value.bool _ from rfl) ?_)
              refine WL.nil ?_
              refine W.cond rfl (fun c48 => ?_) (fun c48 => ?_)
              · try simp only [decide_eq_true_eq, decide_eq_false_iff_not, Bool.not_eq_true', Bool.not_eq_false', Bool.and_eq_true, Bool.or_eq_true, Bool.and_eq_false_iff, Bool.or_eq_false_iff] at c48
                refine W.region ?_
                refine WL.c rfl (o_fa 1 TI26 rfl TI3 rfl rfl ?_)
                refine WL.c rfl (o_ld TI3 rfl rfl (cell_of hC2 rfl) ?_)
                refine WL.c rfl (o_ge rfl rfl ?_)
                refine WL.c rfl (o_mvh (show _ = Value.bool _ from rfl) ?_)
                refine WL.sp 3 rfl (fun g54 => ?_) (fun g54 => ?_)
                · skip
                  refine WL.g rfl (g54) rfl (o_fa 1 TI26 rfl TI3 rfl rfl ?_)
                  refine WL.g rfl (g54) rfl (o_ld TI3 rfl rfl (cell_of hC2 rfl) ?_)
                  refine WL.g rfl (g54) rfl (o_le rfl rfl ?_)
                  refine WL.c rfl (o_pickA rfl rfl ?_)
                  refine WL.c rfl (o_mvh (show _ = Value.bool _ from rfl) ?_)
                  refine WL.sp 8 rfl (fun g59 => ?_) (fun g59 => ?_)
                  · skip
                    refine WL.g rfl (g59) rfl (o_fa 5 TI26 rfl TI3 rfl rfl ?_)
                    refine WL.g rfl (g59) rfl (o_ld TI3 rfl rfl (cell_of hC2 rfl) ?_)
                    refine WL.g rfl (g59) rfl (o_eq rfl rfl ?_)
                    refine WL.c rfl (o_pickA rfl rfl ?_)
                    refine WL.c rfl (o_ash (show _ = Value.bool _ from rfl) ?_)
                    refine WL.nil ?_
                    exact ⟨rfl, rfl, congrArg Value.bool (by rw [Bool.eq_iff_iff]; simp_all [okB] <;> omega), rfl⟩
                  · skip
                    refine WL.s rfl (g59) rfl ?_
                    refine WL.s rfl (g59) rfl ?_
                    refine WL.s rfl (g59) rfl ?_
                    refine WL.c rfl (o_pickF rfl (g59) ?_)
                    refine WL.c rfl (o_ash (show _ = Value.bool _ from rfl) ?_)
                    refine WL.nil ?_
                    exact ⟨rfl, rfl, congrArg Value.bool (by rw [Bool.eq_iff_iff]; simp_all [okB] <;> omega), rfl⟩
                · skip
                  refine WL.s rfl (g54) rfl ?_
                  refine WL.s rfl (g54) rfl ?_
                  refine WL.s rfl (g54) rfl ?_
                  refine WL.c rfl (o_pickF rfl (g54) ?_)
                  refine WL.c rfl (o_mvh (show _ = Value.bool _ from rfl) ?_)
                  refine WL.s rfl (rfl) rfl ?_
                  refine WL.s rfl (rfl) rfl ?_
                  refine WL.s rfl (rfl) rfl ?_
                  refine WL.c rfl (o_pickF rfl (rfl) ?_)
                  refine WL.c rfl (o_ash (show _ = Value.bool _ from rfl) ?_)
                  refine WL.nil ?_
                  exact ⟨rfl, rfl, congrArg Value.bool (by rw [Bool.eq_iff_iff]; simp_all [okB] <;> omega), rfl⟩
              · try simp only [decide_eq_true_eq, decide_eq_false_iff_not, Bool.not_eq_true', Bool.not_eq_false', Bool.and_eq_true, Bool.or_eq_true, Bool.and_eq_false_iff, Bool.or_eq_false_iff] at c48
                refine W.seq ?_
                refine W.region ?_
                refine WL.c rfl (o_eq rfl rfl ?_)
                refine WL.c rfl (o_ash (show _ = Value.bool _ from rfl) ?_)
                refine WL.nil ?_
                refine W.cond rfl (fun c64 => ?_) (fun c64 => ?_)
                · try simp only [decide_eq_true_eq, decide_eq_false_iff_not, Bool.not_eq_true', Bool.not_eq_false', Bool.and_eq_true, Bool.or_eq_true, Bool.and_eq_false_iff, Bool.or_eq_false_iff] at c64
                  refine W.region ?_
                  refine WL.c rfl (o_fa 1 TI26 rfl TI3 rfl rfl ?_)
                  refine WL.c rfl (o_ld TI3 rfl rfl (cell_of hC2 rfl) ?_)
                  refine WL.c rfl (o_eq rfl rfl ?_)
                  refine WL.c rfl (o_mvh (show _ = Value.bool _ from rfl) ?_)
                  refine WL.sp 3 rfl (fun g69 => ?_) (fun g69 => ?_)
                  · skip
                    refine WL.g rfl (g69) rfl (o_fa 5 TI26 rfl TI3 rfl rfl ?_)
                    refine WL.g rfl (g69) rfl (o_ld TI3 rfl rfl (cell_of hC2 rfl) ?_)
                    refine WL.g rfl (g69) rfl (o_eq rfl rfl ?_)
                    refine WL.c rfl (o_pickA rfl rfl ?_)
                    refine WL.c rfl (o_ash (show _ = Value.bool _ from rfl) ?_)
                    refine WL.nil ?_
                    exact ⟨rfl, rfl, congrArg Value.bool (by rw [Bool.eq_iff_iff]; simp_all [okB] <;> omega), rfl⟩
                  · skip
                    refine WL.s rfl (g69) rfl ?_
                    refine WL.s rfl (g69) rfl ?_
                    refine WL.s rfl (g69) rfl ?_
                    refine WL.c rfl (o_pickF rfl (g69) ?_)
                    refine WL.c rfl (o_ash (show _ = Value.bool _ from rfl) ?_)
                    refine WL.nil ?_
                    exact ⟨rfl, rfl, congrArg Value.bool (by rw [Bool.eq_iff_iff]; simp_all [okB] <;> omega), rfl⟩
                · try simp only [decide_eq_true_eq, decide_eq_false_iff_not, Bool.not_eq_true', Bool.not_eq_false', Bool.and_eq_true, Bool.or_eq_true, Bool.and_eq_false_iff, Bool.or_eq_false_iff] at c64
                  refine W.seq ?_
                  refine W.seq ?_
                  refine W.region ?_
                  refine WL.c rfl (o_eq rfl rfl ?_)
                  refine WL.c rfl (o_ash (show _ = Value.bool _ from rfl) ?_)
                  refine WL.nil ?_
                  refine W.cond rfl (fun c74 => ?_) (fun c74 => ?_)
                  · try simp only [decide_eq_true_eq, decide_eq_false_iff_not, Bool.not_eq_true', Bool.not_eq_false', Bool.and_eq_true, Bool.or_eq_true, Bool.and_eq_false_iff, Bool.or_eq_false_iff] at c74
                    refine W.skip ?_
                    refine W.cond rfl (fun c74 => ?_) (fun c74 => ?_)
                    · try simp only [decide_eq_true_eq, decide_eq_false_iff_not, Bool.not_eq_true', Bool.not_eq_false', Bool.and_eq_true, Bool.or_eq_true, Bool.and_eq_false_iff, Bool.or_eq_false_iff] at c74
                      refine W.region ?_
                      refine WL.c rfl (o_fa 1 TI26 rfl TI3 rfl rfl ?_)
                      refine WL.c rfl (o_ld TI3 rfl rfl (cell_of hC2 rfl) ?_)
                      refine WL.c rfl (o_eq rfl rfl ?_)
                      refine WL.c rfl (o_mvh (show _ = Value.bool _ from rfl) ?_)
                      refine WL.sp 3 rfl (fun g80 => ?_) (fun g80 => ?_)
                      · skip
                        refine WL.g rfl (g80) rfl (o_fa 5 TI26 rfl TI3 rfl rfl ?_)
                        refine WL.g rfl (g80) rfl (o_ld TI3 rfl rfl (cell_of hC2 rfl) ?_)
                        refine WL.g rfl (g80) rfl (o_ge rfl rfl ?_)
                        refine WL.c rfl (o_pickA rfl rfl ?_)
                        refine WL.c rfl (o_ash (show _ = Value.bool _ from rfl) ?_)
                        refine WL.nil ?_
                        exact ⟨rfl, rfl, congrArg Value.bool (by rw [Bool.eq_iff_iff]; simp_all [okB] <;> omega), rfl⟩
                      · skip
                        refine WL.s rfl (g80) rfl ?_
                        refine WL.s rfl (g80) rfl ?_
                        refine WL.s rfl (g80) rfl ?_
                        refine WL.c rfl (o_pickF rfl (g80) ?_)
                        refine WL.c rfl (o_ash (show _ = Value.bool _ from rfl) ?_)
                        refine WL.nil ?_
                        exact ⟨rfl, rfl, congrArg Value.bool (by rw [Bool.eq_iff_iff]; simp_all [okB] <;> omega), rfl⟩
                    · try simp only [decide_eq_true_eq, decide_eq_false_iff_not, Bool.not_eq_true', Bool.not_eq_false', Bool.and_eq_true, Bool.or_eq_true, Bool.and_eq_false_iff, Bool.or_eq_false_iff] at c74
                      refine W.seq ?_
                      refine W.region ?_
                      refine WL.c rfl (o_ash (show _ = Value.bool _ from rfl) ?_)
                      refine WL.nil ?_
                      refine W.ret ?_
                      refine ret1v rfl (show _ = Value.bool _ from rfl) ?_
                      have h9 : okB x = false := by
                        unfold okB
                        repeat' split
                        all_goals first | rfl | omega
                      exact ⟨congrArg Value.bool (by rw [rightB, h9]; rfl), hx2⟩
                  · try simp only [decide_eq_true_eq, decide_eq_false_iff_not, Bool.not_eq_true', Bool.not_eq_false', Bool.and_eq_true, Bool.or_eq_true, Bool.and_eq_false_iff, Bool.or_eq_false_iff] at c74
                    refine W.region ?_
                    refine WL.c rfl (o_eq rfl rfl ?_)
                    refine WL.c rfl (o_ash (show _ = Value.bool _ from rfl) ?_)
                    refine WL.nil ?_
                    refine W.cond rfl (fun c74 => ?_) (fun c74 => ?_)
                    · try simp only [decide_eq_true_eq, decide_eq_false_iff_not, Bool.not_eq_true', Bool.not_eq_false', Bool.and_eq_true, Bool.or_eq_true, Bool.and_eq_false_iff, Bool.or_eq_false_iff] at c74
                      refine W.region ?_
                      refine WL.c rfl (o_fa 1 TI26 rfl TI3 rfl rfl ?_)
                      refine WL.c rfl (o_ld TI3 rfl rfl (cell_of hC2 rfl) ?_)
                      refine WL.c rfl (o_eq rfl rfl ?_)
                      refine WL.c rfl (o_mvh (show _ = Value.bool _ from rfl) ?_)
                      refine WL.sp 3 rfl (fun g80 => ?_) (fun g80 => ?_)
                      · skip
                        refine WL.g rfl (g80) rfl (o_fa 5 TI26 rfl TI3 rfl rfl ?_)
                        refine WL.g rfl (g80) rfl (o_ld TI3 rfl rfl (cell_of hC2 rfl) ?_)
                        refine WL.g rfl (g80) rfl (o_ge rfl rfl ?_)
                        refine WL.c rfl (o_pickA rfl rfl ?_)
                        refine WL.c rfl (o_ash (show _ = Value.bool _ from rfl) ?_)
                        refine WL.nil ?_
                        exact ⟨rfl, rfl, congrArg Value.bool (by rw [Bool.eq_iff_iff]; simp_all [okB] <;> omega), rfl⟩
                      · skip
                        refine WL.s rfl (g80) rfl ?_
                        refine WL.s rfl (g80) rfl ?_
                        refine WL.s rfl (g80) rfl ?_
                        refine WL.c rfl (o_pickF rfl (g80) ?_)
                        refine WL.c rfl (o_ash (show _ = Value.bool _ from rfl) ?_)
                        refine WL.nil ?_
                        exact ⟨rfl, rfl, congrArg Value.bool (by rw [Bool.eq_iff_iff]; simp_all [okB] <;> omega), rfl⟩
                    · try simp only [decide_eq_true_eq, decide_eq_false_iff_not, Bool.not_eq_true', Bool.not_eq_false', Bool.and_eq_true, Bool.or_eq_true, Bool.and_eq_false_iff, Bool.or_eq_false_iff] at c74
                      refine W.seq ?_
                      refine W.region ?_
                      refine WL.c rfl (o_ash (show _ = Value.bool _ from rfl) ?_)
                      refine WL.nil ?_
                      refine W.ret ?_
                      refine ret1v rfl (show _ = Value.bool _ from rfl) ?_
                      have h9 : okB x = false := by
                        unfold okB
                        repeat' split
                        all_goals first | rfl | omega
                      exact ⟨congrArg Value.bool (by rw [rightB, h9]; rfl), hx2⟩
        · try simp only [decide_eq_true_eq, decide_eq_false_iff_not, Bool.not_eq_true', Bool.not_eq_false', Bool.and_eq_true, Bool.or_eq_true, Bool.and_eq_false_iff, Bool.or_eq_false_iff] at c36
          refine W.region ?_
          refine WL.c rfl (o_eq rfl rfl ?_)
          refine WL.c rfl (o_ash (show _ = Value.bool _ from rfl) ?_)
          refine WL.nil ?_
          refine W.cond rfl (fun c36 => ?_) (fun c36 => ?_)
          · try simp only [decide_eq_true_eq, decide_eq_false_iff_not, Bool.not_eq_true', Bool.not_eq_false', Bool.and_eq_true, Bool.or_eq_true, Bool.and_eq_false_iff, Bool.or_eq_false_iff] at c36
            refine W.region ?_
            refine WL.c rfl (o_fa 1 TI26 rfl TI3 rfl rfl ?_)
            refine WL.c rfl (o_ld TI3 rfl rfl (cell_of hC2 rfl) ?_)
            refine WL.c rfl (o_eq rfl rfl ?_)
            refine WL.c rfl (o_mvh (show _ = Value.bool _ from rfl) ?_)
            refine WL.sp 3 rfl (fun g43 => ?_) (fun g43 => ?_)
            · skip
              refine WL.g rfl (g43) rfl (o_fa 5 TI26 rfl TI3 rfl rfl ?_)
              refine WL.g rfl (g43) rfl (o_ld TI3 rfl rfl (cell_of hC2 rfl) ?_)
              refine WL.g rfl (g43) rfl (o_eq rfl rfl ?_)
              refine WL.c rfl (o_pickA rfl rfl ?_)
              refine WL.c rfl (o_ash (show _ = Value.bool _ from rfl) ?_)
              refine WL.nil ?_
              exact ⟨rfl, rfl, congrArg Value.bool (by rw [Bool.eq_iff_iff]; simp_all [okB] <;> omega), rfl⟩
            · skip
              refine WL.s rfl (g43) rfl ?_
              refine WL.s rfl (g43) rfl ?_
              refine WL.s rfl (g43) rfl ?_
              refine WL.c rfl (o_pickF rfl (g43) ?_)
              refine WL.c rfl (o_ash (show _ = Value.bool _ from rfl) ?_)
              refine WL.nil ?_
              exact ⟨rfl, rfl, congrArg Value.bool (by rw [Bool.eq_iff_iff]; simp_all [okB] <;> omega), rfl⟩
          · try simp only [decide_eq_true_eq, decide_eq_false_iff_not, Bool.not_eq_true', Bool.not_eq_false', Bool.and_eq_true, Bool.or_eq_true, Bool.and_eq_false_iff, Bool.or_eq_false_iff] at c36
            refine W.seq ?_
            refine W.seq ?_
            refine W.region ?_
            refine WL.c rfl (o_eq rfl rfl ?_)
            refine WL.c rfl (o_ash (show _ = Value.bool _ from rfl) ?_)
            refine WL.nil ?_
            refine W.cond rfl (fun c48 => ?_) (fun c48 => ?_)
            · try simp only [decide_eq_true_eq, decide_eq_false_iff_not, Bool.not_eq_true', Bool.not_eq_false', Bool.and_eq_true, Bool.or_eq_true, Bool.and_eq_false_iff, Bool.or_eq_false_iff] at c48
              refine W.skip ?_
              refine W.cond rfl (fun c48 => ?_) (fun c48 => ?_)
              · try simp only [decide_eq_true_eq, decide_eq_false_iff_not, Bool.not_eq_true', Bool.not_eq_false', Bool.and_eq_true, Bool.or_eq_true, Bool.and_eq_false_iff, Bool.or_eq_false_iff] at c48
                refine W.region ?_
                refine WL.c rfl (o_fa 1 TI26 rfl TI3 rfl rfl ?_)
                refine WL.c rfl (o_ld TI3 rfl rfl (cell_of hC2 rfl) ?_)
                refine WL.c rfl (o_ge rfl rfl ?_)
                refine WL.c rfl (o_mvh (show _ = Value.bool _ from rfl) ?_)
                refine WL.sp 3 rfl (fun g54 => ?_) (fun g54 => ?_)
                · skip
                  refine WL.g rfl (g54) rfl (o_fa 1 TI26 rfl TI3 rfl rfl ?_)
                  refine WL.g rfl (g54) rfl (o_ld TI3 rfl rfl (cell_of hC2 rfl) ?_)
                  refine WL.g rfl (g54) rfl (o_le rfl rfl ?_)
                  refine WL.c rfl (o_pickA rfl rfl ?_)
                  refine WL.c rfl (o_mvh (show _ = Value.bool _ from rfl) ?_)
                  refine WL.sp 8 rfl (fun g59 => ?_) (fun g59 => ?_)
                  · skip
                    refine WL.g rfl (g59) rfl (o_fa 5 TI26 rfl TI3 rfl rfl ?_)
                    refine WL.g rfl (g59) rfl (o_ld TI3 rfl rfl (cell_of hC2 rfl) ?_)
                    refine WL.g rfl (g59) rfl (o_eq rfl rfl ?_)
                    refine WL.c rfl (o_pickA rfl rfl ?_)
                    refine WL.c rfl (o_ash (show _ = Value.bool _ from rfl) ?_)
                    refine WL.nil ?_
                    exact ⟨rfl, rfl, congrArg Value.bool (by rw [Bool.eq_iff_iff]; simp_all [okB] <;> omega), rfl⟩
                  · skip
                    refine WL.s rfl (g59) rfl ?_
                    refine WL.s rfl (g59) rfl ?_
                    refine WL.s rfl (g59) rfl ?_
                    refine WL.c rfl (o_pickF rfl (g59) ?_)
                    refine WL.c rfl (o_ash (show _ = Value.bool _ from rfl) ?_)
                    refine WL.nil ?_
                    exact ⟨rfl, rfl, congrArg Value.bool (by rw [Bool.eq_iff_iff]; simp_all [okB] <;> omega), rfl⟩
                · skip
                  refine WL.s rfl (g54) rfl ?_
                  refine WL.s rfl (g54) rfl ?_
                  refine WL.s rfl (g54) rfl ?_
                  refine WL.c rfl (o_pickF rfl (g54) ?_)
                  refine WL.c rfl (o_mvh (show _ = Value.bool _ from rfl) ?_)
                  refine WL.s rfl (rfl) rfl ?_
                  refine WL.s rfl (rfl) rfl ?_
                  refine WL.s rfl (rfl) rfl ?_
                  refine WL.c rfl (o_pickF rfl (rfl) ?_)
                  refine WL.c rfl (o_ash (show _ = Value.bool _ from rfl) ?_)
                  refine WL.nil ?_
                  exact ⟨rfl, rfl, congrArg Value.bool (by rw [Bool.eq_iff_iff]; simp_all [okB] <;> omega), rfl⟩
              · try simp only [decide_eq_true_eq, decide_eq_false_iff_not, Bool.not_eq_true', Bool.not_eq_false', Bool.and_eq_true, Bool.or_eq_true, Bool.and_eq_false_iff, Bool.or_eq_false_iff] at c48
                refine W.seq ?_
                refine W.region ?_
                refine WL.c rfl (o_eq rfl rfl ?_)
                refine WL.c rfl (o_ash (show _ = Value.bool _ from rfl) ?_)
                refine WL.nil ?_
                refine W.cond rfl (fun c64 => ?_) (fun c64 => ?_)
                · try simp only [decide_eq_true_eq, decide_eq_false_iff_not, Bool.not_eq_true', Bool.not_eq_false', Bool.and_eq_true, Bool.or_eq_true, Bool.and_eq_false_iff, Bool.or_eq_false_iff] at c64
                  refine W.region ?_
                  refine WL.c rfl (o_fa 1 TI26 rfl TI3 rfl rfl ?_)
                  refine WL.c rfl (o_ld TI3 rfl rfl (cell_of hC2 rfl) ?_)
                  refine WL.c rfl (o_eq rfl rfl ?_)
                  refine WL.c rfl (o_mvh (show _ = Value.bool _ from rfl) ?_)
                  refine WL.sp 3 rfl (fun g69 => ?_) (fun g69 => ?_)
                  · skip
                    refine WL.g rfl (g69) rfl (o_fa 5 TI26 rfl TI3 rfl rfl ?_)
                    refine WL.g rfl (g69) rfl (o_ld TI3 rfl rfl (cell_of hC2 rfl) ?_)
                    refine WL.g rfl (g69) rfl (o_eq rfl rfl ?_)
                    refine WL.c rfl (o_pickA rfl rfl ?_)
                    refine WL.c rfl (o_ash (show _ = Value.bool _ from rfl) ?_)
                    refine WL.nil ?_
                    exact ⟨rfl, rfl, congrArg Value.bool (by rw [Bool.eq_iff_iff]; simp_all [okB] <;> omega), rfl⟩
                  · skip
                    refine WL.s rfl (g69) rfl ?_
                    refine WL.s rfl (g69) rfl ?_
                    refine WL.s rfl (g69) rfl ?_
                    refine WL.c rfl (o_pickF rfl (g69) ?_)
                    refine WL.c rfl (o_ash (show _ = Value.bool _ from rfl) ?_)
                    refine WL.nil ?_
                    exact ⟨rfl, rfl, congrArg Value.bool (by rw [Bool.eq_iff_iff]; simp_all [okB] <;> omega), rfl⟩
                · try simp only [decide_eq_true_eq, decide_eq_false_iff_not, Bool.not_eq_true', Bool.not_eq_false', Bool.and_eq_true, Bool.or_eq_true, Bool.and_eq_false_iff, Bool.or_eq_false_iff] at c64
                  refine W.seq ?_
                  refine W.seq ?_
                  refine W.region ?_
                  refine WL.c rfl (o_eq rfl rfl ?_)
                  refine WL.c rfl (o_ash (show _ = Value.bool _ from rfl) ?_)
                  refine WL.nil ?_
                  refine W.cond rfl (fun c74 => ?_) (fun c74 => ?_)
                  · try simp only [decide_eq_true_eq, decide_eq_false_iff_not, Bool.not_eq_true', Bool.not_eq_false', Bool.and_eq_true, Bool.or_eq_true, Bool.and_eq_false_iff, Bool.or_eq_false_iff] at c74
                    refine W.skip ?_
                    refine W.cond rfl (fun c74 => ?_) (fun c74 => ?_)
                    · try simp only [decide_eq_true_eq, decide_eq_false_iff_not, Bool.not_eq_true', Bool.not_eq_false', Bool.and_eq_true, Bool.or_eq_true, Bool.and_eq_false_iff, Bool.or_eq_false_iff] at c74
                      refine W.region ?_
                      refine WL.c rfl (o_fa 1 TI26 rfl TI3 rfl rfl ?_)
                      refine WL.c rfl (o_ld TI3 rfl rfl (cell_of hC2 rfl) ?_)
                      refine WL.c rfl (o_eq rfl rfl ?_)
                      refine WL.c rfl (o_mvh (show _ = Value.bool _ from rfl) ?_)
                      refine WL.sp 3 rfl (fun g80 => ?_) (fun g80 => ?_)
                      · skip
                        refine WL.g rfl (g80) rfl (o_fa 5 TI26 rfl TI3 rfl rfl ?_)
                        refine WL.g rfl (g80) rfl (o_ld TI3 rfl rfl (cell_of hC2 rfl) ?_)
                        refine WL.g rfl (g80) rfl (o_ge rfl rfl ?_)
                        refine WL.c rfl (o_pickA rfl rfl ?_)
                        refine WL.c rfl (o_ash (show _ = Value.bool _ from rfl) ?_)
                        refine WL.nil ?_
                        exact ⟨rfl, rfl, congrArg Value.bool (by rw [Bool.eq_iff_iff]; simp_all [okB] <;> omega), rfl⟩
                      · skip
                        refine WL.s rfl (g80) rfl ?_
                        refine WL.s rfl (g80) rfl ?_
                        refine WL.s rfl (g80) rfl ?_
                        refine WL.c rfl (o_pickF rfl (g80) ?_)
                        refine WL.c rfl (o_ash (show _ = Value.bool _ from rfl) ?_)
                        refine WL.nil ?_
                        exact ⟨rfl, rfl, congrArg Value.bool (by rw [Bool.eq_iff_iff]; simp_all [okB] <;> omega), rfl⟩
                    · try simp only [decide_eq_true_eq, decide_eq_false_iff_not, Bool.not_eq_true', Bool.not_eq_false', Bool.and_eq_true, Bool.or_eq_true, Bool.and_eq_false_iff, Bool.or_eq_false_iff] at c74
                      refine W.seq ?_
                      refine W.region ?_
                      refine WL.c rfl (o_ash (show _ = Value.bool _ from rfl) ?_)
                      refine WL.nil ?_
                      refine W.ret ?_
                      refine ret1v rfl (show _ = Value.bool _ from rfl) ?_
                      have h9 : okB x = false := by
                        unfold okB
                        repeat' split
                        all_goals first | rfl | omega
                      exact ⟨congrArg Value.bool (by rw [rightB, h9]; rfl), hx2⟩
                  · try simp only [decide_eq_true_eq, decide_eq_false_iff_not, Bool.not_eq_true', Bool.not_eq_false', Bool.and_eq_true, Bool.or_eq_true, Bool.and_eq_false_iff, Bool.or_eq_false_iff] at c74
                    refine W.region ?_
                    refine WL.c rfl (o_eq rfl rfl ?_)
                    refine WL.c rfl (o_ash (show _ = Value.bool _ from rfl) ?_)
                    refine WL.nil ?_
                    refine W.cond rfl (fun c74 => ?_) (fun c74 => ?_)
                    · try simp only [decide_eq_true_eq, decide_eq_false_iff_not, Bool.not_eq_true', Bool.not_eq_false', Bool.and_eq_true, Bool.or_eq_true, Bool.and_eq_false_iff, Bool.or_eq_false_iff] at c74
                      refine W.region ?_
                      refine WL.c rfl (o_fa 1 TI26 rfl TI3 rfl rfl ?_)
                      refine WL.c rfl (o_ld TI3 rfl rfl (cell_of hC2 rfl) ?_)
                      refine WL.c rfl (o_eq rfl rfl ?_)
                      refine WL.c rfl (o_mvh (show _ = Value.bool _ from rfl) ?_)
                      refine WL.sp 3 rfl (fun g80 => ?_) (fun g80 => ?_)
                      · skip
                        refine WL.g rfl (g80) rfl (o_fa 5 TI26 rfl TI3 rfl rfl ?_)
                        refine WL.g rfl (g80) rfl (o_ld TI3 rfl rfl (cell_of hC2 rfl) ?_)
                        refine WL.g rfl (g80) rfl (o_ge rfl rfl ?_)
                        refine WL.c rfl (o_pickA rfl rfl ?_)
                        refine WL.c rfl (o_ash (show _ = Value.bool _ from rfl) ?_)
                        refine WL.nil ?_
                        exact ⟨rfl, rfl, congrArg Value.bool (by rw [Bool.eq_iff_iff]; simp_all [okB] <;> omega), rfl⟩
                      · skip
                        refine WL.s rfl (g80) rfl ?_
                        refine WL.s rfl (g80) rfl ?_
                        refine WL.s rfl (g80) rfl ?_
                        refine WL.c rfl (o_pickF rfl (g80) ?_)
                        refine WL.c rfl (o_ash (show _ = Value.bool _ from rfl) ?_)
                        refine WL.nil ?_
                        exact ⟨rfl, rfl, congrArg Value.bool (by rw [Bool.eq_iff_iff]; simp_all [okB] <;> omega), rfl⟩
                    · try simp only [decide_eq_true_eq, decide_eq_false_iff_not, Bool.not_eq_true', Bool.not_eq_false', Bool.and_eq_true, Bool.or_eq_true, Bool.and_eq_false_iff, Bool.or_eq_false_iff] at c74
                      refine W.seq ?_
                      refine W.region ?_
                      refine WL.c rfl (o_ash (show _ = Value.bool _ from rfl) ?_)
                      refine WL.nil ?_
                      refine W.ret ?_
                      refine ret1v rfl (show _ = Value.bool _ from rfl) ?_
                      have h9 : okB x = false := by
                        unfold okB
                        repeat' split
                        all_goals first | rfl | omega
                      exact ⟨congrArg Value.bool (by rw [rightB, h9]; rfl), hx2⟩
            · try simp only [decide_eq_true_eq, decide_eq_false_iff_not, Bool.not_eq_true', Bool.not_eq_false', Bool.and_eq_true, Bool.or_eq_true, Bool.and_eq_false_iff, Bool.or_eq_false_iff] at c48
              refine W.region ?_
              refine WL.c rfl (o_eq rfl rfl ?_)
              refine WL.c rfl (o_ash (show _ = Value.bool _ from rfl) ?_)
              refine WL.nil ?_
              refine W.cond rfl (fun c48 => ?_) (fun c48 => ?_)
              · try simp only [decide_eq_true_eq, decide_eq_false_iff_not, Bool.not_eq_true', Bool.not_eq_false', Bool.and_eq_true, Bool.or_eq_true, Bool.and_eq_false_iff, Bool.or_eq_false_iff] at c48
                refine W.region ?_
                refine WL.c rfl (o_fa 1 TI26 rfl TI3 rfl rfl ?_)
                refine WL.c rfl (o_ld TI3 rfl rfl (cell_of hC2 rfl) ?_)
                refine WL.c rfl (o_ge rfl rfl ?_)
                refine WL.c rfl (o_mvh (show _ = Value.bool _ from rfl) ?_)
                refine WL.sp 3 rfl (fun g54 => ?_) (fun g54 => ?_)
                · skip
                  refine WL.g rfl (g54) rfl (o_fa 1 TI26 rfl TI3 rfl rfl ?_)
                  refine WL.g rfl (g54) rfl (o_ld TI3 rfl rfl (cell_of hC2 rfl) ?_)
                  refine WL.g rfl (g54) rfl (o_le rfl rfl ?_)
                  refine WL.c rfl (o_pickA rfl rfl ?_)
                  refine WL.c rfl (o_mvh (show _ = Value.bool _ from rfl) ?_)
                  refine WL.sp 8 rfl (fun g59 => ?_) (fun g59 => ?_)
                  · skip
                    refine WL.g rfl (g59) rfl (o_fa 5 TI26 rfl TI3 rfl rfl ?_)
                    refine WL.g rfl (g59) rfl (o_ld TI3 rfl rfl (cell_of hC2 rfl) ?_)
                    refine WL.g rfl (g59) rfl (o_eq rfl rfl ?_)
                    refine WL.c rfl (o_pickA rfl rfl ?_)
                    refine WL.c rfl (o_ash (show _ = Value.bool _ from rfl) ?_)
                    refine WL.nil ?_
                    exact ⟨rfl, rfl, congrArg Value.bool (by rw [Bool.eq_iff_iff]; simp_all [okB] <;> omega), rfl⟩
                  · skip
                    refine WL.s rfl (g59) rfl ?_
                    refine WL.s rfl (g59) rfl ?_
                    refine WL.s rfl (g59) rfl ?_
                    refine WL.c rfl (o_pickF rfl (g59) ?_)
                    refine WL.c rfl (o_ash (show _ = Value.bool _ from rfl) ?_)
                    refine WL.nil ?_
                    exact ⟨rfl, rfl, congrArg Value.bool (by rw [Bool.eq_iff_iff]; simp_all [okB] <;> omega), rfl⟩
                · skip
                  refine WL.s rfl (g54) rfl ?_
                  refine WL.s rfl (g54) rfl ?_
                  refine WL.s rfl (g54) rfl ?_
                  refine WL.c rfl (o_pickF rfl (g54) ?_)
                  refine WL.c rfl (o_mvh (show _ = Value.bool _ from rfl) ?_)
                  refine WL.s rfl (rfl) rfl ?_
                  refine WL.s rfl (rfl) rfl ?_
                  refine WL.s rfl (rfl) rfl ?_
                  refine WL.c rfl (o_pickF rfl (rfl) ?_)
                  refine WL.c rfl (o_ash (show _ = Value.bool _ from rfl) ?_)
                  refine WL.nil ?_
                  exact ⟨rfl, rfl, congrArg Value.bool (by rw [Bool.eq_iff_iff]; simp_all [okB] <;> omega), rfl⟩
              · try simp only [decide_eq_true_eq, decide_eq_false_iff_not, Bool.not_eq_true', Bool.not_eq_false', Bool.and_eq_true, Bool.or_eq_true, Bool.and_eq_false_iff, Bool.or_eq_false_iff] at c48
                refine W.seq ?_
                refine W.region ?_
                refine WL.c rfl (o_eq rfl rfl ?_)
                refine WL.c rfl (o_ash (show _ = Value.bool _ from rfl) ?_)
                refine WL.nil ?_
                refine W.cond rfl (fun c64 => ?_) (fun c64 => ?_)
                · try simp only [decide_eq_true_eq, decide_eq_false_iff_not, Bool.not_eq_true', Bool.not_eq_false', Bool.and_eq_true, Bool.or_eq_true, Bool.and_eq_false_iff, Bool.or_eq_false_iff] at c64
                  refine W.region ?_
                  refine WL.c rfl (o_fa 1 TI26 rfl TI3 rfl rfl ?_)
                  refine WL.c rfl (o_ld TI3 rfl rfl (cell_of hC2 rfl) ?_)
                  refine WL.c rfl (o_eq rfl rfl ?_)
                  refine WL.c rfl (o_mvh (show _ = Value.bool _ from rfl) ?_)
                  refine WL.sp 3 rfl (fun g69 => ?_) (fun g69 => ?_)
                  · skip
                    refine WL.g rfl (g69) rfl (o_fa 5 TI26 rfl TI3 rfl rfl ?_)
                    refine WL.g rfl (g69) rfl (o_ld TI3 rfl rfl (cell_of hC2 rfl) ?_)
                    refine WL.g rfl (g69) rfl (o_eq rfl rfl ?_)
                    refine WL.c rfl (o_pickA rfl rfl ?_)
                    refine WL.c rfl (o_ash (show _ = Value.bool _ from rfl) ?_)
                    refine WL.nil ?_
                    exact ⟨rfl, rfl, congrArg Value.bool (by rw [Bool.eq_iff_iff]; simp_all [okB] <;> omega), rfl⟩
                  · skip
                    refine WL.s rfl (g69) rfl ?_
                    refine WL.s rfl (g69) rfl ?_
                    refine WL.s rfl (g69) rfl ?_
                    refine WL.c rfl (o_pickF rfl (g69) ?_)
                    refine WL.c rfl (o_ash (show _ = Value.bool _ from rfl) ?_)
                    refine WL.nil ?_
                    exact ⟨rfl, rfl, congrArg Value.bool (by rw [Bool.eq_iff_iff]; simp_all [okB] <;> omega), rfl⟩
                · try simp only [decide_eq_true_eq, decide_eq_false_iff_not, Bool.not_eq_true', Bool.not_eq_false', Bool.and_eq_true, Bool.or_eq_true, Bool.and_eq_false_iff, Bool.or_eq_false_iff] at c64
                  refine W.seq ?_
                  refine W.seq ?_
                  refine W.region ?_
                  refine WL.c rfl (o_eq rfl rfl ?_)
                  refine WL.c rfl (o_ash (show _ = Value.bool _ from rfl) ?_)
                  refine WL.nil ?_
                  refine W.cond rfl (fun c74 => ?_) (fun c74 => ?_)
                  · try simp only [decide_eq_true_eq, decide_eq_false_iff_not, Bool.not_eq_true', Bool.not_eq_false', Bool.and_eq_true, Bool.or_eq_true, Bool.and_eq_false_iff, Bool.or_eq_false_iff] at c74
                    refine W.skip ?_
                    refine W.cond rfl (fun c74 => ?_) (fun c74 => ?_)
                    · try simp only [decide_eq_true_eq, decide_eq_false_iff_not, Bool.not_eq_true', Bool.not_eq_false', Bool.and_eq_true, Bool.or_eq_true, Bool.and_eq_false_iff, Bool.or_eq_false_iff] at c74
                      refine W.region ?_
                      refine WL.c rfl (o_fa 1 TI26 rfl TI3 rfl rfl ?_)
                      refine WL.c rfl (o_ld TI3 rfl rfl (cell_of hC2 rfl) ?_)
                      refine WL.c rfl (o_eq rfl rfl ?_)
                      refine WL.c rfl (o_mvh (show _ = Value.bool _ from rfl) ?_)
                      refine WL.sp 3 rfl (fun g80 => ?_) (fun g80 => ?_)
                      · skip
                        refine WL.g rfl (g80) rfl (o_fa 5 TI26 rfl TI3 rfl rfl ?_)
                        refine WL.g rfl (g80) rfl (o_ld TI3 rfl rfl (cell_of hC2 rfl) ?_)
                        refine WL.g rfl (g80) rfl (o_ge rfl rfl ?_)
                        refine WL.c rfl (o_pickA rfl rfl ?_)
                        refine WL.c rfl (o_ash (show _ = Value.bool _ from rfl) ?_)
                        refine WL.nil ?_
                        exact ⟨rfl, rfl, congrArg Value.bool (by rw [Bool.eq_iff_iff]; simp_all [okB] <;> omega), rfl⟩
                      · skip
                        refine WL.s rfl (g80) rfl ?_
                        refine WL.s rfl (g80) rfl ?_
                        refine WL.s rfl (g80) rfl ?_
                        refine WL.c rfl (o_pickF rfl (g80) ?_)
                        refine WL.c rfl (o_ash (show _ = Value.bool _ from rfl) ?_)
                        refine WL.nil ?_
                        exact ⟨rfl, rfl, congrArg Value.bool (by rw [Bool.eq_iff_iff]; simp_all [okB] <;> omega), rfl⟩
                    · try simp only [decide_eq_true_eq, decide_eq_false_iff_not, Bool.not_eq_true', Bool.not_eq_false', Bool.and_eq_true, Bool.or_eq_true, Bool.and_eq_false_iff, Bool.or_eq_false_iff] at c74
                      refine W.seq ?_
                      refine W.region ?_
                      refine WL.c rfl (o_ash (show _ = Value.bool _ from rfl) ?_)
                      refine WL.nil ?_
                      refine W.ret ?_
                      refine ret1v rfl (show _ = Value.bool _ from rfl) ?_
                      have h9 : okB x = false := by
                        unfold okB
                        repeat' split
                        all_goals first | rfl | omega
                      exact ⟨congrArg Value.bool (by rw [rightB, h9]; rfl), hx2⟩
                  · try simp only [decide_eq_true_eq, decide_eq_false_iff_not, Bool.not_eq_true', Bool.not_eq_false', Bool.and_eq_true, Bool.or_eq_true, Bool.and_eq_false_iff, Bool.or_eq_false_iff] at c74
                    refine W.region ?_
                    refine WL.c rfl (o_eq rfl rfl ?_)
                    refine WL.c rfl (o_ash (show _ = Value.bool _ from rfl) ?_)
                    refine WL.nil ?_
                    refine W.cond rfl (fun c74 => ?_) (fun c74 => ?_)
                    · try simp only [decide_eq_true_eq, decide_eq_false_iff_not, Bool.not_eq_true', Bool.not_eq_false', Bool.and_eq_true, Bool.or_eq_true, Bool.and_eq_false_iff, Bool.or_eq_false_iff] at c74
                      refine W.region ?_
                      refine WL.c rfl (o_fa 1 TI26 rfl TI3 rfl rfl ?_)
                      refine WL.c rfl (o_ld TI3 rfl rfl (cell_of hC2 rfl) ?_)
                      refine WL.c rfl (o_eq rfl rfl ?_)
                      refine WL.c rfl (o_mvh (show _ = Value.bool _ from rfl) ?_)
                      refine WL.sp 3 rfl (fun g80 => ?_) (fun g80 => ?_)
                      · skip
                        refine WL.g rfl (g80) rfl (o_fa 5 TI26 rfl TI3 rfl rfl ?_)
                        refine WL.g rfl (g80) rfl (o_ld TI3 rfl rfl (cell_of hC2 rfl) ?_)
                        refine WL.g rfl (g80) rfl (o_ge rfl rfl ?_)
                        refine WL.c rfl (o_pickA rfl rfl ?_)
                        refine WL.c rfl (o_ash (show _ = Value.bool _ from rfl) ?_)
                        refine WL.nil ?_
                        exact ⟨rfl, rfl, congrArg Value.bool (by rw [Bool.eq_iff_iff]; simp_all [okB] <;> omega), rfl⟩
                      · skip
                        refine WL.s rfl (g80) rfl ?_
                        refine WL.s rfl (g80) rfl ?_
                        refine WL.s rfl (g80) rfl ?_
                        refine WL.c rfl (o_pickF rfl (g80) ?_)
                        refine WL.c rfl (o_ash (show _ = Value.bool _ from rfl) ?_)
                        refine WL.nil ?_
                        exact ⟨rfl, rfl, congrArg Value.bool (by rw [Bool.eq_iff_iff]; simp_all [okB] <;> omega), rfl⟩
                    · try simp only [decide_eq_true_eq, decide_eq_false_iff_not, Bool.not_eq_true', Bool.not_eq_false', Bool.and_eq_true, Bool.or_eq_true, Bool.and_eq_false_iff, Bool.or_eq_false_iff] at c74
                      refine W.seq ?_
                      refine W.region ?_
                      refine WL.c rfl (o_ash (show _ = Value.bool _ from rfl) ?_)
                      refine WL.nil ?_
                      refine W.ret ?_
                      refine ret1v rfl (show _ = Value.bool _ from rfl) ?_
                      have h9 : okB x = false := by
                        unfold okB
                        repeat' split
                        all_goals first | rfl | omega
                      exact ⟨congrArg Value.bool (by rw [rightB, h9]; rfl), hx2⟩
  rintro e w ⟨h1, h2, h5, hw⟩
  subst hw
  refine W.seq ?_
  refine W.region ?_
  refine WL.cut (fun e1 w1 => e1 1 = .int .i64 above ∧ e1 2 = .pointer (some ⟨c2, 0, none⟩) ∧ e1 5 = .bool (okB x) ∧ e1 6 = .bool (namB x) ∧ w1 = w) ?_ ?_
  · -- region 18
    refine WL.c rfl (o_fa 0 TI26 rfl TI3 rfl h2 ?_)
    refine WL.c rfl (o_ld TI3 rfl rfl (cell_of hC2 rfl) ?_)
    refine WL.c rfl (o_eq rfl rfl ?_)
    refine WL.c rfl (o_mvh (show _ = Value.bool _ from rfl) ?_)
    refine WL.sp 3 rfl (fun g88 => ?_) (fun g88 => ?_)
    · skip
      refine WL.g rfl (g88) rfl (o_fa 2 TI26 rfl TI9 rfl h2 ?_)
      refine WL.g rfl (g88) rfl (o_ld TI9 rfl rfl (cell_of hC2 rfl) ?_)
      refine WL.g rfl (g88) rfl (o_call Try.call59 (lc rfl ln) ((name_spec x.name _ hn).mono ?_))
      rintro v91 w91 ⟨rfl, rfl⟩
      refine WL.c rfl (o_pickA rfl rfl ?_)
      refine WL.c rfl (o_mvh (show _ = Value.bool _ from rfl) ?_)
      refine WL.sp 8 rfl (fun g93 => ?_) (fun g93 => ?_)
      · skip
        refine WL.s rfl (g93) rfl ?_
        refine WL.s rfl (g93) rfl ?_
        refine WL.s rfl (g93) rfl ?_
        refine WL.s rfl (g93) rfl ?_
        refine WL.z rfl rfl ?_
        refine WL.z rfl rfl ?_
        refine WL.z rfl rfl ?_
        refine WL.s rfl (g93) rfl ?_
        refine WL.c rfl (o_pickT rfl (g93) ?_)
        refine WL.c rfl (o_ash (show _ = Value.bool _ from rfl) ?_)
        exact WL.nil (⟨h1, h2, h5, congrArg Value.bool (by rw [Bool.eq_iff_iff]; simp_all [namB] <;> omega), rfl⟩)
      · skip
        refine WL.g rfl (g93) rfl (o_fa 0 TI26 rfl TI3 rfl h2 ?_)
        refine WL.g rfl (g93) rfl (o_ld TI3 rfl rfl (cell_of hC2 rfl) ?_)
        refine WL.g rfl (g93) rfl (o_ne rfl rfl ?_)
        refine WL.g rfl (g93) rfl (o_mvh (show _ = Value.bool _ from rfl) ?_)
        refine WL.sp 12 rfl (fun g97 => ?_) (fun g97 => ?_)
        · skip
          refine WL.g rfl (g97) rfl (o_fa 2 TI26 rfl TI9 rfl h2 ?_)
          refine WL.g rfl (g97) rfl (o_ld TI9 rfl rfl (cell_of hC2 rfl) ?_)
          refine WL.g rfl (g97) rfl (o_eqT rfl rfl ?_)
          refine WL.g rfl (g93) rfl (o_pickA rfl rfl ?_)
          refine WL.c rfl (o_pickO rfl rfl ?_)
          refine WL.c rfl (o_ash (show _ = Value.bool _ from rfl) ?_)
          exact WL.nil (⟨h1, h2, h5, congrArg Value.bool (by rw [Bool.eq_iff_iff]; simp_all [namB] <;> omega), rfl⟩)
        · skip
          refine WL.s rfl (g97) rfl ?_
          refine WL.s rfl (g97) rfl ?_
          refine WL.s rfl (g97) rfl ?_
          refine WL.g rfl (g93) rfl (o_pickF rfl (g97) ?_)
          refine WL.c rfl (o_pickO rfl rfl ?_)
          refine WL.c rfl (o_ash (show _ = Value.bool _ from rfl) ?_)
          exact WL.nil (⟨h1, h2, h5, congrArg Value.bool (by rw [Bool.eq_iff_iff]; simp_all [namB] <;> omega), rfl⟩)
    · skip
      refine WL.s rfl (g88) rfl ?_
      refine WL.s rfl (g88) rfl ?_
      refine WL.s rfl (g88) rfl ?_
      refine WL.c rfl (o_pickF rfl (g88) ?_)
      refine WL.c rfl (o_mvh (show _ = Value.bool _ from rfl) ?_)
      refine WL.g rfl (rfl) rfl (o_fa 0 TI26 rfl TI3 rfl h2 ?_)
      refine WL.g rfl (rfl) rfl (o_ld TI3 rfl rfl (cell_of hC2 rfl) ?_)
      refine WL.g rfl (rfl) rfl (o_ne rfl rfl ?_)
      refine WL.g rfl (rfl) rfl (o_mvh (show _ = Value.bool _ from rfl) ?_)
      refine WL.sp 12 rfl (fun g97 => ?_) (fun g97 => ?_)
      · skip
        refine WL.g rfl (g97) rfl (o_fa 2 TI26 rfl TI9 rfl h2 ?_)
        refine WL.g rfl (g97) rfl (o_ld TI9 rfl rfl (cell_of hC2 rfl) ?_)
        refine WL.g rfl (g97) rfl (o_eqT rfl rfl ?_)
        refine WL.g rfl (rfl) rfl (o_pickA rfl rfl ?_)
        refine WL.c rfl (o_pickO rfl rfl ?_)
        refine WL.c rfl (o_ash (show _ = Value.bool _ from rfl) ?_)
        exact WL.nil (⟨h1, h2, h5, congrArg Value.bool (by rw [Bool.eq_iff_iff]; simp_all [namB] <;> omega), rfl⟩)
      · skip
        refine WL.s rfl (g97) rfl ?_
        refine WL.s rfl (g97) rfl ?_
        refine WL.s rfl (g97) rfl ?_
        refine WL.g rfl (rfl) rfl (o_pickF rfl (g97) ?_)
        refine WL.c rfl (o_pickO rfl rfl ?_)
        refine WL.c rfl (o_ash (show _ = Value.bool _ from rfl) ?_)
        exact WL.nil (⟨h1, h2, h5, congrArg Value.bool (by rw [Bool.eq_iff_iff]; simp_all [namB] <;> omega), rfl⟩)
  rintro e w ⟨h1, h2, h5, h6, hw⟩
  subst hw
  refine W.seq ?_
  refine W.region ?_
  refine WL.cut (fun e1 w1 => e1 1 = .int .i64 above ∧ e1 2 = .pointer (some ⟨c2, 0, none⟩) ∧ e1 5 = .bool (okB x) ∧ e1 6 = .bool (namB x) ∧ e1 7 = .bool (labB x above) ∧ w1 = w) ?_ ?_
  · -- region 19
    refine WL.c rfl (o_mvh h1 ?_)
    refine WL.c rfl (o_eq rfl rfl ?_)
    refine WL.c rfl (o_mvh (show _ = Value.bool _ from rfl) ?_)
    refine WL.sp 2 rfl (fun g105 => ?_) (fun g105 => ?_)
    · skip
      refine WL.g rfl (g105) rfl (o_fa 3 TI26 rfl TI9 rfl h2 ?_)
      refine WL.g rfl (g105) rfl (o_ld TI9 rfl rfl (cell_of hC2 rfl) ?_)
      refine WL.g rfl (g105) rfl (o_call Try.call59 (lc rfl ln) ((name_spec x.label _ hl).mono ?_))
      rintro v108 w108 ⟨rfl, rfl⟩
      refine WL.c rfl (o_pickA rfl rfl ?_)
      refine WL.c rfl (o_mvh (show _ = Value.bool _ from rfl) ?_)
      refine WL.sp 7 rfl (fun g110 => ?_) (fun g110 => ?_)
      · skip
        refine WL.s rfl (g110) rfl ?_
        refine WL.s rfl (g110) rfl ?_
        refine WL.s rfl (g110) rfl ?_
        refine WL.z rfl rfl ?_
        refine WL.z rfl rfl ?_
        refine WL.z rfl rfl ?_
        refine WL.s rfl (g110) rfl ?_
        refine WL.c rfl (o_pickT rfl (g110) ?_)
        refine WL.c rfl (o_ash (show _ = Value.bool _ from rfl) ?_)
        exact WL.nil (⟨h1, h2, h5, h6, congrArg Value.bool (by rw [Bool.eq_iff_iff]; simp_all [labB] <;> omega), rfl⟩)
      · skip
        refine WL.g rfl (g110) rfl (o_mvh h1 ?_)
        refine WL.g rfl (g110) rfl (o_ne rfl rfl ?_)
        refine WL.g rfl (g110) rfl (o_mvh (show _ = Value.bool _ from rfl) ?_)
        refine WL.sp 10 rfl (fun g113 => ?_) (fun g113 => ?_)
        · skip
          refine WL.g rfl (g113) rfl (o_fa 3 TI26 rfl TI9 rfl h2 ?_)
          refine WL.g rfl (g113) rfl (o_ld TI9 rfl rfl (cell_of hC2 rfl) ?_)
          refine WL.g rfl (g113) rfl (o_eqT rfl rfl ?_)
          refine WL.g rfl (g110) rfl (o_pickA rfl rfl ?_)
          refine WL.c rfl (o_pickO rfl rfl ?_)
          refine WL.c rfl (o_ash (show _ = Value.bool _ from rfl) ?_)
          exact WL.nil (⟨h1, h2, h5, h6, congrArg Value.bool (by rw [Bool.eq_iff_iff]; simp_all [labB] <;> omega), rfl⟩)
        · skip
          refine WL.s rfl (g113) rfl ?_
          refine WL.s rfl (g113) rfl ?_
          refine WL.s rfl (g113) rfl ?_
          refine WL.g rfl (g110) rfl (o_pickF rfl (g113) ?_)
          refine WL.c rfl (o_pickO rfl rfl ?_)
          refine WL.c rfl (o_ash (show _ = Value.bool _ from rfl) ?_)
          exact WL.nil (⟨h1, h2, h5, h6, congrArg Value.bool (by rw [Bool.eq_iff_iff]; simp_all [labB] <;> omega), rfl⟩)
    · skip
      refine WL.s rfl (g105) rfl ?_
      refine WL.s rfl (g105) rfl ?_
      refine WL.s rfl (g105) rfl ?_
      refine WL.c rfl (o_pickF rfl (g105) ?_)
      refine WL.c rfl (o_mvh (show _ = Value.bool _ from rfl) ?_)
      refine WL.g rfl (rfl) rfl (o_mvh h1 ?_)
      refine WL.g rfl (rfl) rfl (o_ne rfl rfl ?_)
      refine WL.g rfl (rfl) rfl (o_mvh (show _ = Value.bool _ from rfl) ?_)
      refine WL.sp 10 rfl (fun g113 => ?_) (fun g113 => ?_)
      · skip
        refine WL.g rfl (g113) rfl (o_fa 3 TI26 rfl TI9 rfl h2 ?_)
        refine WL.g rfl (g113) rfl (o_ld TI9 rfl rfl (cell_of hC2 rfl) ?_)
        refine WL.g rfl (g113) rfl (o_eqT rfl rfl ?_)
        refine WL.g rfl (rfl) rfl (o_pickA rfl rfl ?_)
        refine WL.c rfl (o_pickO rfl rfl ?_)
        refine WL.c rfl (o_ash (show _ = Value.bool _ from rfl) ?_)
        exact WL.nil (⟨h1, h2, h5, h6, congrArg Value.bool (by rw [Bool.eq_iff_iff]; simp_all [labB] <;> omega), rfl⟩)
      · skip
        refine WL.s rfl (g113) rfl ?_
        refine WL.s rfl (g113) rfl ?_
        refine WL.s rfl (g113) rfl ?_
        refine WL.g rfl (rfl) rfl (o_pickF rfl (g113) ?_)
        refine WL.c rfl (o_pickO rfl rfl ?_)
        refine WL.c rfl (o_ash (show _ = Value.bool _ from rfl) ?_)
        exact WL.nil (⟨h1, h2, h5, h6, congrArg Value.bool (by rw [Bool.eq_iff_iff]; simp_all [labB] <;> omega), rfl⟩)
  rintro e w ⟨h1, h2, h5, h6, h7, hw⟩
  subst hw
  refine W.seq ?_
  refine W.region ?_
  refine WL.cut (fun e1 w1 => e1 5 = .bool (okB x) ∧ e1 6 = .bool (namB x) ∧ e1 7 = .bool (labB x above) ∧ e1 8 = .bool (tagB x above) ∧ w1 = w) ?_ ?_
  · -- region 20
    refine WL.c rfl (o_fa 4 TI26 rfl TI3 rfl h2 ?_)
    refine WL.c rfl (o_ld TI3 rfl rfl (cell_of hC2 rfl) ?_)
    refine WL.c rfl (o_eq rfl rfl ?_)
    refine WL.c rfl (o_mvh (show _ = Value.bool _ from rfl) ?_)
    refine WL.sp 3 rfl (fun g122 => ?_) (fun g122 => ?_)
    · skip
      refine WL.s rfl (g122) rfl ?_
      refine WL.s rfl (g122) rfl ?_
      refine WL.s rfl (g122) rfl ?_
      refine WL.z rfl rfl ?_
      refine WL.z rfl rfl ?_
      refine WL.z rfl rfl ?_
      refine WL.s rfl (g122) rfl ?_
      refine WL.s rfl (g122) rfl ?_
      refine WL.z rfl rfl ?_
      refine WL.z rfl rfl ?_
      refine WL.z rfl rfl ?_
      refine WL.s rfl (g122) rfl ?_
      refine WL.c rfl (o_pickT rfl (g122) ?_)
      refine WL.c rfl (o_ash (show _ = Value.bool _ from rfl) ?_)
      exact WL.nil (⟨h5, h6, h7, congrArg Value.bool (by rw [Bool.eq_iff_iff]; simp_all [tagB] <;> omega), rfl⟩)
    · skip
      refine WL.g rfl (g122) rfl (o_mvh h1 ?_)
      refine WL.g rfl (g122) rfl (o_eq rfl rfl ?_)
      refine WL.g rfl (g122) rfl (o_mvh (show _ = Value.bool _ from rfl) ?_)
      refine WL.sp 6 rfl (fun g125 => ?_) (fun g125 => ?_)
      · skip
        refine WL.g rfl (g125) rfl (o_fa 4 TI26 rfl TI3 rfl h2 ?_)
        refine WL.g rfl (g125) rfl (o_ld TI3 rfl rfl (cell_of hC2 rfl) ?_)
        refine WL.g rfl (g125) rfl (o_gt rfl rfl ?_)
        refine WL.g rfl (g122) rfl (o_pickA rfl rfl ?_)
        refine WL.g rfl (g122) rfl (o_mvh (show _ = Value.bool _ from rfl) ?_)
        refine WL.sp 11 rfl (fun g130 => ?_) (fun g130 => ?_)
        · skip
          refine WL.g rfl (g130) rfl (o_fa 4 TI26 rfl TI3 rfl h2 ?_)
          refine WL.g rfl (g130) rfl (o_ld TI3 rfl rfl (cell_of hC2 rfl) ?_)
          refine WL.g rfl (g130) rfl (o_le rfl rfl ?_)
          refine WL.g rfl (g122) rfl (o_pickA rfl rfl ?_)
          refine WL.c rfl (o_pickO rfl rfl ?_)
          refine WL.c rfl (o_ash (show _ = Value.bool _ from rfl) ?_)
          exact WL.nil (⟨h5, h6, h7, congrArg Value.bool (by rw [Bool.eq_iff_iff]; simp_all [tagB] <;> omega), rfl⟩)
        · skip
          refine WL.s rfl (g130) rfl ?_
          refine WL.s rfl (g130) rfl ?_
          refine WL.s rfl (g130) rfl ?_
          refine WL.g rfl (g122) rfl (o_pickF rfl (g130) ?_)
          refine WL.c rfl (o_pickO rfl rfl ?_)
          refine WL.c rfl (o_ash (show _ = Value.bool _ from rfl) ?_)
          exact WL.nil (⟨h5, h6, h7, congrArg Value.bool (by rw [Bool.eq_iff_iff]; simp_all [tagB] <;> omega), rfl⟩)
      · skip
        refine WL.s rfl (g125) rfl ?_
        refine WL.s rfl (g125) rfl ?_
        refine WL.s rfl (g125) rfl ?_
        refine WL.g rfl (g122) rfl (o_pickF rfl (g125) ?_)
        refine WL.g rfl (g122) rfl (o_mvh (show _ = Value.bool _ from rfl) ?_)
        refine WL.s rfl (rfl) rfl ?_
        refine WL.s rfl (rfl) rfl ?_
        refine WL.s rfl (rfl) rfl ?_
        refine WL.g rfl (g122) rfl (o_pickF rfl (rfl) ?_)
        refine WL.c rfl (o_pickO rfl rfl ?_)
        refine WL.c rfl (o_ash (show _ = Value.bool _ from rfl) ?_)
        exact WL.nil (⟨h5, h6, h7, congrArg Value.bool (by rw [Bool.eq_iff_iff]; simp_all [tagB] <;> omega), rfl⟩)
  rintro e w ⟨h5, h6, h7, h8, hw⟩
  subst hw
  refine W.seq ?_
  refine W.region ?_
  refine WL.c rfl (o_mvh h5 ?_)
  refine WL.c rfl (o_mvh (show _ = Value.bool _ from rfl) ?_)
  refine WL.sp 1 rfl (fun g137 => ?_) (fun g137 => ?_)
  · skip
    refine WL.g rfl (g137) rfl (o_mvh h6 ?_)
    refine WL.c rfl (o_pickA rfl rfl ?_)
    refine WL.c rfl (o_mvh (show _ = Value.bool _ from rfl) ?_)
    refine WL.sp 4 rfl (fun g140 => ?_) (fun g140 => ?_)
    · skip
      refine WL.g rfl (g140) rfl (o_mvh h7 ?_)
      refine WL.c rfl (o_pickA rfl rfl ?_)
      refine WL.c rfl (o_mvh (show _ = Value.bool _ from rfl) ?_)
      refine WL.sp 7 rfl (fun g143 => ?_) (fun g143 => ?_)
      · skip
        refine WL.g rfl (g143) rfl (o_mvh h8 ?_)
        refine WL.c rfl (o_pickA rfl rfl ?_)
        refine WL.c rfl (o_ash (show _ = Value.bool _ from rfl) ?_)
        refine WL.nil ?_
        refine W.ret ?_
        refine ret1v rfl (show _ = Value.bool _ from rfl) ?_
        exact ⟨congrArg Value.bool (by first | rfl | (rw [rightB, Bool.eq_iff_iff]; simp_all; done) | (rw [rightB]; simp_all; done)), hx2⟩
      · skip
        refine WL.s rfl (g143) rfl ?_
        refine WL.c rfl (o_pickF rfl (g143) ?_)
        refine WL.c rfl (o_ash (show _ = Value.bool _ from rfl) ?_)
        refine WL.nil ?_
        refine W.ret ?_
        refine ret1v rfl (show _ = Value.bool _ from rfl) ?_
        exact ⟨congrArg Value.bool (by first | rfl | (rw [rightB, Bool.eq_iff_iff]; simp_all; done) | (rw [rightB]; simp_all; done)), hx2⟩
    · skip
      refine WL.s rfl (g140) rfl ?_
      refine WL.c rfl (o_pickF rfl (g140) ?_)
      refine WL.c rfl (o_mvh (show _ = Value.bool _ from rfl) ?_)
      refine WL.s rfl (rfl) rfl ?_
      refine WL.c rfl (o_pickF rfl (rfl) ?_)
      refine WL.c rfl (o_ash (show _ = Value.bool _ from rfl) ?_)
      refine WL.nil ?_
      refine W.ret ?_
      refine ret1v rfl (show _ = Value.bool _ from rfl) ?_
      exact ⟨congrArg Value.bool (by first | rfl | (rw [rightB, Bool.eq_iff_iff]; simp_all; done) | (rw [rightB]; simp_all; done)), hx2⟩
  · skip
    refine WL.s rfl (g137) rfl ?_
    refine WL.c rfl (o_pickF rfl (g137) ?_)
    refine WL.c rfl (o_mvh (show _ = Value.bool _ from rfl) ?_)
    refine WL.s rfl (rfl) rfl ?_
    refine WL.c rfl (o_pickF rfl (rfl) ?_)
    refine WL.c rfl (o_mvh (show _ = Value.bool _ from rfl) ?_)
    refine WL.s rfl (rfl) rfl ?_
    refine WL.c rfl (o_pickF rfl (rfl) ?_)
    refine WL.c rfl (o_ash (show _ = Value.bool _ from rfl) ?_)
    refine WL.nil ?_
    refine W.ret ?_
    refine ret1v rfl (show _ = Value.bool _ from rfl) ?_
    exact ⟨congrArg Value.bool (by first | rfl | (rw [rightB, Bool.eq_iff_iff]; simp_all; done) | (rw [rightB]; simp_all; done)), hx2⟩

structure Opn where
  kind : Int
  left : Int
  deep : Int
def opV (o : Opn) : List Value := [.int .i64 o.kind, .int .i64 o.left, .int .i64 o.deep]
def opsR (S : List Opn) : List Value := S.reverse.flatMap opV
def popZ (S : List Opn) : List Opn := S.dropWhile (fun o => decide (o.left = 0))
def manyB (x : Ex) : Bool := (decide (x.kind = 8) && decide (64 < x.kids)) || (decide (x.kind = 7) && decide (64 < x.kids))
def leftB (S : List Opn) : Bool := S.any (fun o => decide (0 < o.left))
/-- the nodes of an expression; the open ones, the last one first -/
def chkE : List Opn → Nat → List Ex → Nat × Nat
  | S, i, [] => if leftB S = true then (i, 62) else (0, 0)
  | S, i, x :: xs => match popZ S with
    | [] => (i, 62)
    | o :: S' => if 16 < o.deep then (i, 61) else if manyB x = true then (i, 5) else if rightB x o.kind = false then (i, 62)
      else chkE (⟨x.kind, x.kids, o.deep + 1⟩ :: { o with left := o.left - 1 } :: S') (i + 1) xs
theorem chkE_nil {S : List Opn} {i : Nat} : chkE S i [] = if leftB S = true then (i, 62) else (0, 0) := rfl
theorem chkE_cons {S : List Opn} {i : Nat} {x : Ex} {xs : List Ex} : chkE S i (x :: xs) = match popZ S with
    | [] => (i, 62)
    | o :: S' => if 16 < o.deep then (i, 61) else if manyB x = true then (i, 5) else if rightB x o.kind = false then (i, 62)
      else chkE (⟨x.kind, x.kids, o.deep + 1⟩ :: { o with left := o.left - 1 } :: S') (i + 1) xs := rfl
theorem chkE_z {S : List Opn} {i : Nat} {x : Ex} {xs : List Ex} (h : popZ S = []) : chkE S i (x :: xs) = (i, 62) := by rw [chkE_cons, h]
theorem chkE_o {S S' : List Opn} {o : Opn} {i : Nat} {x : Ex} {xs : List Ex} (h : popZ S = o :: S') : chkE S i (x :: xs) = if 16 < o.deep then (i, 61) else if manyB x = true then (i, 5) else if rightB x o.kind = false then (i, 62)
      else chkE (⟨x.kind, x.kids, o.deep + 1⟩ :: { o with left := o.left - 1 } :: S') (i + 1) xs := by rw [chkE_cons, h]
def OkS : List Opn → Prop
  | [] => True
  | o :: S => o.deep = (S.length : Int) ∧ 0 ≤ o.left ∧ o.left ≤ 64 ∧ OkS S
theorem OkS_cons {o : Opn} {S : List Opn} : OkS (o :: S) ↔ o.deep = (S.length : Int) ∧ 0 ≤ o.left ∧ o.left ≤ 64 ∧ OkS S := Iff.rfl
theorem opsR_cons (o : Opn) (S : List Opn) : opsR (o :: S) = opsR S ++ opV o := by simp [opsR]
theorem opsR_len (S : List Opn) : (opsR S).length = S.length * 3 := by
  induction S with
  | nil => rfl
  | cons o S ih => rw [opsR_cons, List.length_append, ih, List.length_cons]; show _ + 3 = _; omega
theorem opsR_get {o : Opn} {S : List Opn} {k : Nat} (v : Value) (h : (opV o)[k]? = some v) : (opsR (o :: S))[S.length * 3 + k]? = some v := by
  rw [opsR_cons, List.getElem?_append_right (by rw [opsR_len]; omega), opsR_len, Nat.add_sub_cancel_left, h]
theorem opsR_take {o : Opn} {S : List Opn} : (opsR (o :: S)).take (S.length * 3) = opsR S := by
  rw [opsR_cons]; exact List.take_left' (opsR_len S)
theorem opsR_set {o : Opn} {S : List Opn} {z : Int} : (opsR (o :: S)).set (S.length * 3 + 1) (.int .i64 z) = opsR ({ o with left := z } :: S) := by
  rw [opsR_cons, opsR_cons, List.set_append_right _ _ (by rw [opsR_len]; omega), opsR_len, Nat.add_sub_cancel_left]
  rfl
theorem leftB_at (S : List Opn) : ∀ k (hk : k < S.length), leftB (S.reverse.drop k).reverse = (decide (0 < (S.reverse[k]'(by simpa using hk)).left) || leftB (S.reverse.drop (k + 1)).reverse) := by
  intro k hk
  rw [← List.getElem_cons_drop (by simpa using hk), List.reverse_cons]
  simp [leftB, Bool.or_comm]
theorem ops_at {S : List Opn} {k : Nat} (hk : k < S.length) : ((opsR S).drop (k * 3)).take 3 = opV (S.reverse[k]'(by simpa using hk)) := by
  have : ∀ (l : List Opn) (k : Nat) (hk : k < l.length), ((l.flatMap opV).drop (k * 3)).take 3 = opV l[k] := by
    intro l
    induction l with
    | nil => intro k hk; simp at hk
    | cons t ts ih =>
      intro k hk
      have h5 : (opV t).length = 3 := rfl
      cases k with
      | zero => rw [Nat.zero_mul, List.drop_zero, List.flatMap_cons]; exact List.take_left' h5
      | succ k =>
        have h1 : (k + 1) * 3 - (opV t).length = k * 3 := by rw [h5]; omega
        have := ih k (by simpa using hk)
        rw [List.flatMap_cons, List.drop_append, List.drop_eq_nil_of_le (by rw [h5]; omega), List.nil_append, h1]
        exact this
  exact this _ _ _
theorem exs_at (ts : List Ex) : ∀ (k : Nat) (hk : k < ts.length), ((exs ts).drop (k * 7)).take 7 = exV ts[k] := by
  induction ts with
  | nil => intro k hk; simp at hk
  | cons t ts ih =>
    intro k hk
    have h5 : (exV t).length = 7 := rfl
    cases k with
    | zero => rw [Nat.zero_mul, List.drop_zero, exs, List.flatMap_cons]; exact List.take_left' h5
    | succ k =>
      have h1 : (k + 1) * 7 - (exV t).length = k * 7 := by rw [h5]; omega
      have := ih k (by simpa using hk)
      rw [exs, List.flatMap_cons, List.drop_append, List.drop_eq_nil_of_le (by rw [h5]; omega), List.nil_append, h1]
      exact this
theorem Sl.exq {w : World} {v : Value} {ts : List Ex} (h : Sl w 7 v ts.length (exs ts)) {k : Nat} (hk : k < ts.length) : ∃ b o c, v = .slice (some ⟨b, o, none⟩) ts.length c ∧ Cells w b (o + k * 7) (exV ts[k]) := by
  rcases h.val with ⟨hz, h0⟩ | ⟨b, o, c, rfl, hnc, hc⟩
  · omega
  · exact ⟨b, o, c, rfl, by rw [← exs_at ts k hk]; exact hc.sub _ _⟩
def slen : Value → Nat
  | .slice _ n _ => n
  | _ => 0
theorem popZ_z {o : Opn} {S : List Opn} (h : o.left = 0) : popZ (o :: S) = popZ S := by simp [popZ, h]
theorem popZ_n {o : Opn} {S : List Opn} (h : ¬ o.left = 0) : popZ (o :: S) = o :: S := by simp [popZ, h]
theorem rightB_kids {x : Ex} {k : Int} (h : rightB x k = true) (hm : manyB x = false) : 0 ≤ x.kids ∧ x.kids ≤ 64 := by
  simp only [rightB, Bool.and_eq_true] at h
  have h1 := h.1.1.1
  unfold okB at h1
  simp only [manyB, Bool.or_eq_false_iff, Bool.and_eq_false_iff, decide_eq_false_iff_not] at hm
  repeat' split at h1
  all_goals first | (simp only [Bool.and_eq_true, decide_eq_true_eq] at h1; omega) | cases h1

theorem own_form {w : World} {base : Nat} {el : TypeId} {s n : Nat} {v : Value} {xs : List Value} (h : w.ownsRow base el s v n xs) : ∃ a c, v = .slice a n c ∧ n ≤ c := by
  rcases h.2 with ⟨rfl, rfl⟩ | ⟨g, cap, cur, rfl, hb, hc, hnc, r⟩
  · exact ⟨none, 0, rfl, Nat.le_refl _⟩
  · exact ⟨_, cap, rfl, hnc⟩
theorem own_take {w : World} {base : Nat} {el : TypeId} {s n m g cap : Nat} {xs : List Value} (h : w.ownsRow base el s (.slice (some ⟨g, 0, none⟩) n cap) n xs) (hm : m ≤ n) : w.ownsRow base el s (.slice (some ⟨g, 0, none⟩) m cap) m (xs.take (m * s)) := by
  obtain ⟨cap', cur, hv, hb, hc, hnc, hcm, hcs, ht⟩ := own_blk h rfl
  simp only [Value.slice.injEq] at hv
  obtain ⟨-, -, rfl⟩ := hv
  have hms : m * s ≤ n * s := Nat.mul_le_mul_right _ hm
  refine ⟨by rw [List.length_take, h.1]; omega, .inr ⟨g, cap, cur, rfl, hb, hc, by omega, hcm, hcs, ?_⟩⟩
  rw [← ht, List.take_take, Nat.min_eq_left hms]
theorem sliced0 (g h c s : Nat) : sliced (some ⟨g, 0, none⟩) 0 h c s = .slice (some ⟨g, 0, none⟩) h c := by
  unfold sliced
  split <;> simp [Addr.add]


set_option maxHeartbeats 4000000 in
theorem checked_spec (l : List Ex) (v : Value) (w0 : World) (hS : Sl w0 7 v l.length (exs l)) (hl : l.length ≤ 4611686018427387904) (hln : ∀ x ∈ l, x.name.length ≤ 9223372036854775807 ∧ x.label.length ≤ 9223372036854775807) : Ca Try.prog 60 #[v] w0 (fun r w' => r = .tuple #[.int .i64 ((chkE [⟨0, 1, 0⟩] 0 l).1 : Int), .int .i64 ((chkE [⟨0, 1, 0⟩] 0 l).2 : Int)] ∧ Ext w0 w') := by
  have hx : Ext w0 w0 := Only.refl _ _
  have hS0 := hS
  refine Ca.of Try.func60 Try.ntmps60 rfl rfl ?_
  refine W.seq ?_
  refine W.region ?_
  refine WL.c rfl (o_ash (show _ = Value.int _ _ from rfl) ?_)
  refine WL.c rfl (o_ash (show _ = Value.int _ _ from rfl) ?_)
  refine WL.nil ?_
  refine W.seq ?_
  refine W.region ?_
  refine WL.c rfl (o_bldC (cs := [(.int .i64 0), (.int .i64 1), (.int .i64 0)]) TI107 (Sizes.cons TI3 (Sizes.cons TI3 (Sizes.cons TI3 Sizes.nil))) rfl (lcp (show _ = Value.int _ _ from rfl) lnp) rfl rfl ?_)
  refine WL.c rfl (o_bs1 TI108 TI107 (show _ = Value.agg #[.int .i64 0, .int .i64 1, .int .i64 0] from rfl) (by decide) (by decide) rfl ?_)
  have hown : (w0.alloc (.cells (Value.agg #[.int .i64 0, .int .i64 1, .int .i64 0]).cells 107)).ownsRow w0.heap.size 107 3 (.slice (some ⟨w0.heap.size, 0, none⟩) 1 1) [(⟨0, 1, 0⟩ : Opn)].length (opsR [⟨0, 1, 0⟩]) := own_new1 rfl
  replace hx : Ext w0 (w0.alloc (.cells (Value.agg #[.int .i64 0, .int .i64 1, .int .i64 0]).cells 107)) := Only.alloc w0 _
  replace hS := hS.ext hx
  generalize w0.alloc (.cells (Value.agg #[.int .i64 0, .int .i64 1, .int .i64 0]).cells 107) = w1 at *
  refine WL.c rfl (o_ash (by first | exact (show _ = Value.slice _ _ _ from rfl) | exact rfl) ?_)
  refine WL.nil ?_
  refine W.seq ?_
  refine W.seq ?_
  refine W.region ?_
  refine WL.c rfl (o_mvh (by first | exact (show _ = Value.slice _ _ _ from rfl) | exact rfl) ?_)
  refine WL.c rfl (o_lenR TI37 rfl hS ?_)
  refine WL.c rfl (o_mvh (show _ = Value.int _ _ from rfl) ?_)
  refine WL.nil ?_
  refine W.block ?_
  refine W.loop (fun e w => ∃ (i : Nat) (S : List Opn) (sv : Value), i ≤ l.length ∧ e 0 = v ∧ e 4 = sv ∧ e 12 = v ∧ e 13 = .int .i64 (l.length : Int) ∧ e 14 = .int .i64 (i : Int) ∧ w.ownsRow w0.heap.size 107 3 sv S.length (opsR S) ∧ OkS S ∧ S.length ≤ 18 ∧ chkE [⟨0, 1, 0⟩] 0 l = chkE S i (l.drop i) ∧ Ext w0 w) (fun e w => l.length - (intOf (e 14)).toNat) ?_ ?_
  · refine ⟨0, [⟨0, 1, 0⟩], _, Nat.zero_le _, rfl, rfl, rfl, rfl, rfl, hown, ⟨rfl, by decide, by decide, trivial⟩, by decide, rfl, hx⟩
  rintro e w ⟨i, S0, sv0, hi, h0, h4, h12, h13, h14, hown, hok, hSl, hres, hx⟩
  have hm14 := h14
  have hSw := hS0.ext hx
  refine W.seq ?_
  refine W.region ?_
  refine WL.c rfl (o_lt h14 h13 ?_)
  refine WL.nil ?_
  refine W.seq ?_
  refine W.cond rfl (fun c15 => ?_) (fun c15 => ?_)
  · try simp only [decide_eq_true_eq, decide_eq_false_iff_not, Bool.not_eq_true', Bool.not_eq_false', Bool.and_eq_true, Bool.or_eq_true, Bool.and_eq_false_iff, Bool.or_eq_false_iff] at c15
    have hil : i < l.length := by omega
    obtain ⟨tb, to_, tc, rfl, htc⟩ := Sl.exq hSw hil
    have hlc : l.drop i = l[i] :: l.drop (i + 1) := (List.getElem_cons_drop hil).symm
    refine W.skip ?_
    refine W.seq ?_
    refine W.block ?_
    refine W.seq ?_
    refine W.region ?_
    refine WL.c rfl (o_mvh h14 ?_)
    refine WL.c rfl (o_ixB TI37 TI26 h12 h14 (by omega) ?_)
    refine WL.c rfl (o_ldA TI26 rfl rfl htc rfl ?_)
    have hx0 := hx
    have hown0 := hown
    refine WL.c rfl (o_alB TI26 ?_)
    intro w6 hC6 hx6 hs6
    refine WL.c rfl (o_ash (show _ = Value.int _ _ from rfl) ?_)
    refine WL.u (o_stA TI26 rfl (show _ = Value.agg (exV l[i]).toArray from rfl) rfl rfl hC6 rfl ?_)
    intro w7 hC7 ho7 hs7
    have hxb := Ext.own hx6 (Nat.le_refl _) ho7
    clear hC6 hx6 hs6 ho7 hs7 hSw htc
    replace hown := own_ext hown hxb
    replace hx := hx.tr hxb
    obtain ⟨c6, hc6⟩ : ∃ c, c = w.heap.size := ⟨_, rfl⟩
    have hc6l : w0.heap.size ≤ c6 ∧ ¬ sv0.ownBlock = some c6 := by
      subst hc6
      exact ⟨by have := hx0.size; omega, fun hk => by have := (hown0.lt _ hk).2; omega⟩
    rw [← hc6] at hC7 ⊢
    refine WL.nil ?_
    refine W.seq ?_
    refine W.block ?_
    refine W.loop (fun e w => ∃ (S : List Opn) (sv : Value), e 0 = Value.slice (some ⟨tb, to_, none⟩) l.length tc ∧ e 4 = sv ∧ e 5 = .int .i64 (i : Int) ∧ e 6 = .pointer (some ⟨c6, 0, none⟩) ∧ e 12 = Value.slice (some ⟨tb, to_, none⟩) l.length tc ∧ e 13 = .int .i64 (l.length : Int) ∧ e 14 = .int .i64 (i : Int) ∧ w.ownsRow w0.heap.size 107 3 sv S.length (opsR S) ∧ OkS S ∧ S.length ≤ 18 ∧ popZ S0 = popZ S ∧ (sv.ownBlock = sv0.ownBlock) ∧ w.heap[c6]? = some (.cells (exV l[i]).toArray 26 (0, 0)) ∧ Ext w0 w) (fun e w => slen (e 4)) ?_ ?_
    · exact ⟨S0, sv0, h0, h4, rfl, rfl, h12, h13, h14, hown, hok, hSl, rfl, rfl, hC7, hx⟩
    rintro e w ⟨S, sv, h0, h4, h5, h6, h12, h13, h14, hown, hok, hSl, hpz, hsb, hC7, hx⟩
    have hm4 := h4
    refine W.seq ?_
    refine W.seq ?_
    rcases S with _ | ⟨o, S⟩
    · skip
      have h062 := hres.trans (by rw [hlc, chkE_z hpz])
      refine W.region ?_
      refine WL.c rfl (o_mvh h4 ?_)
      refine WL.c rfl (o_lenR TI108 rfl (Sl.own hown) ?_)
      refine WL.c rfl (o_gt rfl rfl ?_)
      refine WL.c rfl (o_mvh (show _ = Value.bool _ from rfl) ?_)
      refine WL.s rfl (decide_eq_false (by simp)) rfl ?_
      refine WL.s rfl (decide_eq_false (by simp)) rfl ?_
      refine WL.s rfl (decide_eq_false (by simp)) rfl ?_
      refine WL.s rfl (decide_eq_false (by simp)) rfl ?_
      refine WL.s rfl (decide_eq_false (by simp)) rfl ?_
      refine WL.s rfl (decide_eq_false (by simp)) rfl ?_
      refine WL.s rfl (decide_eq_false (by simp)) rfl ?_
      refine WL.s rfl (decide_eq_false (by simp)) rfl ?_
      refine WL.c rfl (o_pickF rfl (decide_eq_false (by simp)) ?_)
      refine WL.nil ?_
      refine W.condF' rfl (rfl) ?_
      refine W.exit ?_
      refine W.seq ?_
      refine W.seq ?_
      refine W.region ?_
      refine WL.c rfl (o_mvh h4 ?_)
      refine WL.c rfl (o_lenR TI108 rfl (Sl.own hown) ?_)
      refine WL.c rfl (o_eq rfl rfl ?_)
      refine WL.nil ?_
      refine W.condT' rfl (by simp) ?_
      refine W.seq ?_
      refine W.region ?_
      refine WL.c rfl (o_mvh h5 ?_)
      refine WL.c rfl (o_ash (show _ = Value.int _ _ from rfl) ?_)
      refine WL.c rfl (o_ash (show _ = Value.int _ _ from rfl) ?_)
      refine WL.nil ?_
      refine W.ret ?_
      refine ret2v rfl (show _ = Value.int _ _ from rfl) (show _ = Value.int _ _ from rfl) ?_
      rw [h062]
      exact ⟨rfl, hx⟩
    · skip
      replace hown : w.ownsRow w0.heap.size 107 3 sv (S.length + 1) (opsR (o :: S)) := hown
      obtain ⟨g, cap, rfl, hgb⟩ := own_some hown (by omega)
      have hcap : S.length + 1 ≤ cap := by obtain ⟨_, _, hv, hh⟩ := own_form hown; cases hv; exact hh
      obtain ⟨hdp, hlo, hhi, hok2⟩ := OkS_cons.1 hok
      have hSl2 : S.length + 1 ≤ 18 := hSl
      have hcg : ¬ g = c6 := fun he => hc6l.2 (by rw [← hsb, he]; rfl)
      refine W.region ?_
      refine WL.c rfl (o_mvh h4 ?_)
      refine WL.c rfl (o_lenR TI108 rfl (Sl.own hown) ?_)
      refine WL.c rfl (o_gt rfl rfl ?_)
      refine WL.c rfl (o_mvh (show _ = Value.bool _ from rfl) ?_)
      refine WL.g rfl (decide_eq_true (by omega)) rfl (o_mvh h4 ?_)
      refine WL.g rfl (decide_eq_true (by omega)) rfl (o_mvh h4 ?_)
      refine WL.g rfl (decide_eq_true (by omega)) rfl (o_lenR TI108 rfl (Sl.own hown) ?_)
      refine WL.g rfl (decide_eq_true (by omega)) rfl (o_subi rfl rfl (by omega) ?_)
      refine WL.g rfl (decide_eq_true (by omega)) rfl (o_ixB (i := S.length) TI108 TI107 rfl (by show Value.int .i64 _ = _; congr 1; omega) (by omega) ?_)
      refine WL.g rfl (decide_eq_true (by omega)) rfl (o_fa 1 TI107 rfl TI3 rfl rfl ?_)
      refine WL.g rfl (decide_eq_true (by omega)) rfl (o_ld TI3 rfl rfl (own_cell hown (j := 0 + S.length * 3 + 1) (by rw [Nat.zero_add]; exact opsR_get _ rfl)) ?_)
      refine WL.g rfl (decide_eq_true (by omega)) rfl (o_eq rfl rfl ?_)
      refine WL.c rfl (o_pickA rfl rfl ?_)
      refine WL.nil ?_
      refine W.cond rfl (fun c31 => ?_) (fun c31 => ?_)
      · try simp only [decide_eq_true_eq, decide_eq_false_iff_not, Bool.not_eq_true', Bool.not_eq_false', Bool.and_eq_true, Bool.or_eq_true, Bool.and_eq_false_iff, Bool.or_eq_false_iff] at c31
        have hz : o.left = 0 := c31.2
        refine W.skip ?_
        refine W.block ?_
        refine W.region ?_
        refine WL.c rfl (o_mvh h4 ?_)
        refine WL.c rfl (o_mvh h4 ?_)
        refine WL.c rfl (o_lenR TI108 rfl (Sl.own hown) ?_)
        refine WL.c rfl (o_subi rfl rfl (by omega) ?_)
        refine WL.c rfl (o_slv (h := S.length) TI108 TI107 rfl Lo.n (Hi.s (by show Value.int .i64 _ = _; congr 1; omega)) (Nat.zero_le _) (by omega) ?_)
        rw [sliced0]
        have hown2 := own_take hown (m := S.length) (by omega)
        rw [opsR_take] at hown2
        refine WL.c rfl (o_ash (by first | exact (show _ = Value.slice _ _ _ from rfl) | exact rfl) ?_)
        refine WL.nil ?_
        refine ⟨⟨S, _, h0, rfl, h5, h6, h12, h13, h14, hown2, hok.2.2.2, by omega, by rw [hpz, popZ_z hz], hsb, hC7, hx⟩, ?_⟩
        rw [hm4]; show S.length < S.length + 1; omega
      · try simp only [decide_eq_true_eq, decide_eq_false_iff_not, Bool.not_eq_true', Bool.not_eq_false', Bool.and_eq_true, Bool.or_eq_true, Bool.and_eq_false_iff, Bool.or_eq_false_iff] at c31
        have hz : ¬ o.left = 0 := fun hz => by rcases c31 with c | c; omega; exact c hz
        have hpz2 := hpz.trans (popZ_n hz)
        have hres2 := hres.trans (by rw [hlc, chkE_o hpz2])
        refine W.exit ?_
        refine W.seq ?_
        refine W.seq ?_
        refine W.region ?_
        refine WL.c rfl (o_mvh h4 ?_)
        refine WL.c rfl (o_lenR TI108 rfl (Sl.own hown) ?_)
        refine WL.c rfl (o_eq rfl rfl ?_)
        refine WL.nil ?_
        refine W.condF' rfl (decide_eq_false (by omega)) ?_
        refine W.skip ?_
        refine W.seq ?_
        refine W.region ?_
        refine WL.c rfl (o_mvh h4 ?_)
        refine WL.c rfl (o_mvh h4 ?_)
        refine WL.c rfl (o_lenR TI108 rfl (Sl.own hown) ?_)
        refine WL.c rfl (o_subi rfl rfl (by omega) ?_)
        refine WL.c rfl (o_ixB (i := S.length) TI108 TI107 rfl (by show Value.int .i64 _ = _; congr 1; omega) (by omega) ?_)
        refine WL.c rfl (o_ash (by first | exact (show _ = Value.pointer _ from rfl) | exact rfl) ?_)
        refine WL.nil ?_
        refine W.seq ?_
        refine W.block ?_
        refine W.seq ?_
        refine W.region ?_
        refine WL.c rfl (o_mvh (by first | exact (show _ = Value.pointer _ from rfl) | exact rfl) ?_)
        refine WL.c rfl (o_nil rfl ?_)
        refine WL.c rfl (o_fa 2 TI107 rfl TI3 rfl rfl ?_)
        refine WL.c rfl (o_ld TI3 rfl rfl (own_cell hown (j := 0 + S.length * 3 + 2) (by rw [Nat.zero_add]; exact opsR_get _ rfl)) ?_)
        refine WL.c rfl (o_gt rfl rfl ?_)
        refine WL.c rfl (o_ash (show _ = Value.bool _ from rfl) ?_)
        refine WL.nil ?_
        refine W.cond rfl (fun c46 => ?_) (fun c46 => ?_)
        · try simp only [decide_eq_true_eq, decide_eq_false_iff_not, Bool.not_eq_true', Bool.not_eq_false', Bool.and_eq_true, Bool.or_eq_true, Bool.and_eq_false_iff, Bool.or_eq_false_iff] at c46
          have hdeep : 16 < o.deep := by omega
          rw [if_pos hdeep] at hres2
          refine W.seq ?_
          refine W.region ?_
          refine WL.c rfl (o_mvh h5 ?_)
          refine WL.c rfl (o_ash (show _ = Value.int _ _ from rfl) ?_)
          refine WL.c rfl (o_ash (show _ = Value.int _ _ from rfl) ?_)
          refine WL.nil ?_
          refine W.ret ?_
          refine ret2v rfl (show _ = Value.int _ _ from rfl) (show _ = Value.int _ _ from rfl) ?_
          rw [hres2]
          exact ⟨rfl, hx⟩
        · try simp only [decide_eq_true_eq, decide_eq_false_iff_not, Bool.not_eq_true', Bool.not_eq_false', Bool.and_eq_true, Bool.or_eq_true, Bool.and_eq_false_iff, Bool.or_eq_false_iff] at c46
          have hdeep : ¬ 16 < o.deep := by omega
          rw [if_neg hdeep] at hres2
          refine W.seq ?_
          refine W.seq ?_
          refine W.region ?_
          refine WL.c rfl (o_fa 0 TI26 rfl TI3 rfl h6 ?_)
          refine WL.c rfl (o_ld TI3 rfl rfl (cell_of hC7 rfl) ?_)
          refine WL.c rfl (o_eq rfl rfl ?_)
          refine WL.c rfl (o_mvh (show _ = Value.bool _ from rfl) ?_)
          refine WL.sp 3 rfl (fun g57 => ?_) (fun g57 => ?_)
          · skip
            refine WL.g rfl (g57) rfl (o_fa 5 TI26 rfl TI3 rfl h6 ?_)
            refine WL.g rfl (g57) rfl (o_ld TI3 rfl rfl (cell_of hC7 rfl) ?_)
            refine WL.g rfl (g57) rfl (o_gt rfl rfl ?_)
            refine WL.c rfl (o_pickA rfl rfl ?_)
            refine WL.c rfl (o_ash (show _ = Value.bool _ from rfl) ?_)
            refine WL.nil ?_
            refine W.cut (fun e1 w1 => e1 0 = Value.slice (some ⟨tb, to_, none⟩) l.length tc ∧ e1 4 = Value.slice (some ⟨g, 0, none⟩) (S.length + 1) cap ∧ e1 5 = .int .i64 (i : Int) ∧ e1 6 = .pointer (some ⟨c6, 0, none⟩) ∧ e1 7 = .pointer (some ⟨g, 0 + S.length * 3, none⟩) ∧ e1 12 = Value.slice (some ⟨tb, to_, none⟩) l.length tc ∧ e1 13 = .int .i64 (l.length : Int) ∧ e1 14 = .int .i64 (i : Int) ∧ e1 53 = .bool (manyB l[i]) ∧ w1 = w) ?_ ?_
            · -- both ways
              refine W.cond rfl (fun c53 => ?_) (fun c53 => ?_)
              · try simp only [decide_eq_true_eq, decide_eq_false_iff_not, Bool.not_eq_true', Bool.not_eq_false', Bool.and_eq_true, Bool.or_eq_true, Bool.and_eq_false_iff, Bool.or_eq_false_iff] at c53
                refine W.skip ?_
                exact ⟨h0, h4, h5, h6, rfl, h12, h13, h14, congrArg Value.bool (by rw [Bool.eq_iff_iff]; (try simp only [decide_eq_true_eq, decide_eq_false_iff_not] at g57); (try simp only [decide_eq_true_eq, decide_eq_false_iff_not] at g65); (try (cases c53; done)); all_goals simp only [manyB, Bool.or_eq_true, Bool.and_eq_true, decide_eq_true_eq, Bool.false_eq_true, false_iff]; all_goals omega), rfl⟩
              · try simp only [decide_eq_true_eq, decide_eq_false_iff_not, Bool.not_eq_true', Bool.not_eq_false', Bool.and_eq_true, Bool.or_eq_true, Bool.and_eq_false_iff, Bool.or_eq_false_iff] at c53
                refine W.region ?_
                refine WL.c rfl (o_fa 0 TI26 rfl TI3 rfl h6 ?_)
                refine WL.c rfl (o_ld TI3 rfl rfl (cell_of hC7 rfl) ?_)
                refine WL.c rfl (o_eq rfl rfl ?_)
                refine WL.c rfl (o_mvh (show _ = Value.bool _ from rfl) ?_)
                refine WL.sp 3 rfl (fun g65 => ?_) (fun g65 => ?_)
                · skip
                  refine WL.g rfl (g65) rfl (o_fa 5 TI26 rfl TI3 rfl h6 ?_)
                  refine WL.g rfl (g65) rfl (o_ld TI3 rfl rfl (cell_of hC7 rfl) ?_)
                  refine WL.g rfl (g65) rfl (o_gt rfl rfl ?_)
                  refine WL.c rfl (o_pickA rfl rfl ?_)
                  refine WL.c rfl (o_ash (show _ = Value.bool _ from rfl) ?_)
                  refine WL.nil ?_
                  exact ⟨h0, h4, h5, h6, rfl, h12, h13, h14, congrArg Value.bool (by rw [Bool.eq_iff_iff]; (try simp only [decide_eq_true_eq, decide_eq_false_iff_not] at g57); (try simp only [decide_eq_true_eq, decide_eq_false_iff_not] at g65); (try (cases c53; done)); all_goals simp only [manyB, Bool.or_eq_true, Bool.and_eq_true, decide_eq_true_eq, Bool.false_eq_true, false_iff]; all_goals omega), rfl⟩
                · skip
                  refine WL.s rfl (g65) rfl ?_
                  refine WL.s rfl (g65) rfl ?_
                  refine WL.s rfl (g65) rfl ?_
                  refine WL.c rfl (o_pickF rfl (g65) ?_)
                  refine WL.c rfl (o_ash (show _ = Value.bool _ from rfl) ?_)
                  refine WL.nil ?_
                  exact ⟨h0, h4, h5, h6, rfl, h12, h13, h14, congrArg Value.bool (by rw [Bool.eq_iff_iff]; (try simp only [decide_eq_true_eq, decide_eq_false_iff_not] at g57); (try simp only [decide_eq_true_eq, decide_eq_false_iff_not] at g65); (try (cases c53; done)); all_goals simp only [manyB, Bool.or_eq_true, Bool.and_eq_true, decide_eq_true_eq, Bool.false_eq_true, false_iff]; all_goals omega), rfl⟩
            rintro e w ⟨h0, h4, h5, h6, h7, h12, h13, h14, h53, rfl⟩
            refine W.cond h53 (fun c53 => ?_) (fun c53 => ?_)
            · try simp only [decide_eq_true_eq, decide_eq_false_iff_not, Bool.not_eq_true', Bool.not_eq_false', Bool.and_eq_true, Bool.or_eq_true, Bool.and_eq_false_iff, Bool.or_eq_false_iff] at c53
              refine W.seq ?_
              have hmany : manyB l[i] = true := by simpa using c53
              rw [if_pos hmany] at hres2
              refine W.region ?_
              refine WL.c rfl (o_mvh h5 ?_)
              refine WL.c rfl (o_ash (show _ = Value.int _ _ from rfl) ?_)
              refine WL.c rfl (o_ash (show _ = Value.int _ _ from rfl) ?_)
              refine WL.nil ?_
              refine W.ret ?_
              refine ret2v rfl (show _ = Value.int _ _ from rfl) (show _ = Value.int _ _ from rfl) ?_
              rw [hres2]
              exact ⟨rfl, hx⟩
            · try simp only [decide_eq_true_eq, decide_eq_false_iff_not, Bool.not_eq_true', Bool.not_eq_false', Bool.and_eq_true, Bool.or_eq_true, Bool.and_eq_false_iff, Bool.or_eq_false_iff] at c53
              refine W.seq ?_
              have hmany : manyB l[i] = false := by simpa using c53
              rw [if_neg (by simp [hmany])] at hres2
              refine W.tail 5 rfl (by kernel_rfl) ?_
              refine WS.c rfl ((SO.o rfl (o_ldA TI26 rfl h6 (show Cells w c6 0 (exV l[i]) from Cells.of hC7 0 _ (by simp)) rfl ⟨rfl, rfl⟩))) ?_
              refine WS.c rfl ((SO.o rfl (o_mvh h7 ⟨rfl, rfl⟩))) ?_
              refine WS.c rfl ((SO.r (r_nil rfl))) ?_
              refine WS.c rfl ((SO.o rfl (o_fa 0 TI107 rfl TI3 rfl rfl ⟨rfl, rfl⟩))) ?_
              refine WS.c rfl ((SO.o rfl (o_ld TI3 rfl rfl (own_cell hown (j := 0 + S.length * 3 + 0) (by rw [Nat.zero_add]; exact opsR_get _ rfl)) ⟨rfl, rfl⟩))) ?_
              refine WS.nil ?_
              have hxd := Only.drew w
              replace hx := hx.tr hxd
              replace hown := own_ext hown hxd
              replace hC7 := hxd.blk hC7 (fun h => h)
              clear hxd
              generalize w.drew = wd at *
              refine WL.c rfl (o_call Try.call66 (lc rfl (lc rfl ln)) ((right_spec l[i] o.kind _ (hln _ (List.getElem_mem hil)).1 (hln _ (List.getElem_mem hil)).2).mono ?_))
              rintro v77 w77 ⟨rfl, hx77⟩
              replace hx := hx.tr hx77
              replace hown := own_ext hown hx77
              replace hC7 := hx77.blk hC7 (fun h => h)
              refine WL.c rfl (o_not' rfl ?_)
              refine WL.c rfl (o_ash (show _ = Value.bool _ from rfl) ?_)
              refine WL.nil ?_
              refine W.cond rfl (fun c71 => ?_) (fun c71 => ?_)
              · try simp only [decide_eq_true_eq, decide_eq_false_iff_not, Bool.not_eq_true', Bool.not_eq_false', Bool.and_eq_true, Bool.or_eq_true, Bool.and_eq_false_iff, Bool.or_eq_false_iff] at c71
                have hright : rightB l[i] o.kind = false := by simpa using c71
                rw [if_pos hright] at hres2
                refine W.seq ?_
                refine W.region ?_
                refine WL.c rfl (o_mvh h5 ?_)
                refine WL.c rfl (o_ash (show _ = Value.int _ _ from rfl) ?_)
                refine WL.c rfl (o_ash (show _ = Value.int _ _ from rfl) ?_)
                refine WL.nil ?_
                refine W.ret ?_
                refine ret2v rfl (show _ = Value.int _ _ from rfl) (show _ = Value.int _ _ from rfl) ?_
                rw [hres2]
                exact ⟨rfl, hx⟩
              · try simp only [decide_eq_true_eq, decide_eq_false_iff_not, Bool.not_eq_true', Bool.not_eq_false', Bool.and_eq_true, Bool.or_eq_true, Bool.and_eq_false_iff, Bool.or_eq_false_iff] at c71
                have hright : rightB l[i] o.kind = true := by simpa using c71
                rw [if_neg (by simp [hright])] at hres2
                have hkd := rightB_kids hright hmany
                refine W.skip ?_
                refine W.seq ?_
                refine W.region ?_
                refine WL.c rfl (o_mvh h7 ?_)
                refine WL.c rfl (o_nil rfl ?_)
                refine WL.c rfl (o_fa 1 TI107 rfl TI3 rfl rfl ?_)
                refine WL.c rfl (o_ld TI3 rfl rfl (own_cell hown (j := 0 + S.length * 3 + 1) (by rw [Nat.zero_add]; exact opsR_get _ rfl)) ?_)
                refine WL.c rfl (o_subi rfl rfl (by omega) ?_)
                refine WL.c rfl (o_nil rfl ?_)
                refine WL.c rfl (o_fa 1 TI107 rfl TI3 rfl rfl ?_)
                refine WL.u (o_stRj (i := S.length * 3 + 1) TI3 rfl (by omega) (show _ = Value.int .i64 (o.left - 1) from rfl) rfl hown rfl (by omega) ?_)
                intro wA hown' hoA hsA
                replace hown : wA.ownsRow w0.heap.size 107 3 (Value.slice (some ⟨g, 0, none⟩) (S.length + 1) cap) (S.length + 1) (opsR ({ o with left := o.left - 1 } :: S)) := by rw [← opsR_set]; exact hown'
                clear hown'
                replace hC7 := hoA.blk hC7 (fun hk => hcg (by simpa [Value.ownBlock] using hk))
                have hgl := (hown.lt g rfl).1
                replace hx := hx.trans' hoA (fun _ h => h) (fun k hk he => by have := ob he; omega)
                refine WL.nil ?_
                obtain ⟨wd2, hwd⟩ : ∃ wd2, wd2 = wA.drew := ⟨_, rfl⟩
                have hxd : Ext wA wd2 := hwd ▸ Only.drew wA
                replace hx := hx.tr hxd
                replace hown := own_ext hown hxd
                replace hC7 := hxd.blk hC7 (fun h => h)
                refine W.drawT 12 (Ext) [(4, fun v _ => v = _), (6, fun v _ => v = _), (7, fun v _ => v = _), (0, fun v _ => v = _), (5, fun v _ => v = _), (12, fun v _ => v = _), (13, fun v _ => v = _), (14, fun v _ => v = _)] rfl (by kernel_rfl) (Only.refl No) (fun _ _ _ h k => h.trans k) ⟨Mono.eq, Mono.eq, Mono.eq, Mono.eq, Mono.eq, Mono.eq, Mono.eq, Mono.eq, trivial⟩ ⟨h4, h6, h7, h0, h5, h12, h13, h14, trivial⟩ ?_
                refine WD.p rfl (fun e w hR hh => by obtain ⟨h4, -⟩ := hh; exact SG.n (o_mvh h4 ⟨rfl, Only.refl No _⟩)) ?_
                refine WD.p rfl (fun e w hR hh => by obtain ⟨h6, -⟩ := hh; exact SG.n (o_fa 0 TI26 rfl TI3 rfl h6 ⟨rfl, Only.refl No _⟩)) ?_
                refine WD.p rfl (fun e w hR hh => by obtain ⟨h88, -⟩ := hh; rw [← hwd] at hR; exact SG.n (o_ld TI3 rfl h88 (cell_of (hR.blk hC7 (fun h => h)) rfl) ⟨rfl, Only.refl No _⟩)) ?_
                refine WD.p rfl (fun e w hR hh => by obtain ⟨h6, -⟩ := hh; exact SG.n (o_fa 5 TI26 rfl TI3 rfl h6 ⟨rfl, Only.refl No _⟩)) ?_
                refine WD.p rfl (fun e w hR hh => by obtain ⟨h90, -⟩ := hh; rw [← hwd] at hR; exact SG.n (o_ld TI3 rfl h90 (cell_of (hR.blk hC7 (fun h => h)) rfl) ⟨rfl, Only.refl No _⟩)) ?_
                refine WD.p rfl (fun e w hR hh => by obtain ⟨h7, -⟩ := hh; exact SG.n (o_mvh h7 ⟨rfl, Only.refl No _⟩)) ?_
                refine WD.p rfl (fun e w hR hh => by obtain ⟨h92, -⟩ := hh; exact SG.n (o_nil h92 ⟨rfl, Only.refl No _⟩)) ?_
                refine WD.p rfl (fun e w hR hh => by obtain ⟨h93, -⟩ := hh; exact SG.n (o_fa 2 TI107 rfl TI3 rfl h93 ⟨rfl, Only.refl No _⟩)) ?_
                refine WD.p rfl (fun e w hR hh => by obtain ⟨h94, -⟩ := hh; rw [← hwd] at hR; exact SG.n (o_ld TI3 rfl h94 (show w.cell? ⟨g, 0 + S.length * 3 + 2, none⟩ = some (.int .i64 o.deep) from own_cell (own_ext hown hR) (by rw [Nat.zero_add]; exact opsR_get _ rfl)) ⟨rfl, Only.refl No _⟩)) ?_
                refine WD.p rfl (fun e w hR hh => by obtain ⟨h95, -⟩ := hh; exact SG.n (o_addi h95 rfl (by omega) ⟨rfl, Only.refl No _⟩)) ?_
                refine WD.p rfl (fun e w hR hh => by obtain ⟨h96, h91, h89, -⟩ := hh; exact SG.n (o_bldC (cs := [_, _, _]) TI107 (Sizes.cons TI3 (Sizes.cons TI3 (Sizes.cons TI3 Sizes.nil))) rfl (lcp h89 (lcp h91 (lcp h96 lnp))) rfl rfl ⟨rfl, Only.refl No _⟩)) ?_
                refine WD.q (fun u w => w.ownsRow wd2.heap.size 107 3 u 1 (opV ⟨l[i].kind, l[i].kids, o.deep + 1⟩)) (fun u w w2 hR hh => own_ext hh hR) rfl (fun e w hR hh => by obtain ⟨h97, -⟩ := hh; rw [← hwd] at hR; exact SG.n (o_bs1 TI108 TI107 h97 (by decide) (by decide) rfl ⟨own_mono (own_new1 rfl) hR.size, Only.alloc w _⟩)) ?_
                rintro e w hR ⟨h98, h97, h96, h95, h94, h93, h92, h91, h90, h89, h88, h87, h4, h6, h7, h0, h5, h12, h13, h14, -⟩
                rw [← hwd] at hR
                replace hx := hx.tr hR
                replace hown := own_ext hown hR
                replace hC7 := hR.blk hC7 (fun h => h)
                refine WL.c rfl (o_apO (w0.heap.size) TI108 TI107 h87 rfl hown (Sl.own h98) rfl (by decide) (by simp [opV, Value.oneCell']) (by rw [maxLen_eq]; omega) (by omega) hx.size ?_)
                intro v99 w99 hown99 ho99 hb99 hk99
                have hrow : w99.ownsRow w0.heap.size 107 3 v99 (⟨l[i].kind, l[i].kids, o.deep + 1⟩ :: { o with left := o.left - 1 } :: S).length (opsR (⟨l[i].kind, l[i].kids, o.deep + 1⟩ :: { o with left := o.left - 1 } :: S)) := by rw [opsR_cons ⟨l[i].kind, l[i].kids, o.deep + 1⟩]; exact hown99
                replace hx := hx.trans' ho99 (fun _ h => h) (fun k hk he => by have := ob he; omega)
                have hok3 : OkS ({ o with left := o.left - 1 } :: S) := ⟨hdp, by show 0 ≤ o.left - 1; omega, by show o.left - 1 ≤ 64; omega, hok2⟩
                refine WL.c rfl (o_ash (by first | exact (show _ = Value.slice _ _ _ from rfl) | exact rfl) ?_)
                refine WL.nil ?_
                refine W.region ?_
                refine WL.c rfl (o_addi h14 rfl (by omega) ?_)
                refine WL.c rfl (o_mvh (show _ = Value.int _ _ from rfl) ?_)
                refine WL.nil ?_
                refine ⟨⟨i + 1, _, _, by omega, h0, rfl, h12, h13, rfl, hrow, ⟨by simp only [List.length_cons]; omega, hkd.1, hkd.2, hok3⟩, by simp only [List.length_cons] at hdp ⊢; omega, ?_, hx⟩, ?_⟩
                · rw [hres, hlc, chkE_o hpz2, if_neg hdeep, if_neg (by simp [hmany]), if_neg (by simp [hright])]
                · show l.length - ((i : Int) + 1).toNat < _
                  rw [hm14]; simp [intOf]; omega
          · skip
            refine WL.s rfl (g57) rfl ?_
            refine WL.s rfl (g57) rfl ?_
            refine WL.s rfl (g57) rfl ?_
            refine WL.c rfl (o_pickF rfl (g57) ?_)
            refine WL.c rfl (o_ash (show _ = Value.bool _ from rfl) ?_)
            refine WL.nil ?_
            refine W.cut (fun e1 w1 => e1 0 = Value.slice (some ⟨tb, to_, none⟩) l.length tc ∧ e1 4 = Value.slice (some ⟨g, 0, none⟩) (S.length + 1) cap ∧ e1 5 = .int .i64 (i : Int) ∧ e1 6 = .pointer (some ⟨c6, 0, none⟩) ∧ e1 7 = .pointer (some ⟨g, 0 + S.length * 3, none⟩) ∧ e1 12 = Value.slice (some ⟨tb, to_, none⟩) l.length tc ∧ e1 13 = .int .i64 (l.length : Int) ∧ e1 14 = .int .i64 (i : Int) ∧ e1 53 = .bool (manyB l[i]) ∧ w1 = w) ?_ ?_
            · -- both ways
              refine W.cond rfl (fun c53 => ?_) (fun c53 => ?_)
              · try simp only [decide_eq_true_eq, decide_eq_false_iff_not, Bool.not_eq_true', Bool.not_eq_false', Bool.and_eq_true, Bool.or_eq_true, Bool.and_eq_false_iff, Bool.or_eq_false_iff] at c53
                refine W.skip ?_
                exact ⟨h0, h4, h5, h6, rfl, h12, h13, h14, congrArg Value.bool (by rw [Bool.eq_iff_iff]; (try simp only [decide_eq_true_eq, decide_eq_false_iff_not] at g57); (try simp only [decide_eq_true_eq, decide_eq_false_iff_not] at g65); (try (cases c53; done)); all_goals simp only [manyB, Bool.or_eq_true, Bool.and_eq_true, decide_eq_true_eq, Bool.false_eq_true, false_iff]; all_goals omega), rfl⟩
              · try simp only [decide_eq_true_eq, decide_eq_false_iff_not, Bool.not_eq_true', Bool.not_eq_false', Bool.and_eq_true, Bool.or_eq_true, Bool.and_eq_false_iff, Bool.or_eq_false_iff] at c53
                refine W.region ?_
                refine WL.c rfl (o_fa 0 TI26 rfl TI3 rfl h6 ?_)
                refine WL.c rfl (o_ld TI3 rfl rfl (cell_of hC7 rfl) ?_)
                refine WL.c rfl (o_eq rfl rfl ?_)
                refine WL.c rfl (o_mvh (show _ = Value.bool _ from rfl) ?_)
                refine WL.sp 3 rfl (fun g65 => ?_) (fun g65 => ?_)
                · skip
                  refine WL.g rfl (g65) rfl (o_fa 5 TI26 rfl TI3 rfl h6 ?_)
                  refine WL.g rfl (g65) rfl (o_ld TI3 rfl rfl (cell_of hC7 rfl) ?_)
                  refine WL.g rfl (g65) rfl (o_gt rfl rfl ?_)
                  refine WL.c rfl (o_pickA rfl rfl ?_)
                  refine WL.c rfl (o_ash (show _ = Value.bool _ from rfl) ?_)
                  refine WL.nil ?_
                  exact ⟨h0, h4, h5, h6, rfl, h12, h13, h14, congrArg Value.bool (by rw [Bool.eq_iff_iff]; (try simp only [decide_eq_true_eq, decide_eq_false_iff_not] at g57); (try simp only [decide_eq_true_eq, decide_eq_false_iff_not] at g65); (try (cases c53; done)); all_goals simp only [manyB, Bool.or_eq_true, Bool.and_eq_true, decide_eq_true_eq, Bool.false_eq_true, false_iff]; all_goals omega), rfl⟩
                · skip
                  refine WL.s rfl (g65) rfl ?_
                  refine WL.s rfl (g65) rfl ?_
                  refine WL.s rfl (g65) rfl ?_
                  refine WL.c rfl (o_pickF rfl (g65) ?_)
                  refine WL.c rfl (o_ash (show _ = Value.bool _ from rfl) ?_)
                  refine WL.nil ?_
                  exact ⟨h0, h4, h5, h6, rfl, h12, h13, h14, congrArg Value.bool (by rw [Bool.eq_iff_iff]; (try simp only [decide_eq_true_eq, decide_eq_false_iff_not] at g57); (try simp only [decide_eq_true_eq, decide_eq_false_iff_not] at g65); (try (cases c53; done)); all_goals simp only [manyB, Bool.or_eq_true, Bool.and_eq_true, decide_eq_true_eq, Bool.false_eq_true, false_iff]; all_goals omega), rfl⟩
            rintro e w ⟨h0, h4, h5, h6, h7, h12, h13, h14, h53, rfl⟩
            refine W.cond h53 (fun c53 => ?_) (fun c53 => ?_)
            · try simp only [decide_eq_true_eq, decide_eq_false_iff_not, Bool.not_eq_true', Bool.not_eq_false', Bool.and_eq_true, Bool.or_eq_true, Bool.and_eq_false_iff, Bool.or_eq_false_iff] at c53
              refine W.seq ?_
              have hmany : manyB l[i] = true := by simpa using c53
              rw [if_pos hmany] at hres2
              refine W.region ?_
              refine WL.c rfl (o_mvh h5 ?_)
              refine WL.c rfl (o_ash (show _ = Value.int _ _ from rfl) ?_)
              refine WL.c rfl (o_ash (show _ = Value.int _ _ from rfl) ?_)
              refine WL.nil ?_
              refine W.ret ?_
              refine ret2v rfl (show _ = Value.int _ _ from rfl) (show _ = Value.int _ _ from rfl) ?_
              rw [hres2]
              exact ⟨rfl, hx⟩
            · try simp only [decide_eq_true_eq, decide_eq_false_iff_not, Bool.not_eq_true', Bool.not_eq_false', Bool.and_eq_true, Bool.or_eq_true, Bool.and_eq_false_iff, Bool.or_eq_false_iff] at c53
              refine W.seq ?_
              have hmany : manyB l[i] = false := by simpa using c53
              rw [if_neg (by simp [hmany])] at hres2
              refine W.tail 5 rfl (by kernel_rfl) ?_
              refine WS.c rfl ((SO.o rfl (o_ldA TI26 rfl h6 (show Cells w c6 0 (exV l[i]) from Cells.of hC7 0 _ (by simp)) rfl ⟨rfl, rfl⟩))) ?_
              refine WS.c rfl ((SO.o rfl (o_mvh h7 ⟨rfl, rfl⟩))) ?_
              refine WS.c rfl ((SO.r (r_nil rfl))) ?_
              refine WS.c rfl ((SO.o rfl (o_fa 0 TI107 rfl TI3 rfl rfl ⟨rfl, rfl⟩))) ?_
              refine WS.c rfl ((SO.o rfl (o_ld TI3 rfl rfl (own_cell hown (j := 0 + S.length * 3 + 0) (by rw [Nat.zero_add]; exact opsR_get _ rfl)) ⟨rfl, rfl⟩))) ?_
              refine WS.nil ?_
              have hxd := Only.drew w
              replace hx := hx.tr hxd
              replace hown := own_ext hown hxd
              replace hC7 := hxd.blk hC7 (fun h => h)
              clear hxd
              generalize w.drew = wd at *
              refine WL.c rfl (o_call Try.call66 (lc rfl (lc rfl ln)) ((right_spec l[i] o.kind _ (hln _ (List.getElem_mem hil)).1 (hln _ (List.getElem_mem hil)).2).mono ?_))
              rintro v77 w77 ⟨rfl, hx77⟩
              replace hx := hx.tr hx77
              replace hown := own_ext hown hx77
              replace hC7 := hx77.blk hC7 (fun h => h)
              refine WL.c rfl (o_not' rfl ?_)
              refine WL.c rfl (o_ash (show _ = Value.bool _ from rfl) ?_)
              refine WL.nil ?_
              refine W.cond rfl (fun c71 => ?_) (fun c71 => ?_)
              · try simp only [decide_eq_true_eq, decide_eq_false_iff_not, Bool.not_eq_true', Bool.not_eq_false', Bool.and_eq_true, Bool.or_eq_true, Bool.and_eq_false_iff, Bool.or_eq_false_iff] at c71
                have hright : rightB l[i] o.kind = false := by simpa using c71
                rw [if_pos hright] at hres2
                refine W.seq ?_
                refine W.region ?_
                refine WL.c rfl (o_mvh h5 ?_)
                refine WL.c rfl (o_ash (show _ = Value.int _ _ from rfl) ?_)
                refine WL.c rfl (o_ash (show _ = Value.int _ _ from rfl) ?_)
                refine WL.nil ?_
                refine W.ret ?_
                refine ret2v rfl (show _ = Value.int _ _ from rfl) (show _ = Value.int _ _ from rfl) ?_
                rw [hres2]
                exact ⟨rfl, hx⟩
              · try simp only [decide_eq_true_eq, decide_eq_false_iff_not, Bool.not_eq_true', Bool.not_eq_false', Bool.and_eq_true, Bool.or_eq_true, Bool.and_eq_false_iff, Bool.or_eq_false_iff] at c71
                have hright : rightB l[i] o.kind = true := by simpa using c71
                rw [if_neg (by simp [hright])] at hres2
                have hkd := rightB_kids hright hmany
                refine W.skip ?_
                refine W.seq ?_
                refine W.region ?_
                refine WL.c rfl (o_mvh h7 ?_)
                refine WL.c rfl (o_nil rfl ?_)
                refine WL.c rfl (o_fa 1 TI107 rfl TI3 rfl rfl ?_)
                refine WL.c rfl (o_ld TI3 rfl rfl (own_cell hown (j := 0 + S.length * 3 + 1) (by rw [Nat.zero_add]; exact opsR_get _ rfl)) ?_)
                refine WL.c rfl (o_subi rfl rfl (by omega) ?_)
                refine WL.c rfl (o_nil rfl ?_)
                refine WL.c rfl (o_fa 1 TI107 rfl TI3 rfl rfl ?_)
                refine WL.u (o_stRj (i := S.length * 3 + 1) TI3 rfl (by omega) (show _ = Value.int .i64 (o.left - 1) from rfl) rfl hown rfl (by omega) ?_)
                intro wA hown' hoA hsA
                replace hown : wA.ownsRow w0.heap.size 107 3 (Value.slice (some ⟨g, 0, none⟩) (S.length + 1) cap) (S.length + 1) (opsR ({ o with left := o.left - 1 } :: S)) := by rw [← opsR_set]; exact hown'
                clear hown'
                replace hC7 := hoA.blk hC7 (fun hk => hcg (by simpa [Value.ownBlock] using hk))
                have hgl := (hown.lt g rfl).1
                replace hx := hx.trans' hoA (fun _ h => h) (fun k hk he => by have := ob he; omega)
                refine WL.nil ?_
                obtain ⟨wd2, hwd⟩ : ∃ wd2, wd2 = wA.drew := ⟨_, rfl⟩
                have hxd : Ext wA wd2 := hwd ▸ Only.drew wA
                replace hx := hx.tr hxd
                replace hown := own_ext hown hxd
                replace hC7 := hxd.blk hC7 (fun h => h)
                refine W.drawT 12 (Ext) [(4, fun v _ => v = _), (6, fun v _ => v = _), (7, fun v _ => v = _), (0, fun v _ => v = _), (5, fun v _ => v = _), (12, fun v _ => v = _), (13, fun v _ => v = _), (14, fun v _ => v = _)] rfl (by kernel_rfl) (Only.refl No) (fun _ _ _ h k => h.trans k) ⟨Mono.eq, Mono.eq, Mono.eq, Mono.eq, Mono.eq, Mono.eq, Mono.eq, Mono.eq, trivial⟩ ⟨h4, h6, h7, h0, h5, h12, h13, h14, trivial⟩ ?_
                refine WD.p rfl (fun e w hR hh => by obtain ⟨h4, -⟩ := hh; exact SG.n (o_mvh h4 ⟨rfl, Only.refl No _⟩)) ?_
                refine WD.p rfl (fun e w hR hh => by obtain ⟨h6, -⟩ := hh; exact SG.n (o_fa 0 TI26 rfl TI3 rfl h6 ⟨rfl, Only.refl No _⟩)) ?_
                refine WD.p rfl (fun e w hR hh => by obtain ⟨h88, -⟩ := hh; rw [← hwd] at hR; exact SG.n (o_ld TI3 rfl h88 (cell_of (hR.blk hC7 (fun h => h)) rfl) ⟨rfl, Only.refl No _⟩)) ?_
                refine WD.p rfl (fun e w hR hh => by obtain ⟨h6, -⟩ := hh; exact SG.n (o_fa 5 TI26 rfl TI3 rfl h6 ⟨rfl, Only.refl No _⟩)) ?_
                refine WD.p rfl (fun e w hR hh => by obtain ⟨h90, -⟩ := hh; rw [← hwd] at hR; exact SG.n (o_ld TI3 rfl h90 (cell_of (hR.blk hC7 (fun h => h)) rfl) ⟨rfl, Only.refl No _⟩)) ?_
                refine WD.p rfl (fun e w hR hh => by obtain ⟨h7, -⟩ := hh; exact SG.n (o_mvh h7 ⟨rfl, Only.refl No _⟩)) ?_
                refine WD.p rfl (fun e w hR hh => by obtain ⟨h92, -⟩ := hh; exact SG.n (o_nil h92 ⟨rfl, Only.refl No _⟩)) ?_
                refine WD.p rfl (fun e w hR hh => by obtain ⟨h93, -⟩ := hh; exact SG.n (o_fa 2 TI107 rfl TI3 rfl h93 ⟨rfl, Only.refl No _⟩)) ?_
                refine WD.p rfl (fun e w hR hh => by obtain ⟨h94, -⟩ := hh; rw [← hwd] at hR; exact SG.n (o_ld TI3 rfl h94 (show w.cell? ⟨g, 0 + S.length * 3 + 2, none⟩ = some (.int .i64 o.deep) from own_cell (own_ext hown hR) (by rw [Nat.zero_add]; exact opsR_get _ rfl)) ⟨rfl, Only.refl No _⟩)) ?_
                refine WD.p rfl (fun e w hR hh => by obtain ⟨h95, -⟩ := hh; exact SG.n (o_addi h95 rfl (by omega) ⟨rfl, Only.refl No _⟩)) ?_
                refine WD.p rfl (fun e w hR hh => by obtain ⟨h96, h91, h89, -⟩ := hh; exact SG.n (o_bldC (cs := [_, _, _]) TI107 (Sizes.cons TI3 (Sizes.cons TI3 (Sizes.cons TI3 Sizes.nil))) rfl (lcp h89 (lcp h91 (lcp h96 lnp))) rfl rfl ⟨rfl, Only.refl No _⟩)) ?_
                refine WD.q (fun u w => w.ownsRow wd2.heap.size 107 3 u 1 (opV ⟨l[i].kind, l[i].kids, o.deep + 1⟩)) (fun u w w2 hR hh => own_ext hh hR) rfl (fun e w hR hh => by obtain ⟨h97, -⟩ := hh; rw [← hwd] at hR; exact SG.n (o_bs1 TI108 TI107 h97 (by decide) (by decide) rfl ⟨own_mono (own_new1 rfl) hR.size, Only.alloc w _⟩)) ?_
                rintro e w hR ⟨h98, h97, h96, h95, h94, h93, h92, h91, h90, h89, h88, h87, h4, h6, h7, h0, h5, h12, h13, h14, -⟩
                rw [← hwd] at hR
                replace hx := hx.tr hR
                replace hown := own_ext hown hR
                replace hC7 := hR.blk hC7 (fun h => h)
                refine WL.c rfl (o_apO (w0.heap.size) TI108 TI107 h87 rfl hown (Sl.own h98) rfl (by decide) (by simp [opV, Value.oneCell']) (by rw [maxLen_eq]; omega) (by omega) hx.size ?_)
                intro v99 w99 hown99 ho99 hb99 hk99
                have hrow : w99.ownsRow w0.heap.size 107 3 v99 (⟨l[i].kind, l[i].kids, o.deep + 1⟩ :: { o with left := o.left - 1 } :: S).length (opsR (⟨l[i].kind, l[i].kids, o.deep + 1⟩ :: { o with left := o.left - 1 } :: S)) := by rw [opsR_cons ⟨l[i].kind, l[i].kids, o.deep + 1⟩]; exact hown99
                replace hx := hx.trans' ho99 (fun _ h => h) (fun k hk he => by have := ob he; omega)
                have hok3 : OkS ({ o with left := o.left - 1 } :: S) := ⟨hdp, by show 0 ≤ o.left - 1; omega, by show o.left - 1 ≤ 64; omega, hok2⟩
                refine WL.c rfl (o_ash (by first | exact (show _ = Value.slice _ _ _ from rfl) | exact rfl) ?_)
                refine WL.nil ?_
                refine W.region ?_
                refine WL.c rfl (o_addi h14 rfl (by omega) ?_)
                refine WL.c rfl (o_mvh (show _ = Value.int _ _ from rfl) ?_)
                refine WL.nil ?_
                refine ⟨⟨i + 1, _, _, by omega, h0, rfl, h12, h13, rfl, hrow, ⟨by simp only [List.length_cons]; omega, hkd.1, hkd.2, hok3⟩, by simp only [List.length_cons] at hdp ⊢; omega, ?_, hx⟩, ?_⟩
                · rw [hres, hlc, chkE_o hpz2, if_neg hdeep, if_neg (by simp [hmany]), if_neg (by simp [hright])]
                · show l.length - ((i : Int) + 1).toNat < _
                  rw [hm14]; simp [intOf]; omega
  · try simp only [decide_eq_true_eq, decide_eq_false_iff_not, Bool.not_eq_true', Bool.not_eq_false', Bool.and_eq_true, Bool.or_eq_true, Bool.and_eq_false_iff, Bool.or_eq_false_iff] at c15
    have hil : i = l.length := by omega
    rw [hil, List.drop_length, chkE_nil] at hres
    refine W.exit ?_
    refine W.seq ?_
    refine W.seq ?_
    refine W.region ?_
    refine WL.c rfl (o_mvh h4 ?_)
    refine WL.c rfl (o_lenR TI108 rfl (Sl.own hown) ?_)
    refine WL.c rfl (o_mvh (show _ = Value.int _ _ from rfl) ?_)
    refine WL.nil ?_
    refine W.block ?_
    refine W.loop (fun e w => ∃ k : Nat, k ≤ S0.length ∧ e 0 = v ∧ e 101 = sv0 ∧ e 102 = .int .i64 (S0.length : Int) ∧ e 103 = .int .i64 (k : Int) ∧ leftB S0 = leftB (S0.reverse.drop k).reverse ∧ w.ownsRow w0.heap.size 107 3 sv0 S0.length (opsR S0) ∧ Ext w0 w) (fun e w => S0.length - (intOf (e 103)).toNat) ?_ ?_
    · exact ⟨0, Nat.zero_le _, h0, rfl, rfl, rfl, by rw [List.drop_zero, List.reverse_reverse], hown, hx⟩
    rintro e w ⟨k, hk, h0, h101, h102, h103, hlb, hown, hx⟩
    have hm103 := h103
    refine W.seq ?_
    refine W.region ?_
    refine WL.c rfl (o_lt h103 h102 ?_)
    refine WL.nil ?_
    refine W.seq ?_
    refine W.cond rfl (fun c104 => ?_) (fun c104 => ?_)
    · try simp only [decide_eq_true_eq, decide_eq_false_iff_not, Bool.not_eq_true', Bool.not_eq_false', Bool.and_eq_true, Bool.or_eq_true, Bool.and_eq_false_iff, Bool.or_eq_false_iff] at c104
      have hk1 : k < S0.length := by omega
      obtain ⟨g, cap, rfl, hgb⟩ := own_some hown (by omega)
      have hcc := own_cellsAt hown k
      rw [ops_at hk1] at hcc
      refine W.skip ?_
      refine W.seq ?_
      refine W.block ?_
      refine W.seq ?_
      refine W.region ?_
      refine WL.c rfl (o_ixB TI108 TI107 h101 h103 (by omega) ?_)
      refine WL.c rfl (o_ldA TI107 rfl rfl hcc rfl ?_)
      refine WL.c rfl (o_alB TI107 ?_)
      intro w9 hC9 hx9 hs9
      refine WL.u (o_stA TI107 rfl (show _ = Value.agg (opV (S0.reverse[k]'(by simpa using hk1))).toArray from rfl) rfl rfl hC9 rfl ?_)
      intro wb hCb hob hsb
      have hxb := Ext.own hx9 (Nat.le_refl _) hob
      clear hC9 hx9 hs9 hob hsb hcc
      replace hown := own_ext hown hxb
      replace hx := hx.tr hxb
      refine WL.nil ?_
      refine W.seq ?_
      refine W.region ?_
      refine WL.c rfl (o_fa 1 TI107 rfl TI3 rfl rfl ?_)
      refine WL.c rfl (o_ld TI3 rfl rfl (cell_of hCb rfl) ?_)
      refine WL.c rfl (o_gt rfl rfl ?_)
      refine WL.nil ?_
      refine W.cond rfl (fun c109 => ?_) (fun c109 => ?_)
      · try simp only [decide_eq_true_eq, decide_eq_false_iff_not, Bool.not_eq_true', Bool.not_eq_false', Bool.and_eq_true, Bool.or_eq_true, Bool.and_eq_false_iff, Bool.or_eq_false_iff] at c109
        have hnl : 0 < (S0.reverse[k]'(by simpa using hk1)).left := by omega
        rw [hlb, leftB_at _ _ hk1, decide_eq_true hnl, Bool.true_or, if_pos rfl] at hres
        refine W.seq ?_
        refine W.region ?_
        refine WL.c rfl (o_mvh h0 ?_)
        refine WL.c rfl (o_lenR TI37 rfl (hS0.ext hx) ?_)
        refine WL.c rfl (o_ash (show _ = Value.int _ _ from rfl) ?_)
        refine WL.c rfl (o_ash (show _ = Value.int _ _ from rfl) ?_)
        refine WL.nil ?_
        refine W.ret ?_
        refine ret2v rfl (show _ = Value.int _ _ from rfl) (show _ = Value.int _ _ from rfl) ?_
        rw [hres]
        exact ⟨rfl, hx⟩
      · try simp only [decide_eq_true_eq, decide_eq_false_iff_not, Bool.not_eq_true', Bool.not_eq_false', Bool.and_eq_true, Bool.or_eq_true, Bool.and_eq_false_iff, Bool.or_eq_false_iff] at c109
        have hnl : ¬ 0 < (S0.reverse[k]'(by simpa using hk1)).left := by omega
        refine W.skip ?_
        refine W.region ?_
        refine WL.c rfl (o_addi h103 rfl (by omega) ?_)
        refine WL.c rfl (o_mvh (show _ = Value.int _ _ from rfl) ?_)
        refine WL.nil ?_
        refine ⟨⟨k + 1, by omega, h0, h101, h102, rfl, ?_, hown, hx⟩, ?_⟩
        · rw [hlb, leftB_at _ _ hk1, decide_eq_false hnl, Bool.false_or]
        · show S0.length - ((k : Int) + 1).toNat < _
          rw [hm103]; simp [intOf]; omega
    · try simp only [decide_eq_true_eq, decide_eq_false_iff_not, Bool.not_eq_true', Bool.not_eq_false', Bool.and_eq_true, Bool.or_eq_true, Bool.and_eq_false_iff, Bool.or_eq_false_iff] at c104
      have hk1 : k = S0.length := by omega
      rw [hk1, show (S0.reverse.drop S0.length).reverse = [] by simp] at hlb
      rw [hlb, if_neg (by simp [leftB])] at hres
      refine W.exit ?_
      refine W.seq ?_
      refine W.region ?_
      refine WL.c rfl (o_ash (show _ = Value.int _ _ from rfl) ?_)
      refine WL.c rfl (o_ash (show _ = Value.int _ _ from rfl) ?_)
      refine WL.nil ?_
      refine W.ret ?_
      refine ret2v rfl (show _ = Value.int _ _ from rfl) (show _ = Value.int _ _ from rfl) ?_
      rw [hres]
      exact ⟨rfl, hx⟩
end Go.Proofs.Ytgcehajdldicfaa

set_option linter.unusedSimpArgs false
set_option linter.unusedVariables false
set_option maxRecDepth 100000
namespace Go.Proofs.Ytgcehajdldicfaa
open Go Go.Vc Go.RowKit Go.Proofs

theorem fm_at {α : Type} {f : α → List Value} {s : Nat} (hs : ∀ a, (f a).length = s) (ts : List α) : ∀ (k : Nat) (hk : k < ts.length), ((ts.flatMap f).drop (k * s)).take s = f ts[k] := by
  induction ts with
  | nil => intro k hk; simp at hk
  | cons t ts ih =>
    intro k hk
    cases k with
    | zero => rw [Nat.zero_mul, List.drop_zero, List.flatMap_cons]; exact List.take_left' (hs t)
    | succ k =>
      have h1 : (k + 1) * s - (f t).length = k * s := by rw [hs, Nat.succ_mul]; omega
      have h2 : (f t).length ≤ (k + 1) * s := by rw [hs, Nat.succ_mul]; omega
      have := ih k (by simpa using hk)
      rw [List.flatMap_cons, List.drop_append, List.drop_eq_nil_of_le h2, List.nil_append, h1]
      exact this
theorem drows_at (D : List Df) (V : Nat → Value) {k : Nat} (hk : k < D.length) : ((drows D V).drop (k * 3)).take 3 = dcell (D.getD k df0) (V k) := by
  have h := fm_at (f := fun j => dcell (D.getD j df0) (V j)) (s := 3) (fun _ => rfl) (List.range D.length) k (by simpa using hk)
  rw [drows, h, List.getElem_range]
/-- definitions that are read -/
structure DefR (w : World) (D : List Df) (dv : Value) (V : Nat → Value) : Prop where
  row : Sl w 3 dv D.length (drows D V)
  tys : ∀ j, j < D.length → Sl w 7 (V j) (tyD D j).length (exs (tyD D j))
theorem DefR.only {w w' : World} {D : List Df} {dv : Value} {V : Nat → Value} {F : Nat → Prop} (h : DefR w D dv V) (ho : Only F w w') (hn : ∀ k, DF dv V D.length k → ¬ F k) : DefR w' D dv V :=
  ⟨h.row.only ho (fun k hk => hn k (.inl hk)), fun j hj => (h.tys j hj).only ho (fun k hk => hn k (.inr ⟨j, hj, hk⟩))⟩
theorem DefR.ext {w w' : World} {D : List Df} {dv : Value} {V : Nat → Value} (h : DefR w D dv V) (ho : Ext w w') : DefR w' D dv V := h.only ho (fun _ _ h => h)
theorem Defs.rd {w : World} {H : Nat} {D : List Df} {dv : Value} {V : Nat → Value} (h : Defs w H D dv V) : DefR w D dv V := ⟨Sl.own h.row, fun j hj => Sl.own (h.tys.row j hj)⟩
theorem DefR.at {w : World} {D : List Df} {dv : Value} {V : Nat → Value} (h : DefR w D dv V) {k : Nat} (hk : k < D.length) : ∃ b o c, dv = .slice (some ⟨b, o, none⟩) D.length c ∧ Cells w b (o + k * 3) (dcell (D.getD k df0) (V k)) := by
  rcases h.row.val with ⟨hz, h0⟩ | ⟨b, o, c, rfl, hnc, hc⟩
  · omega
  · exact ⟨b, o, c, rfl, by rw [← drows_at D V hk]; exact hc.sub _ _⟩
theorem sl_one1 {w : World} {s : Nat} {v : Value} {n : Nat} {xs : List Value} (h : Sl w s v n xs) : v.oneCell' = true := by
  obtain ⟨a, c, rfl⟩ := h.isSlice
  rfl
/-- names and numbers that a machine can hold -/
def DLim (D : List Df) : Prop := ∀ d ∈ D, d.name.length ≤ 9223372036854775807 ∧ d.ty.length ≤ 4611686018427387904 ∧ ∀ x ∈ d.ty, x.name.length ≤ 9223372036854775807 ∧ x.label.length ≤ 9223372036854775807
def chkT (l : List Ex) : Nat × Nat := chkE [⟨0, 1, 0⟩] 0 l
def chkA : Nat → List Df → Nat × Nat × Nat
  | _, [] => (0, 0, 0)
  | i, d :: ds => if nameB d.name = false then (i, 0, 62) else if (chkT d.ty).2 = 0 then chkA (i + 1) ds else (i, chkT d.ty)
def chkS (D : List Df) : Nat × Nat × Nat := if 256 < D.length then (256, 0, 5) else chkA 0 D
theorem chkA_nil {i : Nat} : chkA i [] = (0, 0, 0) := rfl
theorem chkA_cons {i : Nat} {d : Df} {ds : List Df} : chkA i (d :: ds) = if nameB d.name = false then (i, 0, 62) else if (chkT d.ty).2 = 0 then chkA (i + 1) ds else (i, chkT d.ty) := rfl
def rs3 (r : Nat × Nat × Nat) : Value := .tuple #[.int .i64 (r.1 : Int), .int .i64 (r.2.1 : Int), .int .i64 (r.2.2 : Int)]

set_option maxHeartbeats 2000000 in
theorem check_spec (D : List Df) (dv : Value) (V : Nat → Value) (w0 : World) (hD : DefR w0 D dv V) (hlim : DLim D) : Ca Try.prog 48 #[.agg #[dv]] w0 (fun r w' => r = rs3 (chkS D) ∧ Ext w0 w') := by
  refine Ca.of Try.func48 Try.ntmps48 rfl rfl ?_
  refine W.seq ?_
  refine W.region ?_
  refine WL.c rfl (o_boxB rfl ?_)
  intro w1 hC1 hx1 hs1
  have hx := hx1
  replace hC1 : w1.heap[w0.heap.size]? = some (.cells #[dv] 24 (0, 0)) := hC1
  obtain ⟨c1, hc1⟩ : ∃ c, c = w0.heap.size := ⟨_, rfl⟩
  rw [← hc1] at hC1 ⊢
  replace hD := hD.ext hx1
  refine WL.c rfl (o_ash (show _ = Value.int _ _ from rfl) ?_)
  refine WL.c rfl (o_ash (show _ = Value.int _ _ from rfl) ?_)
  refine WL.c rfl (o_ash (show _ = Value.int _ _ from rfl) ?_)
  refine WL.nil ?_
  refine W.seq ?_
  refine W.seq ?_
  refine W.region ?_
  refine WL.c rfl (o_fa 0 TI24 rfl TI22 rfl rfl ?_)
  refine WL.c rfl (o_ld TI22 rfl rfl (cell_of hC1 rfl) ?_)
  refine WL.c rfl (o_lenR TI22 rfl hD.row ?_)
  refine WL.c rfl (o_gt rfl rfl ?_)
  refine WL.nil ?_
  refine W.cond rfl (fun c12 => ?_) (fun c12 => ?_)
  · try simp only [decide_eq_true_eq, decide_eq_false_iff_not, Bool.not_eq_true', Bool.not_eq_false', Bool.and_eq_true, Bool.or_eq_true, Bool.and_eq_false_iff, Bool.or_eq_false_iff] at c12
    have hn : 256 < D.length := by omega
    refine W.seq ?_
    refine W.region ?_
    refine WL.c rfl (o_ash (show _ = Value.int _ _ from rfl) ?_)
    refine WL.c rfl (o_ash (show _ = Value.int _ _ from rfl) ?_)
    refine WL.c rfl (o_ash (show _ = Value.int _ _ from rfl) ?_)
    refine WL.nil ?_
    refine W.ret ?_
    refine ret3v rfl (show _ = Value.int _ _ from rfl) (show _ = Value.int _ _ from rfl) (show _ = Value.int _ _ from rfl) ?_
    exact ⟨by rw [chkS, if_pos hn]; rfl, hx⟩
  · try simp only [decide_eq_true_eq, decide_eq_false_iff_not, Bool.not_eq_true', Bool.not_eq_false', Bool.and_eq_true, Bool.or_eq_true, Bool.and_eq_false_iff, Bool.or_eq_false_iff] at c12
    have hn : ¬ 256 < D.length := by omega
    refine W.skip ?_
    refine W.seq ?_
    refine W.seq ?_
    refine W.region ?_
    refine WL.c rfl (o_fa 0 TI24 rfl TI22 rfl rfl ?_)
    refine WL.c rfl (o_ld TI22 rfl rfl (cell_of hC1 rfl) ?_)
    refine WL.c rfl (o_lenR TI22 rfl hD.row ?_)
    refine WL.c rfl (o_mvh (show _ = Value.int _ _ from rfl) ?_)
    refine WL.nil ?_
    refine W.block ?_
    refine W.loop (fun e w => ∃ i : Nat, i ≤ D.length ∧ e 14 = dv ∧ e 15 = .int .i64 (D.length : Int) ∧ e 16 = .int .i64 (i : Int) ∧ chkS D = chkA i (D.drop i) ∧ DefR w D dv V ∧ Ext w0 w) (fun e w => D.length - (intOf (e 16)).toNat) ?_ ?_
    · exact ⟨0, Nat.zero_le _, rfl, rfl, rfl, by rw [chkS, if_neg hn]; rfl, hD, hx⟩
    rintro e w ⟨i, hi, h14, h15, h16, hres, hD, hx⟩
    have hm16 := h16
    refine W.seq ?_
    refine W.region ?_
    refine WL.c rfl (o_lt h16 h15 ?_)
    refine WL.nil ?_
    refine W.seq ?_
    refine W.cond rfl (fun c17 => ?_) (fun c17 => ?_)
    · try simp only [decide_eq_true_eq, decide_eq_false_iff_not, Bool.not_eq_true', Bool.not_eq_false', Bool.and_eq_true, Bool.or_eq_true, Bool.and_eq_false_iff, Bool.or_eq_false_iff] at c17
      have hil : i < D.length := by omega
      obtain ⟨tb, to_, tc, rfl, htc⟩ := hD.at hil
      have htd : tyD D i = D[i].ty := by simp [tyD, List.getD_eq_getElem?_getD, hil]
      have hty := hD.tys i hil
      rw [htd] at hty
      rw [show D.getD i df0 = D[i] by simp [List.getD_eq_getElem?_getD, hil]] at htc
      have hdr : D.drop i = D[i] :: D.drop (i + 1) := (List.getElem_cons_drop hil).symm
      have hli := hlim _ (List.getElem_mem hil)
      refine W.skip ?_
      refine W.seq ?_
      refine W.block ?_
      refine W.seq ?_
      refine W.region ?_
      refine WL.c rfl (o_mvh h16 ?_)
      refine WL.c rfl (o_ixB TI22 TI39 h14 h16 (by omega) ?_)
      refine WL.c rfl (o_ldA TI39 rfl rfl htc rfl ?_)
      refine WL.c rfl (o_alB TI39 ?_)
      intro w6 hC6 hx6 hs6
      refine WL.c rfl (o_ash (show _ = Value.int _ _ from rfl) ?_)
      refine WL.u (o_stA TI39 rfl (show _ = Value.agg (dcell D[i] (V i)).toArray from rfl) rfl (by simp only [dcell, List.toArray, Array.toList, List.all_cons, List.all_nil, sl_one1 hty]; rfl) hC6 rfl ?_)
      intro w7 hC7 ho7 hs7
      have hxb := Ext.own hx6 (Nat.le_refl _) ho7
      clear hC6 hx6 hs6 ho7 hs7 htc
      replace hx := hx.tr hxb
      replace hD := hD.ext hxb
      replace hty := hty.ext hxb
      obtain ⟨c6, hc6⟩ : ∃ c, c = w.heap.size := ⟨_, rfl⟩
      rw [← hc6] at hC7 ⊢
      refine WL.nil ?_
      refine W.seq ?_
      refine W.seq ?_
      refine W.region ?_
      refine WL.c rfl (o_fa 0 TI39 rfl TI9 rfl rfl ?_)
      refine WL.c rfl (o_ld TI9 rfl rfl (cell_of hC7 rfl) ?_)
      refine WL.c rfl (o_call Try.call59 (lc rfl ln) ((name_spec D[i].name _ hli.1).mono ?_))
      rintro v23 w23 ⟨rfl, rfl⟩
      refine WL.c rfl (o_not' rfl ?_)
      refine WL.nil ?_
      refine W.cond rfl (fun c24 => ?_) (fun c24 => ?_)
      · try simp only [decide_eq_true_eq, decide_eq_false_iff_not, Bool.not_eq_true', Bool.not_eq_false', Bool.and_eq_true, Bool.or_eq_true, Bool.and_eq_false_iff, Bool.or_eq_false_iff] at c24
        have hnm : nameB D[i].name = false := by simpa using c24
        refine W.seq ?_
        refine W.region ?_
        refine WL.c rfl (o_mvh (show _ = Value.int _ _ from rfl) ?_)
        refine WL.c rfl (o_ash (show _ = Value.int _ _ from rfl) ?_)
        refine WL.c rfl (o_ash (show _ = Value.int _ _ from rfl) ?_)
        refine WL.c rfl (o_ash (show _ = Value.int _ _ from rfl) ?_)
        refine WL.nil ?_
        refine W.ret ?_
        refine ret3v rfl (show _ = Value.int _ _ from rfl) (show _ = Value.int _ _ from rfl) (show _ = Value.int _ _ from rfl) ?_
        rw [hres, hdr, chkA_cons, if_pos hnm]
        exact ⟨rfl, hx⟩
      · try simp only [decide_eq_true_eq, decide_eq_false_iff_not, Bool.not_eq_true', Bool.not_eq_false', Bool.and_eq_true, Bool.or_eq_true, Bool.and_eq_false_iff, Bool.or_eq_false_iff] at c24
        have hnm : nameB D[i].name = true := by simpa using c24
        refine W.skip ?_
        refine W.seq ?_
        refine W.region ?_
        refine WL.c rfl (o_fa 2 TI39 rfl TI37 rfl rfl ?_)
        refine WL.c rfl (o_ld TI37 rfl rfl (cell_of hC7 rfl) ?_)
        refine WL.c rfl (o_call Try.call60 (lc rfl ln) ((checked_spec D[i].ty (V i) _ hty hli.2.1 hli.2.2).mono ?_))
        rintro v29 w29 ⟨rfl, hx29⟩
        replace hx := hx.tr hx29
        replace hD := hD.ext hx29
        refine WL.c rfl (o_mvh (by first | exact (show _ = Value.tuple _ from rfl) | exact rfl) ?_)
        refine WL.c rfl (o_ext rfl rfl ?_)
        refine WL.c rfl (o_ext rfl rfl ?_)
        refine WL.c rfl (o_ash (show _ = Value.int _ _ from rfl) ?_)
        refine WL.c rfl (o_ash (show _ = Value.int _ _ from rfl) ?_)
        refine WL.nil ?_
        refine W.seq ?_
        refine W.region ?_
        refine WL.c rfl (o_mvh (show _ = Value.int _ _ from rfl) ?_)
        refine WL.c rfl (o_ne rfl rfl ?_)
        refine WL.nil ?_
        refine W.cond rfl (fun c33 => ?_) (fun c33 => ?_)
        · try simp only [decide_eq_true_eq, decide_eq_false_iff_not, Bool.not_eq_true', Bool.not_eq_false', Bool.and_eq_true, Bool.or_eq_true, Bool.and_eq_false_iff, Bool.or_eq_false_iff] at c33
          have hce : ¬ (chkT D[i].ty).2 = 0 := by have : (chkT D[i].ty).2 = (chkE [⟨0, 1, 0⟩] 0 D[i].ty).2 := rfl; omega
          refine W.seq ?_
          refine W.region ?_
          refine WL.c rfl (o_mvh (show _ = Value.int _ _ from rfl) ?_)
          refine WL.c rfl (o_mvh (show _ = Value.int _ _ from rfl) ?_)
          refine WL.c rfl (o_mvh (show _ = Value.int _ _ from rfl) ?_)
          refine WL.c rfl (o_ash (show _ = Value.int _ _ from rfl) ?_)
          refine WL.c rfl (o_ash (show _ = Value.int _ _ from rfl) ?_)
          refine WL.c rfl (o_ash (show _ = Value.int _ _ from rfl) ?_)
          refine WL.nil ?_
          refine W.ret ?_
          refine ret3v rfl (show _ = Value.int _ _ from rfl) (show _ = Value.int _ _ from rfl) (show _ = Value.int _ _ from rfl) ?_
          rw [hres, hdr, chkA_cons, if_neg (by simp [hnm]), if_neg hce]
          exact ⟨rfl, hx⟩
        · try simp only [decide_eq_true_eq, decide_eq_false_iff_not, Bool.not_eq_true', Bool.not_eq_false', Bool.and_eq_true, Bool.or_eq_true, Bool.and_eq_false_iff, Bool.or_eq_false_iff] at c33
          have hce : (chkT D[i].ty).2 = 0 := by have : (chkT D[i].ty).2 = (chkE [⟨0, 1, 0⟩] 0 D[i].ty).2 := rfl; omega
          refine W.skip ?_
          refine W.region ?_
          refine WL.c rfl (o_addi h16 rfl (by omega) ?_)
          refine WL.c rfl (o_mvh (show _ = Value.int _ _ from rfl) ?_)
          refine WL.nil ?_
          refine ⟨⟨i + 1, by omega, h14, h15, rfl, ?_, hD, hx⟩, ?_⟩
          · rw [hres, hdr, chkA_cons, if_neg (by simp [hnm]), if_pos hce]
          · show D.length - ((i : Int) + 1).toNat < _
            rw [hm16]; simp [intOf]; omega
    · try simp only [decide_eq_true_eq, decide_eq_false_iff_not, Bool.not_eq_true', Bool.not_eq_false', Bool.and_eq_true, Bool.or_eq_true, Bool.and_eq_false_iff, Bool.or_eq_false_iff] at c17
      have hil : i = D.length := by omega
      rw [hil, List.drop_length, chkA_nil] at hres
      refine W.exit ?_
      refine W.seq ?_
      refine W.region ?_
      refine WL.c rfl (o_ash (show _ = Value.int _ _ from rfl) ?_)
      refine WL.c rfl (o_ash (show _ = Value.int _ _ from rfl) ?_)
      refine WL.c rfl (o_ash (show _ = Value.int _ _ from rfl) ?_)
      refine WL.nil ?_
      refine W.ret ?_
      refine ret3v rfl (show _ = Value.int _ _ from rfl) (show _ = Value.int _ _ from rfl) (show _ = Value.int _ _ from rfl) ?_
      rw [hres]
      exact ⟨rfl, hx⟩
end Go.Proofs.Ytgcehajdldicfaa

set_option linter.unusedSimpArgs false
set_option linter.unusedVariables false
set_option maxRecDepth 100000
namespace Go.Proofs.Ytgcehajdldicfaa
open Go Go.Vc Go.RowKit Go.Proofs

theorem leafE_ok {s : List UInt8} {kn : Int × Int} (h : leafE s = some kn) : kn = (1, 1) ∨ kn = (1, 2) ∨ kn = (1, 4) ∨ kn = (1, 8) ∨ kn = (2, 0) ∨ kn = (3, 0) := by
  unfold leafE at h
  repeat' split at h
  all_goals first | (cases h; simp; done) | cases h
theorem bgn_kind {t : Tk} (hb : bgnT t = true) : t.kind = 1 := by
  unfold bgnT at hb
  rw [Bool.and_eq_true, decide_eq_true_eq] at hb
  exact hb.1
theorem chkE_pz0 {a b : Int} {S : List Opn} {i : Nat} {l : List Ex} : chkE (⟨a, 0, b⟩ :: S) i l = chkE S i l := by
  cases l with
  | nil => rfl
  | cons x xs => rw [chkE_cons, chkE_cons, popZ_z rfl]
def Rise (lo : Int) : List Ex → Int → Prop
  | [], hi => lo ≤ hi
  | y :: l, hi => lo ≤ y.at_ ∧ Rise (y.at_ + 1) l hi
theorem Rise.app : ∀ {L M : List Ex} {a b c : Int}, Rise a L b → Rise b M c → Rise a (L ++ M) c
  | [], M, a, b, c, h1, h2 => by
    show Rise a M c
    cases M with
    | nil => exact Int.le_trans h1 h2
    | cons y l => exact ⟨Int.le_trans h1 h2.1, h2.2⟩
  | y :: l, M, a, b, c, h1, h2 => ⟨h1.1, h1.2.app h2⟩
theorem Rise.lo {L : List Ex} {a a' b : Int} (h : Rise a L b) (ha : a' ≤ a) : Rise a' L b := by
  cases L with
  | nil => exact Int.le_trans ha h
  | cons y l => exact ⟨Int.le_trans ha h.1, h.2⟩
theorem Rise.hi {L : List Ex} : ∀ {a b b' : Int}, Rise a L b → b ≤ b' → Rise a L b' := by
  induction L with
  | nil => intro a b b' h hb; exact Int.le_trans h hb
  | cons y l ih => intro a b b' h hb; exact ⟨h.1, ih h.2 hb⟩
def NdOk (T : List Tk) (y : Ex) : Prop := 0 ≤ y.at_ ∧ (y.label ≠ [] → (tkA T y.at_.toNat).text = y.label) ∧ (y.label = [] → y.kind = 9 → (tkA T y.at_.toNat).kind = 1 → (tkA T y.at_.toNat).text = y.name)
def RiM (T : List Tk) (r : Option (Bool × Nat)) (i : Nat) (x : Ex) (N : List Ex) (j : Nat) : Prop := i < j ∧ j ≤ T.length ∧ match r with
  | none => ((x.at_ < 0 ∧ x.label = []) ∨ (0 ≤ x.at_ ∧ x.at_ < i ∧ (x.label ≠ [] → (tkA T x.at_.toNat).text = x.label) ∧ (x.label = [] → ¬ (tkA T x.at_.toNat).kind = 1))) → Rise (if x.at_ < 0 then i else x.at_) N j ∧ ∀ y ∈ N, NdOk T y
  | some (u, q) => Rise i N j ∧ ∀ y ∈ N, NdOk T y
theorem atE_at {i : Nat} {x : Ex} : (atE i x).at_ = if x.at_ < 0 then (i : Int) else x.at_ := by unfold atE; split <;> rfl
theorem atE_label {i : Nat} {x : Ex} : (atE i x).label = x.label := by unfold atE; split <;> rfl
theorem nd_at {T : List Tk} {i : Nat} {x y : Ex} (hx : (x.at_ < 0 ∧ x.label = []) ∨ (0 ≤ x.at_ ∧ x.at_ < i ∧ (x.label ≠ [] → (tkA T x.at_.toNat).text = x.label) ∧ (x.label = [] → ¬ (tkA T x.at_.toNat).kind = 1))) (ha : y.at_ = (atE i x).at_) (hl : y.label = x.label) (hk : y.kind = 9 → (tkA T i).text = y.name) :
    (if x.at_ < 0 then (i : Int) else x.at_) = y.at_ ∧ y.at_ ≤ (i : Int) ∧ NdOk T y := by
  rw [atE_at] at ha
  rcases hx with ⟨h1, h2⟩ | ⟨h1, h2, h3, h4⟩
  · rw [if_pos h1] at ha ⊢
    refine ⟨ha.symm, by omega, by omega, fun h => absurd (hl.trans h2) h, fun _ h5 _ => ?_⟩
    rw [ha]; exact hk h5
  · rw [if_neg (by omega)] at ha ⊢
    refine ⟨ha.symm, by omega, by omega, fun h => ?_, fun h5 _ h7 => ?_⟩
    · rw [ha, hl]; exact h3 (by rw [← hl]; exact h)
    · rw [ha] at h7; exact absurd h7 (h4 (by rw [← hl]; exact h5))
theorem nm_ne {s : List UInt8} (h : nameB s = true) : s ≠ [] := fun he => by rw [he] at h; cases h
theorem px_rise {T : List Tk} {r : Option (Bool × Nat)} {deep i : Nat} {x : Ex} {N : List Ex} {n j : Nat} (h : PX T r deep i x N n j) : RiM T r i x N j := by
  have hbT : ∀ {i}, bgnT (tkA T i) = true → i < T.length := fun hb => tkA_kind (by decide) (bgn_kind hb)
  have hd0 : ∀ {u i}, hdOk T u i → i < T.length ∧ ((hdE T u i).at_ = (i : Int) ∧ ((hdE T u i).label ≠ [] → (tkA T i).text = (hdE T u i).label) ∧ ((hdE T u i).label = [] → ¬ (tkA T i).kind = 1)) := by
    intro u i hh
    cases u
    · have hh' : nmT (tkA T i) = true := hh
      simp only [nmT, Bool.and_eq_true, decide_eq_true_eq] at hh'
      exact ⟨tkA_kind (by decide) hh'.1, rfl, fun _ => rfl, fun hl => absurd hl (nm_ne hh'.2)⟩
    · have hh' : (tkA T i).kind = 2 := hh
      exact ⟨tkA_kind (by decide) hh', rfl, fun hl => absurd rfl hl, fun _ => by omega⟩
  induction h with
  | @leaf deep i x kn hb hd hl =>
    refine ⟨by omega, hbT hb, fun hx => ?_⟩
    have hk := leafE_ok hl
    obtain ⟨h1, h2, h3⟩ := nd_at (y := (atE i x).lf kn.1 kn.2) hx rfl atE_label (fun h => by rcases hk with rfl | rfl | rfl | rfl | rfl | rfl <;> cases h)
    refine ⟨⟨by omega, by show _ + 1 ≤ _; omega⟩, fun y hy => ?_⟩
    rw [List.mem_singleton] at hy; rw [hy]; exact h3
  | @nm deep i x hb hd hl hv ho hu hs =>
    refine ⟨by omega, hbT hb, fun hx => ?_⟩
    obtain ⟨h1, h2, h3⟩ := nd_at (y := (atE i x).nm (tkA T i).text) hx rfl atE_label (fun h => rfl)
    refine ⟨⟨by omega, by show _ + 1 ≤ _; omega⟩, fun y hy => ?_⟩
    rw [List.mem_singleton] at hy; rw [hy]; exact h3
  | @vec deep i x N j hb hd hl hv h1 hN h2 h3 h4 ih =>
    obtain ⟨q1, q2, q3⟩ := ih
    refine ⟨by omega, isT_lt (by decide) h4, fun hx => ?_⟩
    obtain ⟨g1, g2, g3⟩ := nd_at (y := (atE i x).vec (decide ((tkA T i).text = [108, 105, 115, 116])) (tkA T (j + 1)).n) hx rfl atE_label (fun h => by simp only [Ex.vec] at h; split at h <;> cases h)
    obtain ⟨r1, r2⟩ := q3 (.inl ⟨by decide, rfl⟩)
    rw [if_pos (by decide)] at r1
    refine ⟨⟨by omega, (r1.lo (by omega)).hi (by omega)⟩, fun y hy => ?_⟩
    rcases List.mem_cons.1 hy with rfl | hy
    · exact g3
    · exact r2 y hy
  | @opt deep i x N j hb hd hl ho h1 hN h2 ih =>
    obtain ⟨q1, q2, q3⟩ := ih
    refine ⟨by omega, isT_lt (by decide) h2, fun hx => ?_⟩
    obtain ⟨g1, g2, g3⟩ := nd_at (y := (atE i x).opt) hx rfl atE_label (fun h => by cases h)
    obtain ⟨r1, r2⟩ := q3 (.inl ⟨by decide, rfl⟩)
    rw [if_pos (by decide)] at r1
    refine ⟨⟨by omega, (r1.lo (by omega)).hi (by omega)⟩, fun y hy => ?_⟩
    rcases List.mem_cons.1 hy with rfl | hy
    · exact g3
    · exact r2 y hy
  | @br deep i x u M n j hb hd hl hw h1 hM ih =>
    obtain ⟨q1, q2, r1, r2⟩ := ih
    refine ⟨by omega, q2, fun hx => ?_⟩
    obtain ⟨g1, g2, g3⟩ := nd_at (y := (atE i x).br u (n : Nat)) hx rfl atE_label (fun h => by cases u <;> cases h)
    refine ⟨⟨by omega, r1.lo (by omega)⟩, fun y hy => ?_⟩
    rcases List.mem_cons.1 hy with rfl | hy
    · exact g3
    · exact r2 y hy
  | @last deep i u k N j hk hh hc hN hm hr ih =>
    obtain ⟨q1, q2, q3⟩ := ih
    obtain ⟨p1, p2, p3, p4⟩ := hd0 hh
    obtain ⟨r1, r2⟩ := q3 (.inr ⟨by omega, by omega, fun h => by rw [p2]; exact p3 h, fun h => by rw [p2]; exact p4 h⟩)
    rw [if_neg (by omega), p2] at r1
    exact ⟨by omega, isT_lt (by decide) hr, r1.hi (by omega), r2⟩
  | @more deep i u k N M j n e hk hh hc hN hm hR ih1 ih2 =>
    obtain ⟨q1, q2, q3⟩ := ih1
    obtain ⟨s1, s2, s3, s4⟩ := ih2
    obtain ⟨p1, p2, p3, p4⟩ := hd0 hh
    obtain ⟨r1, r2⟩ := q3 (.inr ⟨by omega, by omega, fun h => by rw [p2]; exact p3 h, fun h => by rw [p2]; exact p4 h⟩)
    rw [if_neg (by omega), p2] at r1
    refine ⟨by omega, s2, (r1.hi (by omega)).app s3, fun y hy => ?_⟩
    rcases List.mem_append.1 hy with hy | hy
    · exact r2 y hy
    · exact s4 y hy
theorem expr_lt {T : List Tk} {f i : Nat} {x : Ex} {deep : Nat} {N : List Ex} {j : Nat} (h : exprT T f i x deep = .ok N j) : i < j ∧ j ≤ T.length := ⟨(px_rise (expr_px _ _ _ _ _ _ h)).1, (px_rise (expr_px _ _ _ _ _ _ h)).2.1⟩
theorem wantT_le {T : List Tk} {i k j : Nat} {s : List UInt8} {a : Unit} (hk : 1 ≤ k) (h : wantT T i k s = .ok a j) : j = i + 1 ∧ i < T.length := ⟨(wantT_ok h).2, isT_lt hk (wantT_ok h).1⟩
theorem headT_le {T : List Tk} {u full : Bool} {i j : Nat} {y : Ex} (h : headT T u full i { ex0 with at_ := i } = .ok y j) : j = i + 1 ∧ i < T.length := by
  obtain ⟨hh, -, rfl, -⟩ := headT_ok h
  refine ⟨rfl, ?_⟩
  cases u
  · have hh' : nmT (tkA T i) = true := hh
    simp only [nmT, Bool.and_eq_true, decide_eq_true_eq] at hh'
    exact tkA_kind (by decide) hh'.1
  · exact tkA_kind (k := 2) (by decide) hh
end Go.Proofs.Ytgcehajdldicfaa

set_option linter.unusedSimpArgs false
set_option linter.unusedVariables false
set_option maxRecDepth 100000
namespace Go.Proofs.Ytgcehajdldicfaa
open Go Go.Vc Go.RowKit Go.Proofs

theorem dec_iff {p q : Prop} [Decidable p] [Decidable q] (h : p ↔ q) : decide p = decide q := decide_eq_decide.2 h
theorem tyD_at {D : List Df} {k : Nat} (hk : k < D.length) : tyD D k = D[k].ty := by simp [tyD, List.getD_eq_getElem?_getD, hk]
theorem getD_at {D : List Df} {k : Nat} (hk : k < D.length) : D.getD k df0 = D[k] := by simp [List.getD_eq_getElem?_getD, hk]
theorem DefR.atk {w : World} {D : List Df} {dv : Value} {V : Nat → Value} (h : DefR w D dv V) {k : Nat} (hk : k < D.length) : ∃ b o c, dv = .slice (some ⟨b, o, none⟩) D.length c ∧ Cells w b (o + k * 3) (dcell D[k] (V k)) ∧ Sl w 7 (V k) D[k].ty.length (exs D[k].ty) := by
  obtain ⟨b, o, c, h1, h2⟩ := h.at hk
  have h3 := h.tys k hk
  rw [getD_at hk] at h2
  rw [tyD_at hk] at h3
  exact ⟨b, o, c, h1, h2, h3⟩

end Go.Proofs.Ytgcehajdldicfaa

set_option linter.unusedSimpArgs false
set_option linter.unusedVariables false
set_option maxRecDepth 100000
namespace Go.Proofs.Ytgcehajdldicfaa
open Go Go.Vc Go.RowKit Go.Proofs

/-- one element less -/
def shr : Value → Value
  | .slice a n c => .slice a (n - 1) c
  | v => v
theorem shr_blk (v : Value) : (shr v).ownBlock = v.ownBlock := by
  cases v with
  | slice a n c => cases a <;> rfl
  | _ => rfl
theorem own_shr {w : World} {base : Nat} {el : TypeId} {s n : Nat} {v : Value} {xs ys : List Value} (h : w.ownsRow base el s v (n + 1) (xs ++ ys)) (hl : xs.length = n * s) : w.ownsRow base el s (shr v) n xs := by
  obtain ⟨g, cap, rfl, hb⟩ := own_some h (by omega)
  have := own_take h (m := n) (by omega)
  rw [List.take_left' hl] at this
  exact this
def exK : Ex := ⟨-77, 0, [], [], 0, 0, 0⟩
def markD : List Value := [st [109, 97, 114, 107], .int .i64 (-78), .slice none 0 0]
theorem drows_len (D : List Df) (V : Nat → Value) : (drows D V).length = D.length * 3 := by
  rw [drows]
  have : ∀ l : List Nat, (l.flatMap fun j => dcell (D.getD j df0) (V j)).length = l.length * 3 := by
    intro l
    induction l with
    | nil => rfl
    | cons a l ih => rw [List.flatMap_cons, List.length_append, ih, dcell_len, List.length_cons]; omega
  rw [this, List.length_range]
/-- sizes that a machine can hold -/
structure DOk (D : List Df) : Prop where
  len : D.length * 48 ≤ 140737488351232
  ty : ∀ d ∈ D, d.ty.length * 72 ≤ 140737488351232
  nm : ∀ d ∈ D, d.name.length ≤ 9223372036854775807
  ex : ∀ d ∈ D, ∀ x ∈ d.ty, x.name.length ≤ 9223372036854775807 ∧ x.label.length ≤ 9223372036854775807
theorem DOk.lim {D : List Df} (h : DOk D) : DLim D := fun d hd => ⟨h.nm d hd, by have := h.ty d hd; omega, h.ex d hd⟩
abbrev lenM (D : List Df) (j : Nat) : Nat := (tyD D j).length + 1
abbrev rowM (D : List Df) (j : Nat) : List Value := exs (tyD D j) ++ exV exK
/-- definitions in rows of our own, a mark behind each -/
structure Lent (w : World) (H : Nat) (D : List Df) (gv : Value) (W : Nat → Value) : Prop where
  row : w.ownsRow H 39 3 gv (D.length + 1) (drows D (fun j => shr (W j)) ++ markD)
  tys : Many w H 26 7 D.length W (lenM D) (rowM D)
theorem Lent.defs {w : World} {H : Nat} {D : List Df} {gv : Value} {W : Nat → Value} (h : Lent w H D gv W) : Defs w H D (shr gv) (fun j => shr (W j)) :=
  ⟨own_shr h.row (drows_len _ _), ⟨fun j hj => own_shr (h.tys.row j hj) (exs_len _), fun i j hi hj hij k hk => by rw [shr_blk] at hk ⊢; exact h.tys.off i j hi hj hij k hk⟩⟩
theorem Lent.only {w w' : World} {H : Nat} {D : List Df} {gv : Value} {W : Nat → Value} {F : Nat → Prop} (h : Lent w H D gv W) (ho : Only F w w') (hn : ∀ k, DF gv W D.length k → ¬ F k) : Lent w' H D gv W :=
  ⟨own_only h.row ho (fun k hk => hn k (.inl hk)), h.tys.only ho (fun j hj k hk => hn k (.inr ⟨j, hj, hk⟩))⟩
theorem Lent.ext {w w' : World} {H : Nat} {D : List Df} {gv : Value} {W : Nat → Value} (h : Lent w H D gv W) (ho : Ext w w') : Lent w' H D gv W := h.only ho (fun _ _ h => h)
theorem Lent.lt {w : World} {H : Nat} {D : List Df} {gv : Value} {W : Nat → Value} (h : Lent w H D gv W) : ∀ k, DF gv W D.length k → H ≤ k ∧ k < w.heap.size := fun k hk => by
  rcases hk with hk | ⟨j, hj, hk⟩
  · exact h.row.lt k hk
  · exact h.tys.lt hj hk
end Go.Proofs.Ytgcehajdldicfaa

set_option linter.unusedSimpArgs false
set_option linter.unusedVariables false
namespace Go.Vc
open Go Go.RowKit Go.ChangeShapes Go.WideShapes

theorem addr_add (a : Addr) (m k : Nat) : (a.add m).add k = a.add (m + k) := by
  unfold Addr.add
  by_cases hm : m = 0 <;> by_cases hk : k = 0 <;> simp [hm, hk, Nat.add_assoc]

theorem list_of {α : Type} (p : Nat → α → Prop) : ∀ n, (∀ i, i < n → ∃ o, p i o) → ∃ os : List α, os.length = n ∧ ∀ i (h : i < os.length), p i os[i]
  | 0, _ => ⟨[], rfl, fun i h => by simp at h⟩
  | n + 1, h => by
    obtain ⟨os, h1, h2⟩ := list_of p n (fun i hi => h i (by omega))
    obtain ⟨o, ho⟩ := h n (by omega)
    refine ⟨os ++ [o], by simp [h1], fun i hi => ?_⟩
    by_cases e : i < os.length
    · rw [List.getElem_append_left e]; exact h2 i e
    · simp at hi
      have e2 : i = n := by omega
      subst e2
      rw [List.getElem_append_right (by omega)]
      simpa [h1] using ho
theorem flatMap_get {α : Type} {cells : α → List Value} {s : Nat} (hlen : ∀ o, (cells o).length = s) : ∀ (os : List α) (idx : Nat) (v : Value), (os.flatMap cells)[idx]? = some v → ∃ i j, ∃ h : i < os.length, idx = i * s + j ∧ (cells os[i])[j]? = some v
  | [], idx, v, h => by simp at h
  | o :: os, idx, v, h => by
    rw [List.flatMap_cons] at h
    by_cases e : idx < s
    · rw [List.getElem?_append_left (by rw [hlen]; exact e)] at h
      exact ⟨0, idx, by simp, by omega, h⟩
    · rw [List.getElem?_append_right (by rw [hlen]; omega), hlen] at h
      obtain ⟨i, j, hi, h1, h2⟩ := flatMap_get hlen os (idx - s) v h
      refine ⟨i + 1, j, by simp; omega, ?_, by simpa using h2⟩
      rw [Nat.add_mul]; omega
theorem weightsAll_mem {H : Type} {P : Program} {e : TypeId} : ∀ {l : List (DataW H)} {d : DataW H} {n : Nat}, d ∈ l → n ∈ d.weights P e → n ∈ DataW.weightsAll P e l
  | d0 :: l, d, n, hd, hn => by
    simp only [DataW.weightsAll, List.mem_append]
    rcases List.mem_cons.1 hd with rfl | hd
    · exact .inl hn
    · exact .inr (weightsAll_mem hd hn)
/-- its weights are within reach -/
def Small {H : Type} (P : Program) (t : TypeId) (d : DataW H) : Prop := ∀ n ∈ d.weights P t, n ≤ reachBytes
theorem Small.top {H : Type} {P : Program} {ts : List TypeId} {ds : List (DataW H)} {j : Nat} {t : TypeId} {d : DataW H} (h : (DataW.weightsEach P ts ds).all (· ≤ reachBytes) = true) (ht : ts[j]? = some t) (hd : ds[j]? = some d) : Small P t d := fun n hn => by
  have := List.all_eq_true.1 h _ (DataW.weights_mem_each ht hd n hn)
  simpa using this
theorem Small.elem {H : Type} {P : Program} {t e : TypeId} {elems spare : List (DataW H)} {d : DataW H} (h : Small P t (.slice elems spare)) (hu : P.underlying t = some (.slice e)) (hd : d ∈ elems) : Small P e d := fun n hn =>
  h n (by simp only [DataW.weights, hu]; exact List.mem_cons_of_mem _ (List.mem_append_left _ (weightsAll_mem hd hn)))
theorem Small.size {H : Type} {P : Program} {t e : TypeId} {elems spare : List (DataW H)} (h : Small P t (.slice elems spare)) (hu : P.underlying t = some (.slice e)) : (elems.length + spare.length) * P.bytesOf e ≤ reachBytes :=
  h _ (by simp only [DataW.weights, hu]; exact List.mem_cons_self ..)
theorem Small.part {H : Type} {P : Program} {t u : TypeId} {fs : Array Field} {parts : List (DataW H)} {i : Nat} {d : DataW H} (h : Small P t (.agg parts)) (hu : P.underlying t = some (.struct fs)) (hf : (fs.toList.map (·.type))[i]? = some u) (hd : parts[i]? = some d) : Small P u d := fun n hn =>
  h n (by simp only [DataW.weights, hu]; exact DataW.weights_mem_each hf hd n hn)
section
variable {H : Type} {enc : TypeId × Value → H} {P : Program} {W : World} {held : Bool}
/-- a slice of what is opened by 'hc' -/
theorem open_rows {α : Type} {t e : TypeId} (s : Nat) (cells : α → List Value) (p : α → Prop) (hu : P.underlying t = some (.slice e)) (hs : P.cellsOf e = s) (hs0 : 0 < s) (hlen : ∀ o, (cells o).length = s)
    (hc : ∀ (n : Nat) (cs : List Value) (y : DataW H × List MemPlace), DataW.trod enc P W 0 (fun _ => true) held n e cs = some y → Small P e y.1 → ∃ o, cs = cells o ∧ p o)
    {fuel : Nat} {v : Value} {x : DataW H × List MemPlace} (h : DataW.trod enc P W 0 (fun _ => true) held fuel t [v] = some x) (hz : Small P t x.1) :
    ∃ os : List α, os.length ≤ maxLen ∧ Sl W s v os.length (os.flatMap cells) ∧ ∀ o ∈ os, p o := by
  rcases DataW.trod_slice hu h with ⟨hcs, hd⟩ | ⟨a, len, cap, elems, rest, n, -, hcs, hx, -, hl, hm, hle, hel, -, -⟩
  · simp only [List.cons.injEq, and_true] at hcs
    subst hcs
    exact ⟨[], Nat.zero_le _, Sl.nil W s, fun o h => by cases h⟩
  · simp only [List.cons.injEq, and_true] at hcs
    subst hcs
    subst hx
    have key : ∀ i, i < len → ∃ o : α, (∀ j v, (cells o)[j]? = some v → W.cell? (a.add (i * s + j)) = some v) ∧ p o := by
      intro i hi
      have he := hel i hi
      rw [List.getElem?_eq_getElem (by omega), hs, Option.bind_eq_some_iff] at he
      obtain ⟨cs, h1, h2⟩ := he
      obtain ⟨-, h4, h5⟩ := World.cells?_some h1
      obtain ⟨o, ho, hp⟩ := hc n cs _ h2 (hz.elem hu (List.mem_map.2 ⟨_, List.getElem_mem (by omega), rfl⟩))
      subst ho
      refine ⟨o, fun j v hj => ?_, hp⟩
      have hjs : j < s := by have := (List.getElem?_eq_some_iff.1 hj).1; rw [hlen] at this; exact this
      have := h5 j hjs
      rw [← hj, ← this, addr_add]
    obtain ⟨os, ho1, ho2⟩ := list_of _ len key
    refine ⟨os, by omega, ⟨?_, ?_⟩, fun o ho => ?_⟩
    · clear ho2 ho1
      induction os with
      | nil => simp
      | cons o os ih => rw [List.flatMap_cons, List.length_append, hlen, ih, List.length_cons, Nat.add_mul]; omega
    · by_cases h0 : len = 0
      · subst h0; exact .inl ⟨ho1, _, _, rfl⟩
      · obtain ⟨b, off, spot⟩ := a
        have h00 := (ho2 0 (by omega)).1 0 ((cells (os[0]'(by omega)))[0]'(by rw [hlen]; exact hs0)) (List.getElem?_eq_getElem _)
        have hsp : spot = none := by simpa [Addr.add] using World.cell?_spot h00
        subst hsp
        refine .inr ⟨b, off, cap, by rw [ho1], by omega, fun idx u hu => ?_⟩
        obtain ⟨i, j, hi, h1, h2⟩ := flatMap_get hlen os idx u hu
        have h3 := (ho2 i hi).1 j u h2
        rw [h1, ← h3, add_none]
    · obtain ⟨i, hi, rfl⟩ := List.getElem_of_mem ho
      exact (ho2 i hi).2
/-- a struct's field -/
theorem open_field {t u : TypeId} {fs : Array Field} {f : Field} (i off s : Nat) (hu : P.underlying t = some (.struct fs)) (hf : fs[i]? = some f) (ht : f.type = u) (ho : f.offset = off) (hs : P.cellsOf u = s) {fuel : Nat} {cs : List Value} {x : DataW H × List MemPlace}
    (h : DataW.trod enc P W 0 (fun _ => true) held fuel t cs = some x) (hz : Small P t x.1) : ∃ n y, DataW.trod enc P W 0 (fun _ => true) held n u ((cs.drop off).take s) = some y ∧ Small P u y.1 := by
  subst ht ho hs
  obtain ⟨xs, n, -, hx, -, hl, hall⟩ := DataW.trod_struct hu h
  have hi : i < fs.size := (Array.getElem?_eq_some_iff.1 hf).1
  have h1 := hall i f hf
  rw [List.getElem?_eq_getElem (by omega)] at h1
  refine ⟨n, _, h1, ?_⟩
  subst hx
  refine hz.part hu (i := i) ?_ ?_
  · rw [List.getElem?_map, Array.getElem?_toList, hf]; rfl
  · rw [List.getElem?_map, List.getElem?_eq_getElem (by omega)]; rfl
theorem open_struct_len {t : TypeId} {fs : Array Field} {s : Nat} (hu : P.underlying t = some (.struct fs)) (hs : P.cellsOf t = s) {fuel : Nat} {cs : List Value} {x : DataW H × List MemPlace} (h : DataW.trod enc P W 0 (fun _ => true) held fuel t cs = some x) : cs.length = s := by
  obtain ⟨xs, n, -, -, h1, -⟩ := DataW.trod_struct hu h
  rw [h1, hs]
end
end Go.Vc

set_option linter.unusedSimpArgs false
set_option linter.unusedVariables false
set_option maxRecDepth 100000
namespace Go.Proofs.Ytgcehajdldicfaa
open Go Go.Vc Go.RowKit Go.Proofs

theorem rows_bytes {H : Type} {enc : TypeId × Value → H} {P : Program} {W : World} {held : Bool} {t e : TypeId} (hu : P.underlying t = some (.slice e)) {fuel : Nat} {a : Option Addr} {n c : Nat} {x : DataW H × List MemPlace}
    (h : DataW.trod enc P W 0 (fun _ => true) held fuel t [.slice a n c] = some x) (hz : Small P t x.1) : n * P.bytesOf e ≤ reachBytes := by
  rcases DataW.trod_slice hu h with ⟨hcs, hd⟩ | ⟨a', len, cap, elems, rest, k, -, hcs, hx, -, hl, hm, hle, hel, -, -⟩
  · simp only [List.cons.injEq, and_true, Value.slice.injEq] at hcs
    rw [hcs.2.1, Nat.zero_mul]
    exact Nat.zero_le _
  · simp only [List.cons.injEq, and_true, Value.slice.injEq] at hcs
    subst hx
    have h1 := hz.size hu
    simp only [List.length_map, List.length_take, List.length_drop] at h1
    obtain ⟨-, rfl, -⟩ := hcs
    refine Nat.le_trans (Nat.mul_le_mul_right _ ?_) h1
    omega
theorem seven_cells {cs : List Value} (h : cs.length = 7) : ∃ a b c d e f g, cs = [a, b, c, d, e, f, g] := by
  match cs, h with
  | [a, b, c, d, e, f, g], _ => exact ⟨a, b, c, d, e, f, g, rfl⟩
theorem three_cells {cs : List Value} (h : cs.length = 3) : ∃ a b c, cs = [a, b, c] := by
  match cs, h with
  | [a, b, c], _ => exact ⟨a, b, c, rfl⟩
theorem str_list {s : ByteArray} : Value.string s = st s.data.toList := by
  cases s; simp [st]
theorem size_list {s : ByteArray} (h : s.size ≤ maxLen) : s.data.toList.length ≤ 9223372036854775807 := by
  rw [maxLen_eq] at h; simpa using h
def ExOk (x : Ex) : Prop := x.name.length ≤ 9223372036854775807 ∧ x.label.length ≤ 9223372036854775807
section
variable {H : Type} {enc : TypeId × Value → H} {W : World} {held : Bool}
theorem open_expr {n : Nat} {cs : List Value} {y : DataW H × List MemPlace} (h : DataW.trod enc Try.prog W 0 (fun _ => true) held n 26 cs = some y) (hz : Small Try.prog 26 y.1) : ∃ x : Ex, cs = exV x ∧ ExOk x := by
  have hl := open_struct_len (s := 7) Try.underlying26 (by kernel_rfl) h
  obtain ⟨a, b, c, d, e, f, g, rfl⟩ := seven_cells hl
  obtain ⟨n0, y0, h0, -⟩ := open_field 0 0 1 Try.underlying26 rfl rfl rfl (by kernel_rfl) h hz
  obtain ⟨n1, y1, h1, -⟩ := open_field 1 1 1 Try.underlying26 rfl rfl rfl (by kernel_rfl) h hz
  obtain ⟨n2, y2, h2, -⟩ := open_field 2 2 1 Try.underlying26 rfl rfl rfl (by kernel_rfl) h hz
  obtain ⟨n3, y3, h3, -⟩ := open_field 3 3 1 Try.underlying26 rfl rfl rfl (by kernel_rfl) h hz
  obtain ⟨n4, y4, h4, -⟩ := open_field 4 4 1 Try.underlying26 rfl rfl rfl (by kernel_rfl) h hz
  obtain ⟨n5, y5, h5, -⟩ := open_field 5 5 1 Try.underlying26 rfl rfl rfl (by kernel_rfl) h hz
  obtain ⟨n6, y6, h6, -⟩ := open_field 6 6 1 Try.underlying26 rfl rfl rfl (by kernel_rfl) h hz
  obtain ⟨k0, e0, -, -⟩ := DataW.trod_int Try.underlying3 h0
  obtain ⟨k1, e1, -, -⟩ := DataW.trod_int Try.underlying3 h1
  obtain ⟨k2, e2, -, l2⟩ := DataW.trod_string Try.underlying9 h2
  obtain ⟨k3, e3, -, l3⟩ := DataW.trod_string Try.underlying9 h3
  obtain ⟨k4, e4, -, -⟩ := DataW.trod_int Try.underlying3 h4
  obtain ⟨k5, e5, -, -⟩ := DataW.trod_int Try.underlying3 h5
  obtain ⟨k6, e6, -, -⟩ := DataW.trod_int Try.underlying3 h6
  simp only [List.drop_zero, List.drop_succ_cons, List.take_succ_cons, List.take_zero, List.cons.injEq, and_true] at e0 e1 e2 e3 e4 e5 e6
  refine ⟨⟨k0, k1, k2.data.toList, k3.data.toList, k4, k5, k6⟩, ?_, size_list l2, size_list l3⟩
  rw [e0, e1, e2, e3, e4, e5, e6, str_list, str_list]
  rfl
theorem open_exprs {n : Nat} {v : Value} {y : DataW H × List MemPlace} (h : DataW.trod enc Try.prog W 0 (fun _ => true) held n 37 [v] = some y) (hz : Small Try.prog 37 y.1) :
    ∃ l : List Ex, Sl W 7 v l.length (exs l) ∧ l.length * 72 ≤ 140737488351232 ∧ ∀ x ∈ l, ExOk x := by
  obtain ⟨l, -, h1, h2⟩ := open_rows 7 exV ExOk Try.underlying37 (by kernel_rfl) (by decide) (fun _ => rfl) (fun n cs y hy hz => open_expr hy hz) (v := v) h hz
  refine ⟨l, h1, ?_, h2⟩
  obtain ⟨a, c, rfl⟩ := h1.isSlice
  have := rows_bytes Try.underlying37 h hz
  rw [show (Try.prog).bytesOf 26 = 72 by kernel_rfl, reachBytes] at this
  exact this
abbrev DfV := Df × Value
def dfV (o : DfV) : List Value := dcell o.1 o.2
def DfOk (W : World) (o : DfV) : Prop := Sl W 7 o.2 o.1.ty.length (exs o.1.ty) ∧ o.1.name.length ≤ 9223372036854775807 ∧ o.1.ty.length * 72 ≤ 140737488351232 ∧ ∀ x ∈ o.1.ty, ExOk x
theorem open_def {n : Nat} {cs : List Value} {y : DataW H × List MemPlace} (h : DataW.trod enc Try.prog W 0 (fun _ => true) held n 39 cs = some y) (hz : Small Try.prog 39 y.1) : ∃ o : DfV, cs = dfV o ∧ DfOk W o := by
  have hl := open_struct_len (s := 3) Try.underlying39 (by kernel_rfl) h
  obtain ⟨a, b, c, rfl⟩ := three_cells hl
  obtain ⟨n0, y0, h0, -⟩ := open_field 0 0 1 Try.underlying39 rfl rfl rfl (by kernel_rfl) h hz
  obtain ⟨n1, y1, h1, -⟩ := open_field 1 1 1 Try.underlying39 rfl rfl rfl (by kernel_rfl) h hz
  obtain ⟨n2, y2, h2, z2⟩ := open_field 2 2 1 Try.underlying39 rfl rfl rfl (by kernel_rfl) h hz
  obtain ⟨k0, e0, -, l0⟩ := DataW.trod_string Try.underlying9 h0
  obtain ⟨k1, e1, -, -⟩ := DataW.trod_int Try.underlying3 h1
  obtain ⟨l, hS, hb, hok⟩ := open_exprs h2 z2
  simp only [List.drop_zero, List.drop_succ_cons, List.take_succ_cons, List.take_zero, List.cons.injEq, and_true] at e0 e1
  refine ⟨(⟨k0.data.toList, k1, l⟩, c), ?_, hS, size_list l0, hb, hok⟩
  rw [e0, e1, str_list]
  rfl
theorem open_source {n : Nat} {cs : List Value} {y : DataW H × List MemPlace} (h : DataW.trod enc Try.prog W 0 (fun _ => true) held n 24 cs = some y) (hz : Small Try.prog 24 y.1) : ∃ D dv V, cs = [dv] ∧ DefR W D dv V ∧ DOk D := by
  have hl := open_struct_len (s := 1) Try.underlying24 (by kernel_rfl) h
  obtain ⟨a, rfl⟩ := List.length_eq_one_iff.1 hl
  obtain ⟨n0, y0, h0, z0⟩ := open_field 0 0 1 Try.underlying24 rfl rfl rfl (by kernel_rfl) h hz
  simp only [List.drop_zero, List.take_succ_cons, List.take_zero] at h0
  obtain ⟨os, -, h1, h2⟩ := open_rows 3 dfV (DfOk W) Try.underlying22 (by kernel_rfl) (by decide) (fun _ => rfl) (fun n cs y hy hz => open_def hy hz) (v := a) h0 z0
  have hb : os.length * 48 ≤ 140737488351232 := by
    obtain ⟨b, c, rfl⟩ := h1.isSlice
    have := rows_bytes Try.underlying22 h0 z0
    rw [show (Try.prog).bytesOf 39 = 48 by kernel_rfl, reachBytes] at this
    exact this
  have hg : ∀ j (hj : j < os.length), (os.map Prod.fst).getD j df0 = os[j].1 := fun j hj => by simp [List.getD_eq_getElem?_getD, hj]
  have hr : drows (os.map Prod.fst) (fun j => (os.getD j (df0, undef)).2) = os.flatMap dfV := by
    rw [drows, List.length_map]
    have : ∀ (n : Nat), n ≤ os.length → ((List.range n).flatMap fun j => dcell ((os.map Prod.fst).getD j df0) ((os.getD j (df0, undef)).2)) = (os.take n).flatMap dfV := by
      intro n
      induction n with
      | zero => intro _; rfl
      | succ n ih =>
        intro hn
        rw [List.range_succ, List.flatMap_append, ih (by omega), List.flatMap_singleton, hg n hn, List.take_add_one, List.flatMap_append]
        simp [List.getD_eq_getElem?_getD, List.getElem?_eq_getElem (show n < os.length by omega), dfV]
    rw [this _ (Nat.le_refl _), List.take_length]
  refine ⟨os.map Prod.fst, a, fun j => (os.getD j (df0, undef)).2, rfl, ⟨?_, fun j hj => ?_⟩, ⟨by rw [List.length_map]; exact hb, ?_, ?_, ?_⟩⟩
  · rw [hr, List.length_map]; exact h1
  · have hj' : j < os.length := by simpa using hj
    have := h2 os[j] (List.getElem_mem hj')
    rw [tyD, hg j hj']
    have e : (os.getD j (df0, undef)) = os[j] := by simp [List.getD_eq_getElem?_getD, hj']
    rw [e]
    exact this.1
  all_goals
    intro d hd
    obtain ⟨o, ho, rfl⟩ := List.mem_map.1 hd
    obtain ⟨-, g1, g2, g3⟩ := h2 o ho
    first | exact g2 | exact g1 | exact g3
end
def setE (D : List Df) (d n : Nat) (x : Ex) : List Df := D.set d { D.getD d df0 with ty := (tyD D d).set n x }
theorem setE_len (D : List Df) (d n : Nat) (x : Ex) : (setE D d n x).length = D.length := by rw [setE, List.length_set]
theorem setE_at {D : List Df} {d n : Nat} {x : Ex} (j : Nat) : (setE D d n x).getD j df0 = if j = d ∧ d < D.length then { D.getD d df0 with ty := (tyD D d).set n x } else D.getD j df0 := by
  rw [setE, List.getD_eq_getElem?_getD, List.getElem?_set]
  by_cases h : d = j
  · subst h
    by_cases h2 : d < D.length
    · simp [h2]
    · simp [h2, List.getD_eq_getElem?_getD]
  · rw [if_neg h, if_neg (fun hh => h hh.1.symm), List.getD_eq_getElem?_getD]
theorem Defs.setE {w w' : World} {H : Nat} {D : List Df} {lv : Value} {V : Nat → Value} (h : Defs w H D lv V) {d n : Nat} {x : Ex} (hd : d < D.length) (ho : Only (fun k => (V d).ownBlock = some k) w w')
    (hr : w'.ownsRow H 26 7 (V d) (tyD D d).length (exs ((tyD D d).set n x))) : Defs w' H (setE D d n x) lv V := by
  have hrows : drows (Go.Proofs.Ytgcehajdldicfaa.setE D d n x) V = drows D V := by
    rw [drows, drows, setE_len]
    refine dfm_congr fun j hj => ?_
    rw [setE_at]
    split
    · rename_i hh; rw [hh.1]; rfl
    · rfl
  refine ⟨by rw [hrows, setE_len]; exact own_only h.row ho (fun k hk hF => own_row_off h.row (h.tys.row d hd) (by decide) k hF hk), ?_⟩
  rw [setE_len]
  refine (h.tys.set hd ho hr).congr (fun _ _ => rfl) (fun j hj => ?_) (fun j hj => ?_)
  · rw [tyD, setE_at]
    by_cases e : j = d
    · rw [if_pos ⟨e, hd⟩, if_pos e, List.length_set]
    · rw [if_neg (fun hh => e hh.1), if_neg e]; rfl
  · rw [tyD, setE_at]
    by_cases e : j = d
    · rw [if_pos ⟨e, hd⟩, if_pos e]
    · rw [if_neg (fun hh => e hh.1), if_neg e]; rfl
theorem DOk.setE {D : List Df} {d n : Nat} {x : Ex} (h : DOk D) (hx : ExOk x) : DOk (setE D d n x) := by
  have hm : ∀ e ∈ Go.Proofs.Ytgcehajdldicfaa.setE D d n x, e ∈ D ∨ (d < D.length ∧ e = { D.getD d df0 with ty := (tyD D d).set n x }) := by
    intro e he
    by_cases hd : d < D.length
    · rcases List.mem_or_eq_of_mem_set he with h1 | h1
      · exact .inl h1
      · exact .inr ⟨hd, h1⟩
    · rw [Go.Proofs.Ytgcehajdldicfaa.setE, List.set_eq_of_length_le (by omega)] at he
      exact .inl he
  have hmem : d < D.length → D.getD d df0 ∈ D := fun hd => by rw [getD_at hd]; exact List.getElem_mem hd
  refine ⟨by rw [setE_len]; exact h.len, fun e he => ?_, fun e he => ?_, fun e he y hy => ?_⟩
  · rcases hm e he with h1 | ⟨hd, rfl⟩
    · exact h.ty e h1
    · show ((tyD D d).set n x).length * 72 ≤ _
      rw [List.length_set]; exact h.ty _ (hmem hd)
  · rcases hm e he with h1 | ⟨hd, rfl⟩
    · exact h.nm e h1
    · exact h.nm (D.getD d df0) (hmem hd)
  · rcases hm e he with h1 | ⟨hd, rfl⟩
    · exact h.ex e h1 y hy
    · rcases List.mem_or_eq_of_mem_set hy with h2 | rfl
      · exact h.ex (D.getD d df0) (hmem hd) y h2
      · exact hx

end Go.Proofs.Ytgcehajdldicfaa

set_option linter.unusedSimpArgs false
set_option linter.unusedVariables false
set_option maxRecDepth 100000
namespace Go.Proofs.Ytgcehajdldicfaa
open Go Go.Vc Go.RowKit Go.Proofs

/-- definitions whose places rise -/
def RiD (T : List Tk) : Int → List Df → Prop
  | _, [] => True
  | lo, d :: ds => lo ≤ d.at_ ∧ 0 ≤ d.at_ ∧ d.at_ < T.length ∧ (tkA T d.at_.toNat).kind = 1 ∧ (tkA T d.at_.toNat).text = d.name ∧ (∃ hi : Int, hi ≤ T.length ∧ Rise (d.at_ + 1) d.ty hi ∧ RiD T hi ds) ∧ ∀ y ∈ d.ty, NdOk T y
theorem RiD.lo {T : List Tk} {a b : Int} {D : List Df} (h : RiD T b D) (hab : a ≤ b) : RiD T a D := by
  cases D with
  | nil => trivial
  | cons d ds => exact ⟨Int.le_trans hab h.1, h.2⟩
/-- lengths -/
theorem Rise.len {L : List Ex} : ∀ {a b : Int}, Rise a L b → (L.length : Int) ≤ b - a := by
  induction L with
  | nil => intro a b h; have : a ≤ b := h; simp; omega
  | cons y l ih => intro a b h; have h1 := ih h.2; have h2 := h.1; rw [List.length_cons]; omega
end Go.Proofs.Ytgcehajdldicfaa

set_option linter.unusedSimpArgs false
set_option linter.unusedVariables false
set_option maxRecDepth 100000
namespace Go.Proofs.Ytgcehajdldicfaa
open Go Go.Vc Go.RowKit Go.Proofs
/-- the same, further behind -/
def shiftT (k : Nat) (t : Tk) : Tk := ⟨t.kind, t.text, t.n, k + t.at_, k + t.fin⟩
theorem runL_shift (p : UInt8 → Bool) (xs : List UInt8) (k j : Nat) : runL p xs (k + j) = k + runL p (xs.drop k) j := by
  unfold runL
  rw [List.drop_drop]; omega
theorem sub_shift (xs : List UInt8) (k l h : Nat) : sub xs (k + l) (k + h) = sub (xs.drop k) l h := by
  unfold sub
  rw [← List.drop_drop, List.drop_take, Nat.add_sub_cancel_left]
theorem oneL_shift (xs : List UInt8) (k j : Nat) (h : k + j < xs.length) (h' : j < (xs.drop k).length) : (oneL xs (k + j) h).1 = (oneL (xs.drop k) j h').1 ∧ ((oneL (xs.drop k) j h').1 = 0 → (oneL xs (k + j) h).2 = shiftT k (oneL (xs.drop k) j h').2) := by
  have he : (xs.drop k)[j] = xs[k + j] := by simp
  unfold oneL
  rw [he]
  by_cases h1 : letB xs[k + j] = true
  · rw [if_pos h1, if_pos h1, runL_shift, sub_shift]
    by_cases h2 : 32 < k + runL goeB (xs.drop k) j - (k + j)
    · rw [if_pos h2, if_pos (by omega)]; exact ⟨rfl, fun h => by simp at h⟩
    · rw [if_neg h2, if_neg (by omega)]; exact ⟨rfl, fun _ => rfl⟩
  · rw [if_neg h1, if_neg h1]
    by_cases h2 : digB xs[k + j] = true
    · rw [if_pos h2, if_pos h2, runL_shift, sub_shift]; exact ⟨rfl, fun _ => rfl⟩
    · rw [if_neg h2, if_neg h2]
      by_cases h3 : markB xs[k + j] = true
      · rw [if_pos h3, if_pos h3, Nat.add_assoc, sub_shift]; exact ⟨rfl, fun _ => rfl⟩
      · rw [if_neg h3, if_neg h3]; exact ⟨rfl, fun h => by simp at h⟩


def Pr.sh {α β : Type} (m : Nat) (g : α → β) : Pr α → Pr β
  | .ok a i => .ok (g a) (m + i)
  | .bad e i => .bad e (m + i)
theorem bind_sh {α α' β β' : Type} {m : Nat} {g : α → α'} {h : β → β'} {r : Pr α} {F : α → Nat → Pr β} {F' : α' → Nat → Pr β'} (hF : ∀ a i, r = .ok a i → F' (g a) (m + i) = (F a i).sh m h) : (r.sh m g).bind F' = (r.bind F).sh m h := by
  cases r with
  | ok a i => exact hF a i rfl
  | bad e i => rfl
/-- tokens that differ in places alone, from the m-th on -/
structure Like (m : Nat) (T T2 : List Tk) : Prop where
  len : T.length = m + T2.length
  tok : ∀ i, (tkA T (m + i)).kind = (tkA T2 i).kind ∧ (tkA T (m + i)).text = (tkA T2 i).text ∧ (tkA T (m + i)).n = (tkA T2 i).n
def shE (m : Nat) (x : Ex) : Ex := if x.at_ < 0 then x else { x with at_ := x.at_ + m }
theorem Like.eqT {m : Nat} {T T2 : List Tk} (h : Like m T T2) (i k : Nat) (s : List UInt8) : isT (tkA T (m + i)) k s = isT (tkA T2 i) k s := by
  unfold isT; rw [(h.tok i).1, (h.tok i).2.1]
theorem Like.eqN {m : Nat} {T T2 : List Tk} (h : Like m T T2) (i : Nat) : nmT (tkA T (m + i)) = nmT (tkA T2 i) := by
  unfold nmT; rw [(h.tok i).1, (h.tok i).2.1]
theorem Like.bgn {m : Nat} {T T2 : List Tk} (h : Like m T T2) (i : Nat) : bgnT (tkA T (m + i)) = bgnT (tkA T2 i) := by
  unfold bgnT; rw [(h.tok i).1, (h.tok i).2.1]
theorem Like.want {m : Nat} {T T2 : List Tk} (h : Like m T T2) (i k : Nat) (s : List UInt8) : wantT T (m + i) k s = (wantT T2 i k s).sh m id := by
  unfold wantT; rw [h.eqT]; split <;> rfl
theorem Like.num {m : Nat} {T T2 : List Tk} (h : Like m T T2) (i : Nat) : numT T (m + i) = (numT T2 i).sh m id := by
  unfold numT; rw [(h.tok i).1, (h.tok i).2.2]; split <;> rfl
theorem Like.name {m : Nat} {T T2 : List Tk} (h : Like m T T2) (i : Nat) : nameT T (m + i) = (nameT T2 i).sh m id := by
  unfold nameT; rw [h.eqN, (h.tok i).2.1]; split <;> rfl
theorem shE_0 {m i : Nat} {x : Ex} (h : x.at_ = (i : Int)) : shE m x = { x with at_ := ((m + i : Nat) : Int) } := by
  obtain ⟨k, n, nm, l, t, kd, a⟩ := x
  have h : a = (i : Int) := h
  have h2 : ¬ a < 0 := by omega
  simp only [shE, h2, if_false, Ex.mk.injEq, true_and]; omega
theorem shE_exM {m : Nat} : shE m exM = exM := rfl
theorem shE_atE {m i : Nat} {x : Ex} : atE (m + i) (shE m x) = shE m (atE i x) := by
  obtain ⟨k, n, nm, l, t, kd, a⟩ := x
  by_cases h : a < 0
  · have h2 : ¬ (i : Int) < 0 := by omega
    simp only [shE, atE, h, h2, if_true, if_false, Ex.mk.injEq, true_and]; omega
  · have h2 : ¬ a + (m : Int) < 0 := by omega
    simp only [shE, atE, h, h2, if_true, if_false]
theorem shE_lf {m : Nat} {x : Ex} {a b : Int} : (shE m x).lf a b = shE m (x.lf a b) := by unfold shE Ex.lf; split <;> rfl
theorem shE_vec {m : Nat} {x : Ex} {b : Bool} {n : Int} : (shE m x).vec b n = shE m (x.vec b n) := by
  obtain ⟨kd, n', nm, l, t, kk, a⟩ := x
  by_cases h : a < 0 <;> simp [shE, Ex.vec, h]
theorem shE_opt {m : Nat} {x : Ex} : (shE m x).opt = shE m x.opt := by unfold shE Ex.opt; split <;> rfl
theorem shE_br {m : Nat} {x : Ex} {u : Bool} {n : Int} : (shE m x).br u n = shE m (x.br u n) := by
  obtain ⟨kd, n', nm, l, t, kk, a⟩ := x
  by_cases h : a < 0 <;> simp [shE, Ex.br, h]
theorem shE_nm {m : Nat} {x : Ex} {s : List UInt8} : (shE m x).nm s = shE m (x.nm s) := by unfold shE Ex.nm; split <;> rfl
theorem Like.head {m : Nat} {T T2 : List Tk} (h : Like m T T2) (u full : Bool) (i : Nat) : headT T u full (m + i) { ex0 with at_ := ((m + i : Nat) : Int) } = (headT T2 u full i { ex0 with at_ := (i : Int) }).sh m (shE m) := by
  cases u
  · rw [headT_s, headT_s, h.eqN]
    split
    · rfl
    · rw [h.name]
      refine bind_sh fun a j hh => ?_
      show Pr.ok _ _ = Pr.ok _ _
      rw [shE_0 (i := i) rfl]; rfl
  · rw [headT_u, headT_u, (h.tok i).1]
    split
    · rfl
    · rw [h.num]
      refine bind_sh fun a j hh => ?_
      show Pr.ok _ _ = Pr.ok _ _
      rw [shE_0 (i := i) rfl]; rfl
theorem Like.rows {m : Nat} {T T2 : List Tk} (h : Like m T T2) {u : Bool} {i0 : Nat} {E E2 : Nat → Ex → Pr (List Ex)} (hE : ∀ i x, i0 ≤ i → i ≤ T2.length → E (m + i) (shE m x) = (E2 i x).sh m (List.map (shE m))) (hE2 : ∀ i x N j, E2 i x = .ok N j → i < j ∧ j ≤ T2.length) :
    ∀ (g g2 i k : Nat), i0 ≤ i → i ≤ T2.length → T2.length + 2 ≤ g + i → T2.length + 2 ≤ g2 + i → rowsT E T u g (m + i) k = (rowsT E2 T2 u g2 i k).sh m (fun r => (r.1.map (shE m), r.2))
  | 0, g2, i, k, h0, hi, hg, hg2 => by omega
  | g + 1, 0, i, k, h0, hi, hg, hg2 => by omega
  | g + 1, g2 + 1, i, k, h0, hi, hg, hg2 => by
    rw [rowsT_s, rowsT_s, h.head]
    refine bind_sh fun y i1 h1 => ?_
    obtain ⟨rfl, hi1⟩ := headT_le h1
    rw [h.want]
    refine bind_sh fun _ i2 h2 => ?_
    obtain ⟨rfl, hi2⟩ := wantT_le (by decide) h2
    rw [hE _ _ (by omega) (by omega)]
    refine bind_sh fun N j h3 => ?_
    obtain ⟨b1, b2⟩ := hE2 _ _ _ _ h3
    rw [h.eqT]
    split
    · rename_i hm
      have hm2 := isT_lt (by decide) hm
      rw [show m + j + 1 = m + (j + 1) by omega, Like.rows h hE hE2 g g2 (j + 1) (k + 1) (by omega) (by omega) (by omega) (by omega)]
      refine bind_sh fun r j2 h4 => ?_
      show Pr.ok (_, _) _ = Pr.ok (List.map _ (_ ++ _), _) _
      rw [List.map_append]
    · rw [h.want]
      exact bind_sh fun _ j2 h4 => rfl
theorem Like.expr {m : Nat} {T T2 : List Tk} (h : Like m T T2) : ∀ (f f2 i : Nat) (x : Ex) (deep : Nat), i ≤ T2.length → T2.length + 2 ≤ f + i → T2.length + 2 ≤ f2 + i → exprT T f (m + i) (shE m x) deep = (exprT T2 f2 i x deep).sh m (List.map (shE m))
  | 0, f2, i, x, deep, hi, hf, hf2 => by omega
  | f + 1, 0, i, x, deep, hi, hf, hf2 => by omega
  | f + 1, f2 + 1, i, x, deep, hi, hf, hf2 => by
    rw [exprT_s, exprT_s, h.bgn, (h.tok i).2.1]
    split
    · rfl
    · rename_i hb
      have hil : i < T2.length := tkA_kind (by decide) (bgn_kind (by simpa using hb))
      split
      · rfl
      · split
        · show Pr.ok _ _ = Pr.ok _ _
          rw [shE_atE, shE_lf]; rfl
        · split
          · rw [show m + i + 1 = m + (i + 1) by omega, h.want]
            refine bind_sh fun _ i1 h1 => ?_
            obtain ⟨rfl, hi1⟩ := wantT_le (by decide) h1
            rw [← shE_exM (m := m), Like.expr h f f2 _ _ _ (by omega) (by omega) (by omega)]
            refine bind_sh fun N i2 h2 => ?_
            obtain ⟨b1, b2⟩ := expr_lt h2
            rw [h.want]
            refine bind_sh fun _ i3 h3 => ?_
            rw [h.num]
            refine bind_sh fun n i4 h4 => ?_
            rw [h.want]
            refine bind_sh fun _ i5 h5 => ?_
            show Pr.ok _ _ = Pr.ok _ _
            rw [shE_atE, shE_vec]; rfl
          · split
            · rw [show m + i + 1 = m + (i + 1) by omega, h.want]
              refine bind_sh fun _ i1 h1 => ?_
              obtain ⟨rfl, hi1⟩ := wantT_le (by decide) h1
              rw [← shE_exM (m := m), Like.expr h f f2 _ _ _ (by omega) (by omega) (by omega)]
              refine bind_sh fun N i2 h2 => ?_
              rw [h.want]
              refine bind_sh fun _ i3 h3 => ?_
              show Pr.ok _ _ = Pr.ok _ _
              rw [shE_atE, shE_opt]; rfl
            · have hrow : ∀ (u : Bool), (((wantT T (m + i + 1) 3 [123]).bind fun _ j => rowsT (fun i x => exprT T f i x (deep + 1)) T u f j 0).bind fun r j => (.ok ((atE (m + i) (shE m x)).br u (r.2 : Nat) :: r.1) j : Pr (List Ex))) =
                  (((wantT T2 (i + 1) 3 [123]).bind fun _ j => rowsT (fun i x => exprT T2 f2 i x (deep + 1)) T2 u f2 j 0).bind fun r j => (.ok ((atE i x).br u (r.2 : Nat) :: r.1) j : Pr (List Ex))).sh m (List.map (shE m)) := by
                intro u
                rw [show m + i + 1 = m + (i + 1) by omega, h.want]
                have := bind_sh (m := m) (g := id) (h := fun r : List Ex × Nat => (r.1.map (shE m), r.2)) (r := wantT T2 (i + 1) 3 [123]) (F := fun _ j => rowsT (fun i x => exprT T2 f2 i x (deep + 1)) T2 u f2 j 0) (F' := fun _ j => rowsT (fun i x => exprT T f i x (deep + 1)) T u f j 0) (fun _ i1 h1 => by
                  obtain ⟨rfl, hi1⟩ := wantT_le (by decide) h1
                  exact Like.rows h (i0 := i + 1 + 1) (fun i x h0 hi => Like.expr h f f2 i x _ hi (by omega) (by omega)) (fun i x N j hh => expr_lt hh) f f2 _ _ (Nat.le_refl _) (by omega) (by omega) (by omega))
                rw [this]
                refine bind_sh fun r j h2 => ?_
                show Pr.ok _ _ = Pr.ok _ _
                rw [shE_atE, shE_br]; rfl
              split
              · exact hrow true
              · split
                · exact hrow false
                · show Pr.ok _ _ = Pr.ok _ _
                  rw [shE_atE, shE_nm]; rfl
def shD (m : Nat) (d : Df) : Df := ⟨d.name, d.at_ + m, d.ty.map (shE m)⟩
theorem Like.defs {m : Nat} {T T2 : List Tk} (h : Like m T T2) : ∀ (g g2 i k k2 : Nat), i ≤ T2.length → T2.length + 2 ≤ g + i → T2.length + 2 ≤ g2 + i → k2 ≤ k → k ≤ 256 → (∃ j, defsT T g (m + i) k = .bad 5 j ∧ ∀ D e, defsT T2 g2 i k2 = .ok D e → 256 < k + D.length) ∨ defsT T g (m + i) k = (defsT T2 g2 i k2).sh m (List.map (shD m))
  | 0, g2, i, k, k2, hi, hf, hf2, hk, hkm => by omega
  | g + 1, 0, i, k, k2, hi, hf, hf2, hk, hkm => by omega
  | g + 1, g2 + 1, i, k, k2, hi, hf, hf2, hk, hkm => by
    have hlen := h.len
    rw [defsT_s, defsT_s]
    by_cases hi2 : T2.length ≤ i
    · rw [if_pos (by omega), if_pos hi2]; exact .inr rfl
    · rw [if_neg (by omega), if_neg hi2, h.eqT]
      by_cases hnm : k = 256 ∧ isT (tkA T2 i) 1 [116, 121, 112, 101] = true
      · rw [if_pos hnm]
        refine .inl ⟨_, rfl, fun D e hD => ?_⟩
        split at hD
        · cases hD
        · obtain ⟨_, i1, h1, hD⟩ := bind_ok hD
          obtain ⟨_, i1, h1, hD⟩ := bind_ok hD
          obtain ⟨_, i1, h1, hD⟩ := bind_ok hD
          obtain ⟨_, i1, h1, hD⟩ := bind_ok hD
          obtain ⟨_, i1, h1, hD⟩ := bind_ok hD
          obtain ⟨_, i1, h1, hD⟩ := bind_ok hD
          cases hD
          rw [List.length_cons]; omega
      · rw [if_neg hnm, if_neg (fun hh => hnm ⟨by omega, hh.2⟩), h.want]
        rcases hw : wantT T2 i 1 [116, 121, 112, 101] with ⟨_, i1⟩ | ⟨e, j⟩
        · obtain ⟨rfl, hi1⟩ := wantT_le (by decide) hw
          simp only [Pr.sh, Pr.bind_ok]
          rw [show m + (i + 1) = m + (i + 1) from rfl, h.name]
          rcases hn : nameT T2 (i + 1) with ⟨sn, i2⟩ | ⟨e, j⟩
          · obtain ⟨g2', -, rfl⟩ := nameT_ok hn
            have hi2' : i + 1 < T2.length := by simp only [nmT, Bool.and_eq_true, decide_eq_true_eq] at g2'; exact tkA_kind (by decide) g2'.1
            simp only [Pr.sh, Pr.bind_ok]
            rw [h.want]
            rcases he : wantT T2 (i + 1 + 1) 3 [61] with ⟨_, i3⟩ | ⟨e, j⟩
            · obtain ⟨rfl, hi3⟩ := wantT_le (by decide) he
              simp only [Pr.sh, Pr.bind_ok]
              have hx := h.expr (T.length + 2) (T2.length + 2) (i + 1 + 1 + 1) exM 0 (by omega) (by omega) (by omega)
              rw [shE_exM] at hx
              rw [hx]
              rcases hN : exprT T2 (T2.length + 2) (i + 1 + 1 + 1) exM 0 with ⟨N, j⟩ | ⟨e, j⟩
              · obtain ⟨b1, b2⟩ := expr_lt hN
                simp only [Pr.sh, Pr.bind_ok]
                rw [h.want]
                rcases hs : wantT T2 j 3 [59] with ⟨_, i5⟩ | ⟨e, j⟩
                · obtain ⟨rfl, hi5⟩ := wantT_le (by decide) hs
                  simp only [Pr.sh, Pr.bind_ok]
                  rcases Like.defs h g g2 (j + 1) (k + 1) (k2 + 1) (by omega) (by omega) (by omega) (by omega) (by
                    rcases Nat.lt_or_ge k 256 with h7 | h7
                    · exact h7
                    · exact absurd ⟨by omega, (wantT_ok hw).1⟩ hnm) with ⟨q, hq, hbig⟩ | hq
                  · refine .inl ⟨q, by rw [hq]; rfl, fun D e hD => ?_⟩
                    obtain ⟨D', e', h6, hD⟩ := bind_ok hD
                    cases hD
                    have := hbig _ _ h6
                    rw [List.length_cons]; omega
                  · refine .inr ?_
                    rw [hq]
                    refine bind_sh fun D q hD => ?_
                    show Pr.ok (_ :: _) _ = Pr.ok (_ :: _) _
                    congr 2
                    simp only [shD, id, Df.mk.injEq, true_and, and_true]
                    omega
                · exact .inr rfl
              · exact .inr rfl
            · exact .inr rfl
          · exact .inr rfl
        · exact .inr rfl
theorem bind_pre {α β : Type} {n : Nat} {r r2 : Pr α} {F F2 : α → Nat → Pr β} (hne : ∀ e, r2.bind F2 ≠ .bad e n) (hr : (∀ e, r2 ≠ .bad e n) → r = r2) (hF : ∀ a j, r2 = .ok a j → (∀ e, F2 a j ≠ .bad e n) → F a j = F2 a j) : r.bind F = r2.bind F2 := by
  cases r2 with
  | ok a i => rw [hr (fun e h => by cases h)]; exact hF a i rfl hne
  | bad e i => rw [hr (fun e' h => hne e' (by injection h with h1 h2; rw [h1, h2]; rfl))]; rfl
theorem bind_pre2 {α β γ : Type} {n : Nat} {r r2 : Pr α} {F : α → Nat → Pr γ} {F2 : α → Nat → Pr β} {G : α → Nat → Pr γ} (hne : ∀ e, r2.bind F2 ≠ .bad e n) (hr : (∀ e, r2 ≠ .bad e n) → r = r2) (hF : ∀ a j, r2 = .ok a j → (∀ e, F2 a j ≠ .bad e n) → F a j = G a j) : r.bind F = r2.bind G := by
  cases r2 with
  | ok a i => rw [hr (fun e h => by cases h)]; exact hF a i rfl hne
  | bad e i => rw [hr (fun e' h => hne e' (by injection h with h1 h2; rw [h1, h2]; rfl))]; rfl
structure Pre (T T2 : List Tk) : Prop where
  le : T2.length ≤ T.length
  tok : ∀ i, i < T2.length → tkA T i = tkA T2 i
theorem Pre.want {T T2 : List Tk} (h : Pre T T2) {i k : Nat} {s : List UInt8} (hk : 1 ≤ k) (hi : i ≤ T2.length) (hne : ∀ e, wantT T2 i k s ≠ .bad e T2.length) : wantT T i k s = wantT T2 i k s := by
  rcases Nat.lt_or_ge i T2.length with hl | hl
  · unfold wantT; rw [h.tok i hl]
  · have : i = T2.length := by omega
    subst this
    refine absurd ?_ (hne 60)
    unfold wantT
    rw [if_neg (fun hh => by have := isT_lt hk hh; omega)]
theorem Pre.num {T T2 : List Tk} (h : Pre T T2) {i : Nat} (hi : i ≤ T2.length) (hne : ∀ e, numT T2 i ≠ .bad e T2.length) : numT T i = numT T2 i := by
  rcases Nat.lt_or_ge i T2.length with hl | hl
  · unfold numT; rw [h.tok i hl]
  · have : i = T2.length := by omega
    subst this
    refine absurd ?_ (hne 60)
    unfold numT
    rw [if_neg (fun hh => by have := tkA_kind (by decide) hh; omega)]
theorem nmT_lt {T : List Tk} {i : Nat} (h : nmT (tkA T i) = true) : i < T.length := by
  simp only [nmT, Bool.and_eq_true, decide_eq_true_eq] at h; exact tkA_kind (by decide) h.1
theorem Pre.name {T T2 : List Tk} (h : Pre T T2) {i : Nat} (hi : i ≤ T2.length) (hne : ∀ e, nameT T2 i ≠ .bad e T2.length) : nameT T i = nameT T2 i := by
  rcases Nat.lt_or_ge i T2.length with hl | hl
  · unfold nameT; rw [h.tok i hl]
  · have : i = T2.length := by omega
    subst this
    refine absurd ?_ (hne 60)
    unfold nameT
    rw [if_neg (fun hh => by have := nmT_lt hh; omega)]
theorem Pre.head {T T2 : List Tk} (h : Pre T T2) {u full : Bool} {i : Nat} {x : Ex} (hi : i ≤ T2.length) (hne : ∀ e, headT T2 u full i x ≠ .bad e T2.length) : headT T u full i x = headT T2 u full i x := by
  rcases Nat.lt_or_ge i T2.length with hl | hl
  · cases u
    · rw [headT_s, headT_s]; unfold nameT; rw [h.tok i hl]
    · rw [headT_u, headT_u]; unfold numT; rw [h.tok i hl]
  · have : i = T2.length := by omega
    subst this
    cases u
    · refine absurd ?_ (hne 60)
      rw [headT_s, if_neg (fun hh => by have := nmT_lt hh.2; omega)]
      unfold nameT
      rw [if_neg (fun hh => by have := nmT_lt hh; omega)]
      rfl
    · refine absurd ?_ (hne 60)
      rw [headT_u, if_neg (fun hh => by have := tkA_kind (by decide) hh.2; omega)]
      unfold numT
      rw [if_neg (fun hh => by have := tkA_kind (by decide) hh; omega)]
      rfl
theorem Pre.rows {T T2 : List Tk} (h : Pre T T2) {u : Bool} {i0 : Nat} {E E2 : Nat → Ex → Pr (List Ex)} (hE : ∀ i x, i0 ≤ i → i ≤ T2.length → (∀ e, E2 i x ≠ .bad e T2.length) → E i x = E2 i x) (hE2 : ∀ i x N j, E2 i x = .ok N j → i < j ∧ j ≤ T2.length) :
    ∀ (g g2 i k : Nat), i0 ≤ i → i ≤ T2.length → T.length + 2 ≤ g + i → T2.length + 2 ≤ g2 + i → (∀ e, rowsT E2 T2 u g2 i k ≠ .bad e T2.length) → rowsT E T u g i k = rowsT E2 T2 u g2 i k
  | 0, g2, i, k, h0, hi, hg, hg2, hne => by have := h.le; omega
  | g + 1, 0, i, k, h0, hi, hg, hg2, hne => by omega
  | g + 1, g2 + 1, i, k, h0, hi, hg, hg2, hne => by
    rw [rowsT_s] at hne
    rw [rowsT_s, rowsT_s]
    refine bind_pre hne (fun hn => h.head hi hn) fun y i1 h1 hne => ?_
    obtain ⟨rfl, hi1⟩ := headT_le h1
    refine bind_pre hne (fun hn => h.want (by decide) (by omega) hn) fun _ i2 h2 hne => ?_
    obtain ⟨rfl, hi2⟩ := wantT_le (by decide) h2
    refine bind_pre hne (fun hn => hE _ _ (by omega) (by omega) hn) fun N j h3 hne => ?_
    obtain ⟨b1, b2⟩ := hE2 _ _ _ _ h3
    have hjl : j < T2.length := by
      rcases Nat.lt_or_ge j T2.length with hl | hl
      · exact hl
      · exfalso
        have hj : j = T2.length := by omega
        subst hj
        have hf : ∀ {k s}, 1 ≤ k → ¬ isT (tkA T2 T2.length) k s = true := fun hk hh => by have := isT_lt hk hh; omega
        rw [if_neg (hf (by decide))] at hne
        refine hne 60 ?_
        unfold wantT
        rw [if_neg (hf (by decide))]
        rfl
    rw [h.tok j hjl]
    split
    · rename_i hm
      rw [if_pos hm] at hne
      exact bind_pre hne (fun hn => Pre.rows h hE hE2 g g2 (j + 1) (k + 1) (by omega) (by omega) (by omega) (by omega) hn) fun r j2 h4 hne => rfl
    · rename_i hm
      rw [if_neg hm] at hne
      exact bind_pre hne (fun hn => h.want (by decide) b2 hn) fun _ j2 h4 hne => rfl
theorem Pre.expr {T T2 : List Tk} (h : Pre T T2) : ∀ (f f2 i : Nat) (x : Ex) (deep : Nat), i ≤ T2.length → T.length + 2 ≤ f + i → T2.length + 2 ≤ f2 + i → (∀ e, exprT T2 f2 i x deep ≠ .bad e T2.length) → exprT T f i x deep = exprT T2 f2 i x deep
  | 0, f2, i, x, deep, hi, hf, hf2, hne => by have := h.le; omega
  | f + 1, 0, i, x, deep, hi, hf, hf2, hne => by omega
  | f + 1, f2 + 1, i, x, deep, hi, hf, hf2, hne => by
    rw [exprT_s] at hne
    rw [exprT_s, exprT_s]
    have hil : i < T2.length := by
      rcases Nat.lt_or_ge i T2.length with hl | hl
      · exact hl
      · exfalso
        have hj : i = T2.length := by omega
        subst hj
        refine hne 60 ?_
        rw [if_pos]
        cases hb : bgnT (tkA T2 T2.length) with
        | false => rfl
        | true => have := tkA_kind (T := T2) (by decide) (bgn_kind hb); omega
    rw [h.tok i hil]
    split
    · rfl
    · rename_i hb
      rw [if_neg hb] at hne
      split
      · rfl
      · rename_i hd
        rw [if_neg hd] at hne
        split
        · rfl
        · rename_i hl
          rw [hl] at hne
          simp only at hne
          split
          · rename_i hv
            rw [if_pos hv] at hne
            refine bind_pre hne (fun hn => h.want (by decide) (by omega) hn) fun _ i1 h1 hne => ?_
            obtain ⟨rfl, hi1⟩ := wantT_le (by decide) h1
            refine bind_pre hne (fun hn => Pre.expr h f f2 _ _ _ (by omega) (by omega) (by omega) hn) fun N i2 h2 hne => ?_
            obtain ⟨b1, b2⟩ := expr_lt h2
            refine bind_pre hne (fun hn => h.want (by decide) (by omega) hn) fun _ i3 h3 hne => ?_
            obtain ⟨rfl, hi3⟩ := wantT_le (by decide) h3
            refine bind_pre hne (fun hn => h.num (by omega) hn) fun n i4 h4 hne => ?_
            obtain ⟨g4, -, rfl⟩ := numT_ok h4
            have hi4 := tkA_kind (by decide) g4
            exact bind_pre hne (fun hn => h.want (by decide) (by omega) hn) fun _ i5 h5 hne => rfl
          · rename_i hv
            rw [if_neg hv] at hne
            split
            · rename_i ho
              rw [if_pos ho] at hne
              refine bind_pre hne (fun hn => h.want (by decide) (by omega) hn) fun _ i1 h1 hne => ?_
              obtain ⟨rfl, hi1⟩ := wantT_le (by decide) h1
              refine bind_pre hne (fun hn => Pre.expr h f f2 _ _ _ (by omega) (by omega) (by omega) hn) fun N i2 h2 hne => ?_
              obtain ⟨b1, b2⟩ := expr_lt h2
              exact bind_pre hne (fun hn => h.want (by decide) (by omega) hn) fun _ i3 h3 hne => rfl
            · rename_i ho
              rw [if_neg ho] at hne
              have hrow : ∀ (u : Bool), (∀ e, (((wantT T2 (i + 1) 3 [123]).bind fun _ j => rowsT (fun i x => exprT T2 f2 i x (deep + 1)) T2 u f2 j 0).bind fun r j => (.ok ((atE i x).br u (r.2 : Nat) :: r.1) j : Pr (List Ex))) ≠ .bad e T2.length) → (((wantT T (i + 1) 3 [123]).bind fun _ j => rowsT (fun i x => exprT T f i x (deep + 1)) T u f j 0).bind fun r j => (.ok ((atE i x).br u (r.2 : Nat) :: r.1) j : Pr (List Ex))) =
                  (((wantT T2 (i + 1) 3 [123]).bind fun _ j => rowsT (fun i x => exprT T2 f2 i x (deep + 1)) T2 u f2 j 0).bind fun r j => (.ok ((atE i x).br u (r.2 : Nat) :: r.1) j : Pr (List Ex))) := by
                intro u hne
                refine bind_pre hne (fun hn => ?_) fun r j h2 hne => rfl
                refine bind_pre hn (fun hn => h.want (by decide) (by omega) hn) fun _ i1 h1 hne => ?_
                obtain ⟨rfl, hi1⟩ := wantT_le (by decide) h1
                exact Pre.rows h (i0 := i + 1 + 1) (fun i x h0 hi hn => Pre.expr h f f2 i x _ hi (by omega) (by omega) hn) (fun i x N j hh => expr_lt hh) f f2 _ _ (Nat.le_refl _) (by omega) (by omega) (by omega) hne
              split
              · rename_i hu
                rw [if_pos hu] at hne
                exact hrow true hne
              · rename_i hu
                rw [if_neg hu] at hne
                split
                · rename_i hs
                  rw [if_pos hs] at hne
                  exact hrow false hne
                · rfl
theorem bind_congr' {α β : Type} {r : Pr α} {F F2 : α → Nat → Pr β} (hF : ∀ a j, r = .ok a j → F a j = F2 a j) : r.bind F = r.bind F2 := by
  cases r with
  | ok a i => exact hF a i rfl
  | bad e i => rfl
theorem defs_fuel {T : List Tk} : ∀ (g g2 i k : Nat), i ≤ T.length → T.length + 2 ≤ g + i → T.length + 2 ≤ g2 + i → defsT T g i k = defsT T g2 i k
  | 0, g2, i, k, hi, hg, hg2 => by omega
  | g + 1, 0, i, k, hi, hg, hg2 => by omega
  | g + 1, g2 + 1, i, k, hi, hg, hg2 => by
    rw [defsT_s, defsT_s]
    split
    · rfl
    · split
      · rfl
      · refine bind_congr' fun _ i1 h1 => ?_
        obtain ⟨rfl, hi1⟩ := wantT_le (by decide) h1
        refine bind_congr' fun s i2 h2 => ?_
        obtain ⟨g2', -, rfl⟩ := nameT_ok h2
        have := nmT_lt g2'
        refine bind_congr' fun _ i3 h3 => ?_
        obtain ⟨rfl, hi3⟩ := wantT_le (by decide) h3
        refine bind_congr' fun N j h4 => ?_
        obtain ⟨b1, b2⟩ := expr_lt h4
        refine bind_congr' fun _ i5 h5 => ?_
        obtain ⟨rfl, hi5⟩ := wantT_le (by decide) h5
        rw [defs_fuel g g2 (j + 1) (k + 1) (by omega) (by omega) (by omega)]
theorem Pr.bind_assoc {α β γ : Type} {r : Pr α} {F : α → Nat → Pr β} {G : β → Nat → Pr γ} : (r.bind F).bind G = r.bind fun a j => (F a j).bind G := by cases r <;> rfl
theorem Pre.defs {T T2 : List Tk} (h : Pre T T2) : ∀ (g g2 i k : Nat), i ≤ T2.length → T.length + 2 ≤ g + i → T2.length + 2 ≤ g2 + i → (∀ e, defsT T2 g2 i k ≠ .bad e T2.length) →
    defsT T g i k = (defsT T2 g2 i k).bind fun D _ => (defsT T (T.length + 2) T2.length (k + D.length)).bind fun D' j => .ok (D ++ D') j
  | 0, g2, i, k, hi, hg, hg2, hne => by have := h.le; omega
  | g + 1, 0, i, k, hi, hg, hg2, hne => by omega
  | g + 1, g2 + 1, i, k, hi, hg, hg2, hne => by
    rw [defsT_s (T := T2)] at hne
    rw [defsT_s (T := T2)]
    by_cases hi2 : T2.length ≤ i
    · have hie : i = T2.length := by omega
      rw [if_pos hi2, hie, defs_fuel (g + 1) (T.length + 2) T2.length k h.le (by omega) (by omega), Pr.bind_ok]
      show _ = (defsT T (T.length + 2) T2.length (k + 0)).bind fun D' j => .ok ([] ++ D') j
      rw [Nat.add_zero]
      cases defsT T (T.length + 2) T2.length k <;> rfl
    · have hlt : i < T2.length := by omega
      have hle := h.le
      rw [if_neg hi2] at hne ⊢
      rw [defsT_s, if_neg (by omega), h.tok i hlt]
      by_cases hnm : k = 256 ∧ isT (tkA T2 i) 1 [116, 121, 112, 101] = true
      · rw [if_pos hnm, if_pos hnm]; rfl
      · rw [if_neg hnm] at hne ⊢
        rw [if_neg hnm]
        simp only [Pr.bind_assoc]
        refine bind_pre2 hne (fun hn => h.want (by decide) (by omega) hn) fun _ i1 h1 hne => ?_
        obtain ⟨rfl, hi1⟩ := wantT_le (by decide) h1
        refine bind_pre2 hne (fun hn => h.name (by omega) hn) fun s i2 h2 hne => ?_
        obtain ⟨g2', -, rfl⟩ := nameT_ok h2
        have := nmT_lt g2'
        refine bind_pre2 hne (fun hn => h.want (by decide) (by omega) hn) fun _ i3 h3 hne => ?_
        obtain ⟨rfl, hi3⟩ := wantT_le (by decide) h3
        refine bind_pre2 hne (fun hn => h.expr _ _ _ _ _ (by omega) (by omega) (by omega) hn) fun N j h4 hne => ?_
        obtain ⟨b1, b2⟩ := expr_lt h4
        refine bind_pre2 hne (fun hn => h.want (by decide) (by omega) hn) fun _ i5 h5 hne => ?_
        obtain ⟨rfl, hi5⟩ := wantT_le (by decide) h5
        rw [Pre.defs h g g2 (j + 1) (k + 1) (by omega) (by omega) (by omega) (fun e he => hne e (by rw [he]; rfl))]
        rw [Pr.bind_assoc]
        refine bind_congr' fun D q hD => ?_
        simp only [Pr.bind_assoc, Pr.bind_ok, List.length_cons]
        rw [show k + 1 + D.length = k + (D.length + 1) by omega]
        refine bind_congr' fun D' q hD' => rfl

end Go.Proofs.Ytgcehajdldicfaa

set_option linter.unusedSimpArgs false
set_option linter.unusedVariables false
set_option maxRecDepth 100000
namespace Go.Proofs.Ytgcehajdldicfaa
open Go Go.Vc Go.RowKit Go.Proofs

def bareE (x : Ex) : Ex := { x with at_ := 0 }
def bareD (d : Df) : Df := ⟨d.name, 0, d.ty.map bareE⟩
end Go.Proofs.Ytgcehajdldicfaa

set_option linter.unusedSimpArgs false
set_option linter.unusedVariables false
set_option maxRecDepth 100000
namespace Go.Proofs.Ytgcehajdldicfaa
open Go Go.Vc Go.RowKit Go.Proofs

/-- the first k without places -/
def BareTo (D E : List Df) (k : Nat) : Prop := E.length = D.length ∧ (∀ i, i < k → E.getD i df0 = bareD (D.getD i df0)) ∧ ∀ i, k ≤ i → E.getD i df0 = D.getD i df0
def BareIn (D E : List Df) (k j : Nat) : Prop := E.length = D.length ∧ (∀ i, i < k → E.getD i df0 = bareD (D.getD i df0)) ∧ (∀ i, k < i → E.getD i df0 = D.getD i df0) ∧ E.getD k df0 = ⟨(D.getD k df0).name, 0, ((tyD D k).take j).map bareE ++ (tyD D k).drop j⟩
theorem BareIn.ty {D E : List Df} {k j : Nat} (h : BareIn D E k j) : tyD E k = ((tyD D k).take j).map bareE ++ (tyD D k).drop j := by
  rw [tyD, h.2.2.2]
theorem BareIn.len {D E : List Df} {k j : Nat} (h : BareIn D E k j) (hj : j ≤ (tyD D k).length) : (tyD E k).length = (tyD D k).length := by
  rw [h.ty, List.length_append, List.length_map, List.length_take, List.length_drop]; omega
theorem BareIn.step {D E : List Df} {k j : Nat} (h : BareIn D E k j) (hk : k < D.length) (hj : j < (tyD D k).length) (x : Ex) (hx : (tyD E k)[j]? = some x) : BareIn D (setE E k j { x with at_ := 0 }) k (j + 1) := by
  obtain ⟨h1, h2, h3, h4⟩ := h
  have hE : tyD E k = ((tyD D k).take j).map bareE ++ (tyD D k).drop j := by rw [tyD, h4]
  have hx2 : x = (tyD D k)[j] := by
    rw [hE, List.getElem?_append_right (by simp; omega)] at hx
    simp only [List.length_map, List.length_take, Nat.min_eq_left (Nat.le_of_lt hj), Nat.sub_self, List.getElem?_drop, Nat.add_zero, List.getElem?_eq_getElem hj, Option.some.injEq] at hx
    exact hx.symm
  refine ⟨by rw [setE_len, h1], fun i hi => ?_, fun i hi => ?_, ?_⟩
  · rw [setE_at, if_neg (by omega)]; exact h2 i hi
  · rw [setE_at, if_neg (by omega)]; exact h3 i hi
  · rw [setE_at, if_pos ⟨rfl, by omega⟩, hE, h4]
    simp only [Df.mk.injEq, true_and]
    rw [List.set_append_right _ _ (by simp; omega)]
    simp only [List.length_map, List.length_take, Nat.min_eq_left (Nat.le_of_lt hj), Nat.sub_self]
    rw [← List.getElem_cons_drop hj, List.set_cons_zero, List.take_add_one, List.getElem?_eq_getElem hj, List.map_append, List.append_assoc, hx2]
    rfl
theorem BareIn.done {D E : List Df} {k : Nat} (h : BareIn D E k (tyD D k).length) : BareTo D E (k + 1) := by
  obtain ⟨h1, h2, h3, h4⟩ := h
  refine ⟨h1, fun i hi => ?_, fun i hi => h3 i (by omega)⟩
  rcases Nat.lt_or_ge i k with hl | hl
  · exact h2 i hl
  · obtain rfl : i = k := by omega
    rw [h4, List.take_length, List.drop_length, List.append_nil]; rfl
theorem DOk.tyD {D : List Df} (h : DOk D) {k : Nat} (hk : k < D.length) : (tyD D k).length * 72 ≤ 140737488351232 := by
  rw [tyD_at hk]; exact h.ty _ (List.getElem_mem hk)
end Go.Proofs.Ytgcehajdldicfaa

set_option linter.unusedSimpArgs false
set_option linter.unusedVariables false
set_option maxRecDepth 100000
namespace Go.Proofs.Ytgcehajdldicfaa
open Go Go.Vc Go.RowKit Go.Proofs
/-- blanks and remarks; does a remark stand open at the end? -/
def gapS : Bool → List UInt8 → Option Bool
  | rm, [] => some rm
  | true, c :: cs => gapS (!decide (c.toNat = 10)) cs
  | false, c :: cs => if c.toNat = 35 then gapS true cs else if blankB c then gapS false cs else none
theorem gap_skip (xs : List UInt8) (m : Nat) (hm : m ≤ xs.length) (j : Nat) (hj : j ≤ m) (rm : Bool) (h : gapS rm ((xs.take m).drop j) = some false) : cutL xs (if rm then runL nnlB xs j else j) = cutL xs m := by
  by_cases hl : j < m
  · have h3 : j < (xs.take m).length := by simp; omega
    have hx : j < xs.length := by omega
    have hd : (xs.take m).drop j = xs[j] :: (xs.take m).drop (j + 1) := by
      rw [← List.getElem_cons_drop h3]; simp
    have hc := cutL_eq xs j
    rw [dif_pos hx] at hc
    rw [hd] at h
    cases rm with
    | true =>
      rw [gapS] at h
      by_cases h10 : (xs[j]).toNat = 10
      · simp [h10] at h
        have ih := gap_skip xs m hm (j + 1) (by omega) false h
        rw [if_pos rfl, runL_stop hx (by simp [nnlB, h10]), hc, if_neg (by omega), if_pos (by simp [blankB, h10])]
        exact ih
      · simp [h10] at h
        have ih := gap_skip xs m hm (j + 1) (by omega) true h
        rw [if_pos rfl, runL_go hx (by simp [nnlB, h10])]
        exact ih
    | false =>
      rw [gapS] at h
      rw [if_neg (by decide), hc]
      by_cases h35 : (xs[j]).toNat = 35
      · rw [if_pos h35] at h ⊢
        exact gap_skip xs m hm (j + 1) (by omega) true h
      · rw [if_neg h35] at h ⊢
        by_cases hb : blankB xs[j] = true
        · rw [if_pos hb] at h ⊢
          exact gap_skip xs m hm (j + 1) (by omega) false h
        · rw [if_neg hb] at h; cases h
  · have : j = m := by omega
    subst this
    rw [List.drop_eq_nil_of_le (by simp; omega)] at h
    cases rm with
    | true => cases h
    | false => rfl
termination_by m - j
theorem take_get {xs zs : List UInt8} {a k : Nat} (hp : zs.take a = xs.take a) (hk : k < a) (hx : k < xs.length) (hz : k < zs.length) : zs[k] = xs[k] := by
  have h1 : (zs.take a)[k]? = (xs.take a)[k]? := by rw [hp]
  simpa [List.getElem?_take, hk, hx, hz] using h1
theorem runL_front {p : UInt8 → Bool} {xs zs : List UInt8} {a : Nat} (hp : zs.take a = xs.take a) (hx : a ≤ xs.length) (hz : a ≤ zs.length) (k : Nat) (hk : k ≤ a) (hr : runL p xs k ≤ a)
    (hs : zs.length = a ∨ (∃ h : a < zs.length, p zs[a] = false) ∨ runL p xs k < a) : runL p zs k = runL p xs k := by
  by_cases hka : k < a
  · have he := take_get hp hka (by omega) (by omega)
    cases hc : p xs[k] with
    | true =>
      rw [runL_go (by omega) hc] at hr hs ⊢
      rw [runL_go (xs := zs) (by omega) (by rw [he]; exact hc)]
      exact runL_front hp hx hz (k + 1) (by omega) hr hs
    | false => rw [runL_stop (xs := xs) (by omega) hc, runL_stop (xs := zs) (by omega) (by rw [he]; exact hc)]
  · have hka : k = a := by omega
    subst hka
    have h1 := (runL_le (p := p) hx).1
    have h2 : runL p xs k = k := by omega
    rw [h2]
    rcases hs with hs | ⟨h, hs⟩ | hs
    · exact runL_end (by omega)
    · exact runL_stop h hs
    · omega
termination_by a - k
theorem sub_front {xs zs : List UInt8} {a : Nat} (hp : zs.take a = xs.take a) (l h : Nat) (hh : h ≤ a) : sub zs l h = sub xs l h := by
  unfold sub
  have : ∀ ys : List UInt8, ys.take h = (ys.take a).take h := fun ys => by rw [List.take_take, Nat.min_eq_left hh]
  rw [this zs, this xs, hp]
theorem oneL_front {xs zs : List UInt8} {a : Nat} (hp : zs.take a = xs.take a) (hx : a ≤ xs.length) (hz : a ≤ zs.length) (hs : zs.length = a ∨ ∃ h : a < zs.length, goeB zs[a] = false) (k : Nat) (hk : k < a) (hk1 : k < xs.length) (hk2 : k < zs.length)
    (h0 : (oneL xs k hk1).1 = 0) (hf : (oneL xs k hk1).2.fin ≤ a) : oneL zs k hk2 = oneL xs k hk1 := by
  have he := take_get hp hk hk1 hk2
  have st : ∀ p : UInt8 → Bool, (∀ c : UInt8, goeB c = false → p c = false) → runL p xs k ≤ a → runL p zs k = runL p xs k := fun p hp32 hr =>
    runL_front hp hx hz k (by omega) hr (by rcases hs with hs | ⟨h, hs⟩; exact .inl hs; exact .inr (.inl ⟨h, hp32 _ hs⟩))
  unfold oneL at h0 hf ⊢
  rw [he]
  by_cases h1 : letB xs[k] = true
  · rw [if_pos h1] at h0 hf ⊢
    rw [if_pos h1]
    have hr : runL goeB xs k ≤ a := by split at hf <;> exact hf
    have hg := st goeB (fun _ h => h) hr
    rw [hg, sub_front hp _ _ hr]
  · rw [if_neg h1] at h0 hf ⊢
    rw [if_neg h1]
    by_cases h2 : digB xs[k] = true
    · rw [if_pos h2] at h0 hf ⊢
      rw [if_pos h2]
      have hr : runL digB xs k ≤ a := hf
      have hg := st digB (by intro c hc; simp [goeB] at hc; exact hc.1.2) hr
      rw [hg, sub_front hp _ _ hr]
    · rw [if_neg h2] at h0 hf ⊢
      rw [if_neg h2]
      by_cases h3 : markB xs[k] = true
      · rw [if_pos h3] at h0 hf ⊢
        rw [if_pos h3]
        have hr : k + 1 ≤ a := hf
        rw [sub_front hp _ _ hr]
      · rw [if_neg h3] at h0; simp at h0


theorem oneL_in {xs : List UInt8} {k : Nat} {h : k < xs.length} (he : (oneL xs k h).1 = 0) : blankB xs[k] = false ∧ ¬ (xs[k]).toNat = 35 := by
  have h3 : letB xs[k] = true ∨ digB xs[k] = true ∨ markB xs[k] = true := by
    unfold oneL at he
    by_cases h1 : letB xs[k] = true
    · exact .inl h1
    · by_cases h2 : digB xs[k] = true
      · exact .inr (.inl h2)
      · by_cases h3 : markB xs[k] = true
        · exact .inr (.inr h3)
        · rw [if_neg h1, if_neg h2, if_neg h3] at he; cases he
  generalize xs[k] = c at h3
  rw [mark_or] at h3
  simp only [letB, digB, blankB, Bool.and_eq_true, Bool.or_eq_true, decide_eq_true_eq, Bool.or_eq_false_iff, decide_eq_false_iff_not] at h3 ⊢
  omega
/-- blanks, then a token's bytes: cut asx the token -/
theorem put_step (B F T Z : List UInt8) (t' : Tk) (hT : 0 < T.length) (h1 : gapS false F = some false) (hfr : ∀ h, oneL (T ++ Z) 0 h = (0, t')) (hf : t'.fin = T.length) :
    cutL (B ++ F ++ T ++ Z) B.length = (⟨t'.kind, t'.text, t'.n, B.length + F.length + t'.at_, B.length + F.length + T.length⟩ :: (cutL (B ++ F ++ T ++ Z) (B ++ F ++ T).length).1, (cutL (B ++ F ++ T ++ Z) (B ++ F ++ T).length).2) := by
  generalize hX : B ++ F ++ T ++ Z = X
  have hXl : X.length = B.length + F.length + T.length + Z.length := by subst hX; simp; omega
  have e1 : (X.take (B.length + F.length)).drop B.length = F := by
    subst hX
    rw [show B ++ F ++ T ++ Z = (B ++ F) ++ (T ++ Z) by simp, ← List.length_append, List.take_left, List.drop_left]
  have s1 := gap_skip X (B.length + F.length) (by omega) B.length (by omega) false (by rw [e1]; exact h1)
  rw [if_neg (by decide)] at s1
  have hdr : X.drop (B.length + F.length) = T ++ Z := by
    subst hX
    rw [show B ++ F ++ T ++ Z = (B ++ F) ++ (T ++ Z) by simp, ← List.length_append, List.drop_left]
  have hp : B.length + F.length + 0 < X.length := by omega
  have hq : 0 < (X.drop (B.length + F.length)).length := by simp; omega
  have hsh := oneL_shift X (B.length + F.length) 0 hp hq
  have hq2 : oneL (X.drop (B.length + F.length)) 0 hq = (0, t') := by
    have : ∀ (Y : List UInt8) (h : 0 < Y.length), Y = T ++ Z → oneL Y 0 h = (0, t') := by rintro Y h rfl; exact hfr h
    exact this _ _ hdr
  rw [hq2] at hsh
  have hs2 := hsh.2 rfl
  have hone : oneL X (B.length + F.length) (by omega) = (0, shiftT (B.length + F.length) t') := Prod.ext hsh.1 hs2
  obtain ⟨hbl, h35⟩ := oneL_in (by rw [hone])
  have hc := cutL_eq X (B.length + F.length)
  rw [dif_pos (by omega), if_neg h35, if_neg (by simp [hbl]), dif_pos (by rw [hone]), hone] at hc
  have hfin : (shiftT (B.length + F.length) t').fin = B.length + F.length + T.length := by show B.length + F.length + t'.fin = _; rw [hf]
  simp only [hfin] at hc
  rw [s1, hc, show (B ++ F ++ T).length = B.length + F.length + T.length by simp; omega]
  congr 1
  show Tk.mk _ _ _ _ _ :: _ = _
  congr 2
def Stops (Z : List UInt8) : Prop := Z = [] ∨ ∃ c cs, Z = c :: cs ∧ goeB c = false
theorem tok_front {T Z : List UInt8} {t' : Tk} {hT : 0 < T.length} (ho : oneL T 0 hT = (0, t')) (hf : t'.fin = T.length) (hZ : Stops Z) : ∀ h, oneL (T ++ Z) 0 h = (0, t') := by
  intro h
  have := oneL_front (xs := T) (zs := T ++ Z) (a := T.length) (by rw [List.take_left, List.take_length]) (Nat.le_refl _) (by simp) (by
    rcases hZ with rfl | ⟨c, cs, rfl, hg⟩
    · exact .inl (by simp)
    · exact .inr ⟨by simp, by simp [hg]⟩) 0 hT hT h (by rw [ho]) (by rw [ho]; exact Nat.le_of_eq hf)
  rw [this, ho]
def tkey (t : Tk) : Nat × List UInt8 × Nat := (t.kind, t.text, t.n)
end Go.Proofs.Ytgcehajdldicfaa
