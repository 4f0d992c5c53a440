/-
  Walks and lemmas. Written by program out of specs of mine.
-/
import Derived.WalkKit
import Derived.WalkSpells
import Derived.WalkLawsBesides
import Derived.Deep.Quiet
import Derived.StillTail
import Derived.StringKeys
import Derived.Laws.StructEq
import Derived.Laws.Externs
import Derived.Laws.Tables
import Derived.Scope
import Derived.Laws.AppendOwn
import Derived.Maps.AppendAt
import Derived.Recover
import Derived.Test.YtgmjfcekeglhjaaDoorProg
import Derived.Maps.OwnSet
import Derived.Shelf.Strconv.Itoa0
import Derived.Shelf.Strconv.Itoa1
import Derived.Shelf.LaysM
import Derived.Shelf.Strconv.Itoa2
import Derived.Lib.ItoaMem
import Derived.Lib.ItoaLen
import Derived.DeepKeys3
import Derived.SizedLaws
import Derived.ChangeArms
import Derived.ChangeSlices
import Derived.Lib.ConvBytes
import Derived.Test.YtgmjfcekeglhjaaDoorRows
import Derived.ProofKit
import Derived.OpenShut
import Derived.ShutString
import Derived.ChangeOld
import Derived.Below
import Derived.JoinedCond
import Derived.SliceStrings
import Derived.Test.YtgmjfcekeglhjaaDoorCards
import Derived.Test.YtgmjfcekeglhjaaDoorTie
import Derived.Deep.DeepHandedRow
import Derived.Lib.LaidTab
import Derived.Test.YtgmjfcekeglhjaaDoorKe1
set_option linter.unusedSimpArgs false
set_option linter.unusedVariables false
set_option maxRecDepth 100000
set_option linter.unusedSimpArgs false
set_option linter.unusedVariables false
set_option maxRecDepth 100000
namespace Go.Proofs.YtgmjfcekeglhjaaDoor
open Go Go.Vc Go.RowKit Go.Proofs

theorem Vts.pos : ∀ {F : Vts}, 0 < F.len → ∃ x ks G, F = .cons (.node x ks) G
  | .cons (.node x ks) G, _ => ⟨x, ks, G, rfl⟩
theorem drop_step {L post : List Nd} {q : Nat} {x : Nd} {ks G : Vts} (h : L.drop q = (Vts.cons (.node x ks) G).flat ++ post) : ∃ hq : q < L.length, L[q] = x ∧ L.drop (q + 1) = (ks.app G).flat ++ post := by
  have hq : q < L.length := by
    rcases Nat.lt_or_ge q L.length with h1 | h1
    · exact h1
    · rw [List.drop_eq_nil_of_le h1] at h; simp [Vts.flat, Vt.flat] at h
  rw [← List.getElem_cons_drop hq] at h
  simp only [Vts.flat, Vt.flat, List.cons_append, List.cons.injEq] at h
  exact ⟨hq, h.1, by rw [h.2, Vts.app_flat]⟩
def thereV (L : List Nd) (at_ : Int) : Int := if ¬ (chkV L).1 = 0 then (chkV L).1 else if at_ < 0 ∨ (L.length : Int) ≤ at_ then 3 else 0

theorem there_ok {L : List Nd} {at_ : Int} (h : thereV L at_ = 0) : (chkV L).1 = 0 ∧ 0 ≤ at_ ∧ at_ < (L.length : Int) := by
  unfold thereV at h
  by_cases hc : (chkV L).1 = 0
  · rw [if_neg (fun h => h hc)] at h
    by_cases ha : at_ < 0 ∨ (L.length : Int) ≤ at_
    · rw [if_pos ha] at h; cases h
    · exact ⟨hc, by omega, by omega⟩
  · rw [if_pos hc] at h; exact absurd h hc

set_option maxHeartbeats 1000000 in
theorem vnum_spec (k : Int) (n : Nat) (w0 : World) : Ca Tryd.prog 39 #[.int .i64 k, .int .u64 (n : Int)] w0 (fun v w' => v = .bool (numB k n) ∧ w' = w0) := by
  refine Ca.of Tryd.func39 Tryd.ntmps39 rfl rfl ?_
  refine W.seq ?_
  refine W.region ?_
  refine WL.c rfl (o_ash (show _ = Value.bool _ from rfl) ?_)
  refine WL.nil ?_
  refine W.seq ?_
  refine W.seq ?_
  refine W.region ?_
  refine WL.c rfl (o_mvh (show _ = Value.int _ _ from rfl) ?_)
  refine WL.nil ?_
  refine W.block ?_
  refine W.seq ?_
  refine W.region ?_
  refine WL.c rfl (o_eq rfl rfl ?_)
  refine WL.c rfl (o_ash (show _ = Value.bool _ from rfl) ?_)
  refine WL.nil ?_
  refine W.cond rfl (fun c6 => ?_) (fun c6 => ?_)
  · try simp only [decide_eq_true_eq, decide_eq_false_iff_not, Bool.not_eq_true', Bool.not_eq_false', Bool.and_eq_true, Bool.or_eq_true, Bool.and_eq_false_iff, Bool.or_eq_false_iff] at c6
    refine W.seq ?_
    refine W.region ?_
    refine WL.c rfl (o_ash (show _ = Value.bool _ from rfl) ?_)
    refine WL.nil ?_
    refine W.ret ?_
    refine ret1v rfl (show _ = Value.bool _ from rfl) ?_
    exact ⟨congrArg Value.bool (by rw [Bool.eq_iff_iff]; simp_all [numB] <;> omega), rfl⟩
  · try simp only [decide_eq_true_eq, decide_eq_false_iff_not, Bool.not_eq_true', Bool.not_eq_false', Bool.and_eq_true, Bool.or_eq_true, Bool.and_eq_false_iff, Bool.or_eq_false_iff] at c6
    refine W.seq ?_
    refine W.region ?_
    refine WL.c rfl (o_eq rfl rfl ?_)
    refine WL.c rfl (o_ash (show _ = Value.bool _ from rfl) ?_)
    refine WL.nil ?_
    refine W.cond rfl (fun c8 => ?_) (fun c8 => ?_)
    · try simp only [decide_eq_true_eq, decide_eq_false_iff_not, Bool.not_eq_true', Bool.not_eq_false', Bool.and_eq_true, Bool.or_eq_true, Bool.and_eq_false_iff, Bool.or_eq_false_iff] at c8
      refine W.seq ?_
      refine W.region ?_
      refine WL.c rfl (o_mvh (show _ = Value.int _ _ from rfl) ?_)
      refine WL.c rfl (o_le rfl rfl ?_)
      refine WL.c rfl (o_ash (show _ = Value.bool _ from rfl) ?_)
      refine WL.nil ?_
      refine W.ret ?_
      refine ret1v rfl (show _ = Value.bool _ from rfl) ?_
      exact ⟨congrArg Value.bool (by rw [Bool.eq_iff_iff]; simp_all [numB] <;> omega), rfl⟩
    · try simp only [decide_eq_true_eq, decide_eq_false_iff_not, Bool.not_eq_true', Bool.not_eq_false', Bool.and_eq_true, Bool.or_eq_true, Bool.and_eq_false_iff, Bool.or_eq_false_iff] at c8
      refine W.seq ?_
      refine W.seq ?_
      refine W.region ?_
      refine WL.c rfl (o_eq rfl rfl ?_)
      refine WL.c rfl (o_ash (show _ = Value.bool _ from rfl) ?_)
      refine WL.nil ?_
      refine W.cond rfl (fun c12 => ?_) (fun c12 => ?_)
      · try simp only [decide_eq_true_eq, decide_eq_false_iff_not, Bool.not_eq_true', Bool.not_eq_false', Bool.and_eq_true, Bool.or_eq_true, Bool.and_eq_false_iff, Bool.or_eq_false_iff] at c12
        refine W.skip ?_
        refine W.cond rfl (fun c12 => ?_) (fun c12 => ?_)
        · try simp only [decide_eq_true_eq, decide_eq_false_iff_not, Bool.not_eq_true', Bool.not_eq_false', Bool.and_eq_true, Bool.or_eq_true, Bool.and_eq_false_iff, Bool.or_eq_false_iff] at c12
          refine W.seq ?_
          refine W.region ?_
          refine WL.c rfl (o_mvh (show _ = Value.int _ _ from rfl) ?_)
          refine WL.c rfl (o_eq rfl rfl ?_)
          refine WL.c rfl (o_ash (show _ = Value.bool _ from rfl) ?_)
          refine WL.nil ?_
          refine W.ret ?_
          refine ret1v rfl (show _ = Value.bool _ from rfl) ?_
          exact ⟨congrArg Value.bool (by rw [Bool.eq_iff_iff]; simp_all [numB] <;> omega), rfl⟩
        · try simp only [decide_eq_true_eq, decide_eq_false_iff_not, Bool.not_eq_true', Bool.not_eq_false', Bool.and_eq_true, Bool.or_eq_true, Bool.and_eq_false_iff, Bool.or_eq_false_iff] at c12
          refine W.seq ?_
          refine W.region ?_
          refine WL.c rfl (o_eq rfl rfl ?_)
          refine WL.c rfl (o_ash (show _ = Value.bool _ from rfl) ?_)
          refine WL.nil ?_
          refine W.cond rfl (fun c18 => ?_) (fun c18 => ?_)
          · try simp only [decide_eq_true_eq, decide_eq_false_iff_not, Bool.not_eq_true', Bool.not_eq_false', Bool.and_eq_true, Bool.or_eq_true, Bool.and_eq_false_iff, Bool.or_eq_false_iff] at c18
            refine W.seq ?_
            refine W.region ?_
            refine WL.c rfl (o_mvh (show _ = Value.int _ _ from rfl) ?_)
            refine WL.c rfl (o_le rfl rfl ?_)
            refine WL.c rfl (o_ash (show _ = Value.bool _ from rfl) ?_)
            refine WL.nil ?_
            refine W.ret ?_
            refine ret1v rfl (show _ = Value.bool _ from rfl) ?_
            exact ⟨congrArg Value.bool (by rw [Bool.eq_iff_iff]; simp_all [numB] <;> omega), rfl⟩
          · try simp only [decide_eq_true_eq, decide_eq_false_iff_not, Bool.not_eq_true', Bool.not_eq_false', Bool.and_eq_true, Bool.or_eq_true, Bool.and_eq_false_iff, Bool.or_eq_false_iff] at c18
            refine W.skip ?_
            refine W.seq ?_
            refine W.region ?_
            refine WL.c rfl (o_ash (show _ = Value.bool _ from rfl) ?_)
            refine WL.nil ?_
            refine W.ret ?_
            refine ret1v rfl (show _ = Value.bool _ from rfl) ?_
            exact ⟨congrArg Value.bool (by rw [Bool.eq_iff_iff]; simp_all [numB] <;> omega), rfl⟩
      · try simp only [decide_eq_true_eq, decide_eq_false_iff_not, Bool.not_eq_true', Bool.not_eq_false', Bool.and_eq_true, Bool.or_eq_true, Bool.and_eq_false_iff, Bool.or_eq_false_iff] at c12
        refine W.seq ?_
        refine W.region ?_
        refine WL.c rfl (o_eq rfl rfl ?_)
        refine WL.c rfl (o_ash (show _ = Value.bool _ from rfl) ?_)
        refine WL.nil ?_
        refine W.cond rfl (fun c12 => ?_) (fun c12 => ?_)
        · try simp only [decide_eq_true_eq, decide_eq_false_iff_not, Bool.not_eq_true', Bool.not_eq_false', Bool.and_eq_true, Bool.or_eq_true, Bool.and_eq_false_iff, Bool.or_eq_false_iff] at c12
          refine W.skip ?_
          refine W.cond rfl (fun c12 => ?_) (fun c12 => ?_)
          · try simp only [decide_eq_true_eq, decide_eq_false_iff_not, Bool.not_eq_true', Bool.not_eq_false', Bool.and_eq_true, Bool.or_eq_true, Bool.and_eq_false_iff, Bool.or_eq_false_iff] at c12
            refine W.seq ?_
            refine W.region ?_
            refine WL.c rfl (o_mvh (show _ = Value.int _ _ from rfl) ?_)
            refine WL.c rfl (o_eq rfl rfl ?_)
            refine WL.c rfl (o_ash (show _ = Value.bool _ from rfl) ?_)
            refine WL.nil ?_
            refine W.ret ?_
            refine ret1v rfl (show _ = Value.bool _ from rfl) ?_
            exact ⟨congrArg Value.bool (by rw [Bool.eq_iff_iff]; simp_all [numB] <;> omega), rfl⟩
          · try simp only [decide_eq_true_eq, decide_eq_false_iff_not, Bool.not_eq_true', Bool.not_eq_false', Bool.and_eq_true, Bool.or_eq_true, Bool.and_eq_false_iff, Bool.or_eq_false_iff] at c12
            refine W.seq ?_
            refine W.region ?_
            refine WL.c rfl (o_eq rfl rfl ?_)
            refine WL.c rfl (o_ash (show _ = Value.bool _ from rfl) ?_)
            refine WL.nil ?_
            refine W.cond rfl (fun c18 => ?_) (fun c18 => ?_)
            · try simp only [decide_eq_true_eq, decide_eq_false_iff_not, Bool.not_eq_true', Bool.not_eq_false', Bool.and_eq_true, Bool.or_eq_true, Bool.and_eq_false_iff, Bool.or_eq_false_iff] at c18
              refine W.seq ?_
              refine W.region ?_
              refine WL.c rfl (o_mvh (show _ = Value.int _ _ from rfl) ?_)
              refine WL.c rfl (o_le rfl rfl ?_)
              refine WL.c rfl (o_ash (show _ = Value.bool _ from rfl) ?_)
              refine WL.nil ?_
              refine W.ret ?_
              refine ret1v rfl (show _ = Value.bool _ from rfl) ?_
              exact ⟨congrArg Value.bool (by rw [Bool.eq_iff_iff]; simp_all [numB] <;> omega), rfl⟩
            · try simp only [decide_eq_true_eq, decide_eq_false_iff_not, Bool.not_eq_true', Bool.not_eq_false', Bool.and_eq_true, Bool.or_eq_true, Bool.and_eq_false_iff, Bool.or_eq_false_iff] at c18
              refine W.skip ?_
              refine W.seq ?_
              refine W.region ?_
              refine WL.c rfl (o_ash (show _ = Value.bool _ from rfl) ?_)
              refine WL.nil ?_
              refine W.ret ?_
              refine ret1v rfl (show _ = Value.bool _ from rfl) ?_
              exact ⟨congrArg Value.bool (by rw [Bool.eq_iff_iff]; simp_all [numB] <;> omega), rfl⟩
        · try simp only [decide_eq_true_eq, decide_eq_false_iff_not, Bool.not_eq_true', Bool.not_eq_false', Bool.and_eq_true, Bool.or_eq_true, Bool.and_eq_false_iff, Bool.or_eq_false_iff] at c12
          refine W.region ?_
          refine WL.c rfl (o_eq rfl rfl ?_)
          refine WL.c rfl (o_ash (show _ = Value.bool _ from rfl) ?_)
          refine WL.nil ?_
          refine W.cond rfl (fun c12 => ?_) (fun c12 => ?_)
          · try simp only [decide_eq_true_eq, decide_eq_false_iff_not, Bool.not_eq_true', Bool.not_eq_false', Bool.and_eq_true, Bool.or_eq_true, Bool.and_eq_false_iff, Bool.or_eq_false_iff] at c12
            refine W.seq ?_
            refine W.region ?_
            refine WL.c rfl (o_mvh (show _ = Value.int _ _ from rfl) ?_)
            refine WL.c rfl (o_eq rfl rfl ?_)
            refine WL.c rfl (o_ash (show _ = Value.bool _ from rfl) ?_)
            refine WL.nil ?_
            refine W.ret ?_
            refine ret1v rfl (show _ = Value.bool _ from rfl) ?_
            exact ⟨congrArg Value.bool (by rw [Bool.eq_iff_iff]; simp_all [numB] <;> omega), rfl⟩
          · try simp only [decide_eq_true_eq, decide_eq_false_iff_not, Bool.not_eq_true', Bool.not_eq_false', Bool.and_eq_true, Bool.or_eq_true, Bool.and_eq_false_iff, Bool.or_eq_false_iff] at c12
            refine W.seq ?_
            refine W.region ?_
            refine WL.c rfl (o_eq rfl rfl ?_)
            refine WL.c rfl (o_ash (show _ = Value.bool _ from rfl) ?_)
            refine WL.nil ?_
            refine W.cond rfl (fun c18 => ?_) (fun c18 => ?_)
            · try simp only [decide_eq_true_eq, decide_eq_false_iff_not, Bool.not_eq_true', Bool.not_eq_false', Bool.and_eq_true, Bool.or_eq_true, Bool.and_eq_false_iff, Bool.or_eq_false_iff] at c18
              refine W.seq ?_
              refine W.region ?_
              refine WL.c rfl (o_mvh (show _ = Value.int _ _ from rfl) ?_)
              refine WL.c rfl (o_le rfl rfl ?_)
              refine WL.c rfl (o_ash (show _ = Value.bool _ from rfl) ?_)
              refine WL.nil ?_
              refine W.ret ?_
              refine ret1v rfl (show _ = Value.bool _ from rfl) ?_
              exact ⟨congrArg Value.bool (by rw [Bool.eq_iff_iff]; simp_all [numB] <;> omega), rfl⟩
            · try simp only [decide_eq_true_eq, decide_eq_false_iff_not, Bool.not_eq_true', Bool.not_eq_false', Bool.and_eq_true, Bool.or_eq_true, Bool.and_eq_false_iff, Bool.or_eq_false_iff] at c18
              refine W.skip ?_
              refine W.seq ?_
              refine W.region ?_
              refine WL.c rfl (o_ash (show _ = Value.bool _ from rfl) ?_)
              refine WL.nil ?_
              refine W.ret ?_
              refine ret1v rfl (show _ = Value.bool _ from rfl) ?_
              exact ⟨congrArg Value.bool (by rw [Bool.eq_iff_iff]; simp_all [numB] <;> omega), rfl⟩
set_option maxHeartbeats 1000000 in
theorem vkids_spec (k : Int) (w0 : World) : Ca Tryd.prog 40 #[.int .i64 k] w0 (fun v w' => v = .tuple #[.int .i64 (leastK k), .int .i64 (mostK k)] ∧ w' = w0) := by
  refine Ca.of Tryd.func40 Tryd.ntmps40 rfl rfl ?_
  refine W.seq ?_
  refine W.region ?_
  refine WL.c rfl (o_ash (show _ = Value.int _ _ from rfl) ?_)
  refine WL.c rfl (o_ash (show _ = Value.int _ _ from rfl) ?_)
  refine WL.nil ?_
  refine W.seq ?_
  refine W.seq ?_
  refine W.region ?_
  refine WL.c rfl (o_mvh (show _ = Value.int _ _ from rfl) ?_)
  refine WL.nil ?_
  refine W.block ?_
  refine W.seq ?_
  refine W.region ?_
  refine WL.c rfl (o_eq rfl rfl ?_)
  refine WL.c rfl (o_ash (show _ = Value.bool _ from rfl) ?_)
  refine WL.nil ?_
  refine W.cond rfl (fun c5 => ?_) (fun c5 => ?_)
  · try simp only [decide_eq_true_eq, decide_eq_false_iff_not, Bool.not_eq_true', Bool.not_eq_false', Bool.and_eq_true, Bool.or_eq_true, Bool.and_eq_false_iff, Bool.or_eq_false_iff] at c5
    refine W.seq ?_
    refine W.region ?_
    refine WL.c rfl (o_ash (show _ = Value.int _ _ from rfl) ?_)
    refine WL.c rfl (o_ash (show _ = Value.int _ _ from rfl) ?_)
    refine WL.nil ?_
    refine W.ret ?_
    refine ret2v rfl (show _ = Value.int _ _ from rfl) (show _ = Value.int _ _ from rfl) ?_
    exact ⟨by simp_all [leastK, mostK], rfl⟩
  · try simp only [decide_eq_true_eq, decide_eq_false_iff_not, Bool.not_eq_true', Bool.not_eq_false', Bool.and_eq_true, Bool.or_eq_true, Bool.and_eq_false_iff, Bool.or_eq_false_iff] at c5
    refine W.seq ?_
    refine W.region ?_
    refine WL.c rfl (o_eq rfl rfl ?_)
    refine WL.c rfl (o_ash (show _ = Value.bool _ from rfl) ?_)
    refine WL.nil ?_
    refine W.cond rfl (fun c7 => ?_) (fun c7 => ?_)
    · try simp only [decide_eq_true_eq, decide_eq_false_iff_not, Bool.not_eq_true', Bool.not_eq_false', Bool.and_eq_true, Bool.or_eq_true, Bool.and_eq_false_iff, Bool.or_eq_false_iff] at c7
      refine W.seq ?_
      refine W.region ?_
      refine WL.c rfl (o_ash (show _ = Value.int _ _ from rfl) ?_)
      refine WL.c rfl (o_ash (show _ = Value.int _ _ from rfl) ?_)
      refine WL.nil ?_
      refine W.ret ?_
      refine ret2v rfl (show _ = Value.int _ _ from rfl) (show _ = Value.int _ _ from rfl) ?_
      exact ⟨by simp_all [leastK, mostK], rfl⟩
    · try simp only [decide_eq_true_eq, decide_eq_false_iff_not, Bool.not_eq_true', Bool.not_eq_false', Bool.and_eq_true, Bool.or_eq_true, Bool.and_eq_false_iff, Bool.or_eq_false_iff] at c7
      refine W.seq ?_
      refine W.region ?_
      refine WL.c rfl (o_eq rfl rfl ?_)
      refine WL.c rfl (o_ash (show _ = Value.bool _ from rfl) ?_)
      refine WL.nil ?_
      refine W.cond rfl (fun c9 => ?_) (fun c9 => ?_)
      · try simp only [decide_eq_true_eq, decide_eq_false_iff_not, Bool.not_eq_true', Bool.not_eq_false', Bool.and_eq_true, Bool.or_eq_true, Bool.and_eq_false_iff, Bool.or_eq_false_iff] at c9
        refine W.seq ?_
        refine W.region ?_
        refine WL.c rfl (o_ash (show _ = Value.int _ _ from rfl) ?_)
        refine WL.c rfl (o_ash (show _ = Value.int _ _ from rfl) ?_)
        refine WL.nil ?_
        refine W.ret ?_
        refine ret2v rfl (show _ = Value.int _ _ from rfl) (show _ = Value.int _ _ from rfl) ?_
        exact ⟨by simp_all [leastK, mostK], rfl⟩
      · try simp only [decide_eq_true_eq, decide_eq_false_iff_not, Bool.not_eq_true', Bool.not_eq_false', Bool.and_eq_true, Bool.or_eq_true, Bool.and_eq_false_iff, Bool.or_eq_false_iff] at c9
        refine W.seq ?_
        refine W.region ?_
        refine WL.c rfl (o_eq rfl rfl ?_)
        refine WL.c rfl (o_ash (show _ = Value.bool _ from rfl) ?_)
        refine WL.nil ?_
        refine W.cond rfl (fun c11 => ?_) (fun c11 => ?_)
        · try simp only [decide_eq_true_eq, decide_eq_false_iff_not, Bool.not_eq_true', Bool.not_eq_false', Bool.and_eq_true, Bool.or_eq_true, Bool.and_eq_false_iff, Bool.or_eq_false_iff] at c11
          refine W.seq ?_
          refine W.region ?_
          refine WL.c rfl (o_ash (show _ = Value.int _ _ from rfl) ?_)
          refine WL.c rfl (o_ash (show _ = Value.int _ _ from rfl) ?_)
          refine WL.nil ?_
          refine W.ret ?_
          refine ret2v rfl (show _ = Value.int _ _ from rfl) (show _ = Value.int _ _ from rfl) ?_
          exact ⟨by simp_all [leastK, mostK], rfl⟩
        · try simp only [decide_eq_true_eq, decide_eq_false_iff_not, Bool.not_eq_true', Bool.not_eq_false', Bool.and_eq_true, Bool.or_eq_true, Bool.and_eq_false_iff, Bool.or_eq_false_iff] at c11
          refine W.skip ?_
          refine W.seq ?_
          refine W.region ?_
          refine WL.c rfl (o_ash (show _ = Value.int _ _ from rfl) ?_)
          refine WL.c rfl (o_ash (show _ = Value.int _ _ from rfl) ?_)
          refine WL.nil ?_
          refine W.ret ?_
          refine ret2v rfl (show _ = Value.int _ _ from rfl) (show _ = Value.int _ _ from rfl) ?_
          exact ⟨by simp_all [leastK, mostK], rfl⟩
set_option maxHeartbeats 1000000 in
theorem vright_spec (x : Nd) (w0 : World) : Ca Tryd.prog 50 #[.agg (ndV x).toArray] w0 (fun v w' => v = .bool (rightN x) ∧ Ext w0 w') := by
  refine Ca.of Tryd.func50 Tryd.ntmps50 rfl rfl ?_
  refine W.seq ?_
  refine W.region ?_
  refine WL.c rfl (o_boxB rfl ?_)
  intro w1 hC1 hx1 hs1
  obtain ⟨b1, hb1⟩ : ∃ b, b = w0.heap.size := ⟨_, rfl⟩
  rw [← hb1] at hC1 ⊢
  replace hC1 : w1.heap[b1]? = some (.cells (ndV x).toArray 69 (0, 0)) := hC1
  have hx := hx1
  refine WL.c rfl (o_ash (show _ = Value.bool _ from rfl) ?_)
  refine WL.nil ?_
  refine W.seq ?_
  refine W.region ?_
  refine WL.c rfl (o_fa 0 TI69 rfl TI3 rfl rfl ?_)
  refine WL.c rfl (o_ld TI3 rfl rfl (cell_of hC1 rfl) ?_)
  refine WL.c rfl (o_call Tryd.call40 (lc rfl ln) ((vkids_spec x.kind _).mono ?_))
  rintro v8 w8 ⟨rfl, rfl⟩
  refine WL.c rfl (o_mvh (by first | exact (show _ = Value.tuple _ from rfl) | exact rfl) ?_)
  refine WL.c rfl (o_ext rfl rfl ?_)
  refine WL.c rfl (o_ext rfl rfl ?_)
  refine WL.c rfl (o_ash (show _ = Value.int _ _ from rfl) ?_)
  refine WL.c rfl (o_ash (show _ = Value.int _ _ from rfl) ?_)
  refine WL.nil ?_
  refine W.seq ?_
  refine W.region ?_
  refine WL.c rfl (o_fa 0 TI69 rfl TI3 rfl rfl ?_)
  refine WL.c rfl (o_ld TI3 rfl rfl (cell_of hC1 rfl) ?_)
  refine WL.c rfl (o_fa 1 TI69 rfl TI43 rfl rfl ?_)
  refine WL.c rfl (o_ld TI43 rfl rfl (cell_of hC1 rfl) ?_)
  refine WL.c rfl (o_call Tryd.call39 (lc rfl (lc rfl ln)) ((vnum_spec x.kind x.n _).mono ?_))
  rintro v15 w15 ⟨rfl, rfl⟩
  refine WL.c rfl (o_mvh (show _ = Value.bool _ from rfl) ?_)
  refine WL.sp 5 rfl (fun g16 => ?_) (fun g16 => ?_)
  · skip
    refine WL.g rfl (g16) rfl (o_fa 2 TI69 rfl TI3 rfl rfl ?_)
    refine WL.g rfl (g16) rfl (o_ld TI3 rfl rfl (cell_of hC1 rfl) ?_)
    refine WL.g rfl (g16) rfl (o_mvh (show _ = Value.int _ _ from rfl) ?_)
    refine WL.g rfl (g16) rfl (o_ge rfl rfl ?_)
    refine WL.c rfl (o_pickA rfl rfl ?_)
    refine WL.c rfl (o_mvh (show _ = Value.bool _ from rfl) ?_)
    refine WL.sp 11 rfl (fun g22 => ?_) (fun g22 => ?_)
    · skip
      refine WL.g rfl (g22) rfl (o_fa 2 TI69 rfl TI3 rfl rfl ?_)
      refine WL.g rfl (g22) rfl (o_ld TI3 rfl rfl (cell_of hC1 rfl) ?_)
      refine WL.g rfl (g22) rfl (o_mvh (show _ = Value.int _ _ from rfl) ?_)
      refine WL.g rfl (g22) rfl (o_le rfl rfl ?_)
      refine WL.c rfl (o_pickA rfl rfl ?_)
      refine WL.c rfl (o_ash (show _ = Value.bool _ from rfl) ?_)
      refine WL.nil ?_
      refine W.ret ?_
      refine ret1v rfl (show _ = Value.bool _ from rfl) ?_
      exact ⟨congrArg Value.bool (by rw [Bool.eq_iff_iff]; simp_all [rightN] <;> omega), hx⟩
    · skip
      refine WL.s rfl (g22) rfl ?_
      refine WL.s rfl (g22) rfl ?_
      refine WL.s rfl (g22) rfl ?_
      refine WL.s rfl (g22) rfl ?_
      refine WL.c rfl (o_pickF rfl (g22) ?_)
      refine WL.c rfl (o_ash (show _ = Value.bool _ from rfl) ?_)
      refine WL.nil ?_
      refine W.ret ?_
      refine ret1v rfl (show _ = Value.bool _ from rfl) ?_
      exact ⟨congrArg Value.bool (by rw [Bool.eq_iff_iff]; simp_all [rightN] <;> omega), hx⟩
  · skip
    refine WL.s rfl (g16) rfl ?_
    refine WL.s rfl (g16) rfl ?_
    refine WL.s rfl (g16) rfl ?_
    refine WL.s rfl (g16) rfl ?_
    refine WL.c rfl (o_pickF rfl (g16) ?_)
    refine WL.c rfl (o_mvh (show _ = Value.bool _ from rfl) ?_)
    refine WL.s rfl (rfl) rfl ?_
    refine WL.s rfl (rfl) rfl ?_
    refine WL.s rfl (rfl) rfl ?_
    refine WL.s rfl (rfl) rfl ?_
    refine WL.c rfl (o_pickF rfl (rfl) ?_)
    refine WL.c rfl (o_ash (show _ = Value.bool _ from rfl) ?_)
    refine WL.nil ?_
    refine W.ret ?_
    refine ret1v rfl (show _ = Value.bool _ from rfl) ?_
    exact ⟨congrArg Value.bool (by rw [Bool.eq_iff_iff]; simp_all [rightN] <;> omega), hx⟩
set_option maxHeartbeats 4000000 in
theorem vcheck_spec (L : List Nd) (v : Value) (w0 : World) (hS : Sl w0 3 v L.length (nds L)) (hl : L.length ≤ 5864062014805) : Ca Tryd.prog 27 #[v] w0 (fun r w' => r = .agg #[.int .i64 (chkV L).1, .int .i64 (chkV L).2] ∧ Ext w0 w') := by
  refine Ca.of Tryd.func27 Tryd.ntmps27 rfl rfl ?_
  refine W.seq ?_
  refine W.region ?_
  refine WL.c rfl (o_alB TI64 ?_)
  intro wb hC2 hxb hsb
  obtain ⟨c2, hc2⟩ : ∃ c, c = w0.heap.size := ⟨_, rfl⟩
  rw [← hc2] at hC2 ⊢
  have hx : Ext w0 wb := hxb
  have hz2 : w0.heap.size ≤ c2 := by omega
  replace hC2 : wb.heap[c2]? = some (.cells #[.int .i64 0, .int .i64 0] 64 (0, 0)) := hC2
  clear hxb hsb
  refine WL.nil ?_
  refine W.seq ?_
  refine W.region ?_
  refine WL.c rfl (o_ash (show _ = Value.int _ _ from rfl) ?_)
  refine WL.nil ?_
  refine W.seq ?_
  refine W.seq ?_
  refine W.region ?_
  refine WL.c rfl (o_mvh (by first | exact (show _ = Value.slice _ _ _ from rfl) | exact rfl) ?_)
  refine WL.c rfl (o_lenR TI30 rfl (hS.ext hx) ?_)
  refine WL.c rfl (o_mvh (show _ = Value.int _ _ from rfl) ?_)
  refine WL.nil ?_
  refine W.block ?_
  refine W.loop (fun e w => ∃ (i : Nat) (t : Int), i ≤ L.length ∧ e 0 = v ∧ e 2 = .pointer (some ⟨c2, 0, none⟩) ∧ e 3 = .int .i64 t ∧ e 6 = v ∧ e 7 = .int .i64 (L.length : Int) ∧ e 8 = .int .i64 (i : Int) ∧ w.heap[c2]? = some (.cells #[.int .i64 0, .int .i64 0] 64 (0, 0)) ∧ chkV L = chkG t i (L.drop i) ∧ 0 ≤ t ∧ t ≤ 1 + 1048576 * (i : Int) ∧ Ext w0 w) (fun e w => L.length - (intOf (e 8)).toNat) ?_ ?_
  · exact ⟨0, 1, Nat.zero_le _, rfl, rfl, rfl, rfl, rfl, rfl, hC2, rfl, by omega, by omega, hx⟩
  rintro e w ⟨i, t, hi, h0, h2, h3, h6, h7, h8, hC2, hres, ht0, ht1, hx⟩
  have hm8 := h8
  refine W.seq ?_
  refine W.region ?_
  refine WL.c rfl (o_lt h8 h7 ?_)
  refine WL.nil ?_
  refine W.seq ?_
  refine W.cond rfl (fun c9 => ?_) (fun c9 => ?_)
  · try simp only [decide_eq_true_eq, decide_eq_false_iff_not, Bool.not_eq_true', Bool.not_eq_false', Bool.and_eq_true, Bool.or_eq_true, Bool.and_eq_false_iff, Bool.or_eq_false_iff] at c9
    have hi1 : i < L.length := by omega
    obtain ⟨ub, uo, uc, hv, huc⟩ := Sl.nd (hS.ext hx) hi1
    rw [hv] at h6
    have hdr : L.drop i = L[i] :: L.drop (i + 1) := (List.getElem_cons_drop hi1).symm
    refine W.skip ?_
    refine W.seq ?_
    refine W.block ?_
    refine W.seq ?_
    refine W.region ?_
    refine WL.c rfl (o_mvh h8 ?_)
    refine WL.c rfl (o_ixB (i := i) TI30 TI69 h6 h8 (by omega) ?_)
    refine WL.c rfl (o_ldA TI69 rfl rfl huc rfl ?_)
    refine WL.c rfl (o_alB TI69 ?_)
    intro wa hCa hxa hsa
    refine WL.c rfl (o_ash (show _ = Value.int _ _ from rfl) ?_)
    refine WL.u (o_stA TI69 rfl (show _ = Value.agg (ndV L[i]).toArray from rfl) rfl rfl hCa rfl ?_)
    intro wb5 hC5 hob hsb
    have hxb := Ext.own hxa (Nat.le_refl _) hob
    obtain ⟨b5, hb5⟩ : ∃ b, b = w.heap.size := ⟨_, rfl⟩
    rw [← hb5] at hC5 ⊢
    clear hCa hxa hsa hob hsb
    replace hx := hx.tr hxb
    replace hC2 := hxb.blk hC2 (fun h => h)
    clear hxb
    refine WL.nil ?_
    refine W.seq ?_
    refine W.seq ?_
    refine W.region ?_
    refine WL.c rfl (o_mvh h3 ?_)
    refine WL.c rfl (o_eq rfl rfl ?_)
    refine WL.c rfl (o_mvh (show _ = Value.bool _ from rfl) ?_)
    refine WL.sp 2 rfl (fun g15 => ?_) (fun g15 => ?_)
    · skip
      refine WL.s rfl (g15) rfl ?_
      refine WL.s rfl (g15) rfl ?_
      refine WL.s rfl (g15) rfl ?_
      refine WL.c rfl (o_pickT rfl (g15) ?_)
      refine WL.nil ?_
      refine W.cond rfl (fun c19 => ?_) (fun c19 => ?_)
      · try simp only [decide_eq_true_eq, decide_eq_false_iff_not, Bool.not_eq_true', Bool.not_eq_false', Bool.and_eq_true, Bool.or_eq_true, Bool.and_eq_false_iff, Bool.or_eq_false_iff] at c19
        have hbad : t = 0 ∨ rightN L[i] = false := by first | exact .inl (by simpa using g15) | exact c19
        refine W.seq ?_
        skip
        · skip
          refine W.region ?_
          refine WL.c rfl (o_mvh (show _ = Value.int _ _ from rfl) ?_)
          refine WL.c rfl (o_bldC (cs := [(.int .i64 40), _]) TI64 (Sizes.cons TI46 (Sizes.cons TI3 Sizes.nil)) rfl (lcp (show _ = Value.int _ _ from rfl) (lcp (show _ = Value.int _ _ from rfl) lnp)) rfl rfl ?_)
          refine WL.u (o_stA TI64 h2 (show _ = Value.agg #[.int .i64 40, .int .i64 (i : Int)] from rfl) rfl rfl hC2 rfl ?_)
          intro wz hCz hoz hsz
          replace hx := hx.trans' hoz (fun _ h => h) (fun b hb he => by omega)
          refine WL.nil ?_
          refine W.ret ?_
          refine retC rfl TI64 rfl h2 (show Cells _ c2 0 [.int .i64 40, .int .i64 (i : Int)] from Cells.of hCz 0 _ (by simp)) rfl ?_
          exact ⟨by rw [hres, hdr, chkG, if_pos hbad], hx⟩
      · try simp only [decide_eq_true_eq, decide_eq_false_iff_not, Bool.not_eq_true', Bool.not_eq_false', Bool.and_eq_true, Bool.or_eq_true, Bool.and_eq_false_iff, Bool.or_eq_false_iff] at c19
        have hok : ¬ (t = 0 ∨ rightN L[i] = false) := by first | (exfalso; simp at c19; done) | simpa using c19
        have hrt : rightN L[i] = true := by cases h : rightN L[i] with | true => rfl | false => exact absurd (.inr h) hok
        have ht2 : ¬ t = 0 := fun h => hok (.inl h)
        have hkd := right_kids hrt
        refine W.skip ?_
        refine W.region ?_
        refine WL.c rfl (o_mvh h3 ?_)
        refine WL.c rfl (o_fa 2 TI69 rfl TI3 rfl rfl ?_)
        refine WL.c rfl (o_ld TI3 rfl rfl (cell_of hC5 rfl) ?_)
        refine WL.c rfl (o_subi rfl rfl (by omega) ?_)
        refine WL.c rfl (o_addi rfl rfl (by omega) ?_)
        refine WL.c rfl (o_ash (show _ = Value.int _ _ from rfl) ?_)
        refine WL.nil ?_
        refine W.region ?_
        refine WL.c rfl (o_addi h8 rfl (by omega) ?_)
        refine WL.c rfl (o_mvh (show _ = Value.int _ _ from rfl) ?_)
        refine WL.nil ?_
        refine ⟨⟨i + 1, t + (L[i].kids - 1), by omega, h0, h2, rfl, h6.trans hv.symm, h7, rfl, hC2, ?_, by omega, by omega, hx⟩, ?_⟩
        · rw [hres, hdr, chkG, if_neg hok]
        · show L.length - ((i : Int) + 1).toNat < _
          rw [hm8]; simp [intOf]; omega
    · skip
      refine WL.g rfl (g15) rfl (o_ldA TI69 rfl rfl (show Cells _ b5 0 (ndV L[i]) from Cells.of hC5 0 _ (by simp)) rfl ?_)
      refine WL.g rfl (g15) rfl (o_call Tryd.call50 (lc rfl ln) ((vright_spec L[i] _).mono ?_))
      rintro v17 w17 ⟨rfl, hx17⟩
      replace hx := hx.tr hx17
      replace hC2 := hx17.blk hC2 (fun h => h)
      replace hC5 := hx17.blk hC5 (fun h => h)
      refine WL.g rfl (g15) rfl (o_not' rfl ?_)
      refine WL.c rfl (o_pickO rfl rfl ?_)
      refine WL.nil ?_
      refine W.cond rfl (fun c19 => ?_) (fun c19 => ?_)
      · try simp only [decide_eq_true_eq, decide_eq_false_iff_not, Bool.not_eq_true', Bool.not_eq_false', Bool.and_eq_true, Bool.or_eq_true, Bool.and_eq_false_iff, Bool.or_eq_false_iff] at c19
        have hbad : t = 0 ∨ rightN L[i] = false := by first | exact .inl (by simpa using g15) | exact c19
        refine W.seq ?_
        skip
        · skip
          refine W.region ?_
          refine WL.c rfl (o_mvh (show _ = Value.int _ _ from rfl) ?_)
          refine WL.c rfl (o_bldC (cs := [(.int .i64 40), _]) TI64 (Sizes.cons TI46 (Sizes.cons TI3 Sizes.nil)) rfl (lcp (show _ = Value.int _ _ from rfl) (lcp (show _ = Value.int _ _ from rfl) lnp)) rfl rfl ?_)
          refine WL.u (o_stA TI64 h2 (show _ = Value.agg #[.int .i64 40, .int .i64 (i : Int)] from rfl) rfl rfl hC2 rfl ?_)
          intro wz hCz hoz hsz
          replace hx := hx.trans' hoz (fun _ h => h) (fun b hb he => by omega)
          refine WL.nil ?_
          refine W.ret ?_
          refine retC rfl TI64 rfl h2 (show Cells _ c2 0 [.int .i64 40, .int .i64 (i : Int)] from Cells.of hCz 0 _ (by simp)) rfl ?_
          exact ⟨by rw [hres, hdr, chkG, if_pos hbad], hx⟩
      · try simp only [decide_eq_true_eq, decide_eq_false_iff_not, Bool.not_eq_true', Bool.not_eq_false', Bool.and_eq_true, Bool.or_eq_true, Bool.and_eq_false_iff, Bool.or_eq_false_iff] at c19
        have hok : ¬ (t = 0 ∨ rightN L[i] = false) := by first | (exfalso; simp at c19; done) | simpa using c19
        have hrt : rightN L[i] = true := by cases h : rightN L[i] with | true => rfl | false => exact absurd (.inr h) hok
        have ht2 : ¬ t = 0 := fun h => hok (.inl h)
        have hkd := right_kids hrt
        refine W.skip ?_
        refine W.region ?_
        refine WL.c rfl (o_mvh h3 ?_)
        refine WL.c rfl (o_fa 2 TI69 rfl TI3 rfl rfl ?_)
        refine WL.c rfl (o_ld TI3 rfl rfl (cell_of hC5 rfl) ?_)
        refine WL.c rfl (o_subi rfl rfl (by omega) ?_)
        refine WL.c rfl (o_addi rfl rfl (by omega) ?_)
        refine WL.c rfl (o_ash (show _ = Value.int _ _ from rfl) ?_)
        refine WL.nil ?_
        refine W.region ?_
        refine WL.c rfl (o_addi h8 rfl (by omega) ?_)
        refine WL.c rfl (o_mvh (show _ = Value.int _ _ from rfl) ?_)
        refine WL.nil ?_
        refine ⟨⟨i + 1, t + (L[i].kids - 1), by omega, h0, h2, rfl, h6.trans hv.symm, h7, rfl, hC2, ?_, by omega, by omega, hx⟩, ?_⟩
        · rw [hres, hdr, chkG, if_neg hok]
        · show L.length - ((i : Int) + 1).toNat < _
          rw [hm8]; simp [intOf]; omega
  · try simp only [decide_eq_true_eq, decide_eq_false_iff_not, Bool.not_eq_true', Bool.not_eq_false', Bool.and_eq_true, Bool.or_eq_true, Bool.and_eq_false_iff, Bool.or_eq_false_iff] at c9
    have hi1 : i = L.length := by omega
    rw [hi1, List.drop_length, chkG] at hres
    refine W.exit ?_
    refine W.seq ?_
    refine W.seq ?_
    refine W.region ?_
    refine WL.c rfl (o_mvh h3 ?_)
    refine WL.c rfl (o_gt rfl rfl ?_)
    refine WL.nil ?_
    refine W.cond rfl (fun c29 => ?_) (fun c29 => ?_)
    · try simp only [decide_eq_true_eq, decide_eq_false_iff_not, Bool.not_eq_true', Bool.not_eq_false', Bool.and_eq_true, Bool.or_eq_true, Bool.and_eq_false_iff, Bool.or_eq_false_iff] at c29
      refine W.seq ?_
      skip
      · skip
        refine W.region ?_
        refine WL.c rfl (o_mvh h0 ?_)
        refine WL.c rfl (o_lenR TI30 rfl (hS.ext hx) ?_)
        refine WL.c rfl (o_bldC (cs := [(.int .i64 40), _]) TI64 (Sizes.cons TI46 (Sizes.cons TI3 Sizes.nil)) rfl (lcp (show _ = Value.int _ _ from rfl) (lcp (show _ = Value.int _ _ from rfl) lnp)) rfl rfl ?_)
        refine WL.u (o_stA TI64 h2 (show _ = Value.agg #[.int .i64 40, .int .i64 (L.length : Int)] from rfl) rfl rfl hC2 rfl ?_)
        intro wz hCz hoz hsz
        replace hx := hx.trans' hoz (fun _ h => h) (fun b hb he => by omega)
        refine WL.nil ?_
        refine W.ret ?_
        refine retC rfl TI64 rfl h2 (show Cells _ c2 0 [.int .i64 40, .int .i64 (L.length : Int)] from Cells.of hCz 0 _ (by simp)) rfl ?_
        exact ⟨by rw [hres, if_pos (by simpa using c29)], hx⟩
    · try simp only [decide_eq_true_eq, decide_eq_false_iff_not, Bool.not_eq_true', Bool.not_eq_false', Bool.and_eq_true, Bool.or_eq_true, Bool.and_eq_false_iff, Bool.or_eq_false_iff] at c29
      refine W.skip ?_
      refine W.seq ?_
      skip
      · skip
        refine W.region ?_
        refine WL.c rfl (o_bldC (cs := [(.int .i64 0), (.int .i64 0)]) TI64 (Sizes.cons TI46 (Sizes.cons TI3 Sizes.nil)) rfl lnp rfl rfl ?_)
        refine WL.u (o_stA TI64 h2 (show _ = Value.agg #[.int .i64 0, .int .i64 0] from rfl) rfl rfl hC2 rfl ?_)
        intro wz hCz hoz hsz
        replace hx := hx.trans' hoz (fun _ h => h) (fun b hb he => by omega)
        refine WL.nil ?_
        refine W.ret ?_
        refine retC rfl TI64 rfl h2 (show Cells _ c2 0 [.int .i64 0, .int .i64 0] from Cells.of hCz 0 _ (by simp)) rfl ?_
        exact ⟨by rw [hres, if_neg (by simpa using c29)], hx⟩
set_option maxHeartbeats 2000000 in
theorem vnext_spec (L : List Nd) (v : Value) (p : Nat) (w0 : World) (hS : Sl w0 3 v L.length (nds L)) (hl : L.length ≤ 5864062014805) (hc : (chkV L).1 = 0) (hp : p < L.length) : Ca Tryd.prog 52 #[v, .int .i64 (p : Int)] w0 (fun r w' => r = .int .i64 (nextV L p : Int) ∧ Ext w0 w') := by
  have hx : Ext w0 w0 := Only.refl _ _
  obtain ⟨s, post, hsw, hsd⟩ := sub_at hc hp
  have hnx := next_tree hsd hsw
  refine Ca.of Tryd.func52 Tryd.ntmps52 rfl rfl ?_
  refine W.seq ?_
  refine W.region ?_
  refine WL.c rfl (o_ash (show _ = Value.int _ _ from rfl) ?_)
  refine WL.nil ?_
  refine W.seq ?_
  refine W.seq ?_
  refine W.region ?_
  refine WL.c rfl (o_ash (show _ = Value.int _ _ from rfl) ?_)
  refine WL.nil ?_
  refine W.block ?_
  refine W.loop (fun e w => ∃ (q : Nat) (F : Vts) (post : List Nd), q ≤ L.length ∧ e 0 = v ∧ e 1 = .int .i64 (q : Int) ∧ e 5 = .int .i64 (F.len : Int) ∧ F.wf ∧ L.drop q = F.flat ++ post ∧ nextV L p = q + F.flat.length ∧ Ext w0 w) (fun e w => L.length - (intOf (e 1)).toNat) ?_ ?_
  · exact ⟨p, .cons s .nil, post, by omega, rfl, rfl, rfl, ⟨hsw, trivial⟩, by simpa [Vts.flat] using hsd, by simpa [Vts.flat] using hnx, hx⟩
  rintro e w ⟨q, F, post, hq, h0, h1, h5, hw, hd, hn, hx⟩
  have hm1 := h1
  refine W.seq ?_
  refine W.seq ?_
  refine W.region ?_
  refine WL.c rfl (o_mvh h5 ?_)
  refine WL.c rfl (o_gt rfl rfl ?_)
  refine WL.nil ?_
  refine W.cond rfl (fun c7 => ?_) (fun c7 => ?_)
  · try simp only [decide_eq_true_eq, decide_eq_false_iff_not, Bool.not_eq_true', Bool.not_eq_false', Bool.and_eq_true, Bool.or_eq_true, Bool.and_eq_false_iff, Bool.or_eq_false_iff] at c7
    obtain ⟨x, ks, G, rfl⟩ := Vts.pos (show 0 < F.len by omega)
    obtain ⟨hq1, hxq, hd2⟩ := drop_step hd
    obtain ⟨ub, uo, uc, hv, huc⟩ := Sl.nd (hS.ext hx) hq1
    rw [hxq] at huc
    rw [hv] at h0
    have hkd := right_kids hw.1.1
    have hln := Vts.len_le (.cons (.node x ks) G)
    have hdl := congrArg List.length hd
    rw [List.length_drop, List.length_append] at hdl
    refine W.skip ?_
    refine W.seq ?_
    refine W.block ?_
    refine W.region ?_
    refine WL.c rfl (o_mvh h5 ?_)
    refine WL.c rfl (o_mvh h0 ?_)
    refine WL.c rfl (o_mvh h1 ?_)
    refine WL.c rfl (o_ixB (i := q) TI30 TI69 (show _ = Value.slice (some ⟨ub, uo, none⟩) L.length uc from by first | rfl | assumption) (show _ = Value.int .i64 (q : Int) from by first | rfl | assumption) (by omega) ?_)
    refine WL.c rfl (o_fa 2 TI69 rfl TI3 rfl rfl ?_)
    refine WL.c rfl (o_ld TI3 rfl rfl (huc 2 _ rfl) ?_)
    refine WL.c rfl (o_subi rfl rfl (by omega) ?_)
    refine WL.c rfl (o_addi rfl rfl (by omega) ?_)
    refine WL.c rfl (o_ash (show _ = Value.int _ _ from rfl) ?_)
    refine WL.nil ?_
    refine W.region ?_
    refine WL.c rfl (o_mvh h1 ?_)
    refine WL.c rfl (o_addi rfl rfl (by omega) ?_)
    refine WL.c rfl (o_ash (show _ = Value.int _ _ from rfl) ?_)
    refine WL.nil ?_
    refine ⟨⟨q + 1, ks.app G, post, by omega, h0.trans hv.symm, rfl, ?_, (Vts.app_wf _ _).2 ⟨hw.1.2.2, hw.2⟩, ?_, ?_, hx⟩, ?_⟩
    · show Value.int .i64 ((((Vts.cons (Vt.node x ks) G).len : Nat) : Int) + (x.kids - 1)) = _
      rw [Vts.app_len]
      congr 1
      have := hw.1.2.1
      simp only [Vts.len]
      omega
    · exact hd2
    · rw [hn, Vts.app_flat]; simp only [Vts.flat, Vt.flat, List.length_append, List.length_cons]; omega
    · show L.length - ((q : Int) + 1).toNat < _
      rw [hm1]; simp [intOf]; omega
  · try simp only [decide_eq_true_eq, decide_eq_false_iff_not, Bool.not_eq_true', Bool.not_eq_false', Bool.and_eq_true, Bool.or_eq_true, Bool.and_eq_false_iff, Bool.or_eq_false_iff] at c7
    have hF : F.len = 0 := by omega
    have hF2 : F.flat.length = 0 := by cases F with | nil => rfl | cons t ts => simp [Vts.len] at hF
    refine W.exit ?_
    refine W.seq ?_
    refine W.region ?_
    refine WL.c rfl (o_mvh h1 ?_)
    refine WL.c rfl (o_ash (show _ = Value.int _ _ from rfl) ?_)
    refine WL.nil ?_
    refine W.ret ?_
    refine ret1v rfl (show _ = Value.int _ _ from rfl) ?_
    exact ⟨by rw [hn, hF2]; rfl, hx⟩
set_option maxHeartbeats 1000000 in
theorem vthere_spec (L : List Nd) (v : Value) (at_ : Int) (w0 : World) (hS : Sl w0 3 v L.length (nds L)) (hl : L.length ≤ 5864062014805) : Ca Tryd.prog 51 #[v, .int .i64 at_] w0 (fun r w' => r = .int .i64 (thereV L at_) ∧ Ext w0 w') := by
  refine Ca.of Tryd.func51 Tryd.ntmps51 rfl rfl ?_
  refine W.seq ?_
  refine W.region ?_
  refine WL.c rfl (o_ash (show _ = Value.int _ _ from rfl) ?_)
  refine WL.nil ?_
  refine W.seq ?_
  refine W.seq ?_
  refine W.region ?_
  refine WL.c rfl (o_mvh (by first | exact (show _ = Value.slice _ _ _ from rfl) | exact rfl) ?_)
  refine WL.c rfl (o_call Tryd.call27 (lc rfl ln) ((vcheck_spec L v _ hS hl).mono ?_))
  rintro v7 w7 ⟨rfl, hx7⟩
  have hx := hx7
  refine WL.c rfl (o_alB TI64 ?_)
  intro wa hCa hxa hsa
  refine WL.u (o_stA TI64 rfl (show _ = Value.agg ([.int .i64 (chkV L).1, .int .i64 (chkV L).2]).toArray from rfl) rfl rfl hCa rfl ?_)
  intro wb5 hC5 hob hsb
  have hxb := Ext.own hxa (Nat.le_refl _) hob
  obtain ⟨b5, hb5⟩ : ∃ b, b = w7.heap.size := ⟨_, rfl⟩
  rw [← hb5] at hC5 ⊢
  clear hCa hxa hsa hob hsb
  replace hx := hx.tr hxb
  clear hxb
  refine WL.nil ?_
  refine W.seq ?_
  refine W.region ?_
  refine WL.c rfl (o_fa 0 TI64 rfl TI46 rfl rfl ?_)
  refine WL.c rfl (o_ld TI46 rfl rfl (cell_of hC5 rfl) ?_)
  refine WL.c rfl (o_ne rfl rfl ?_)
  refine WL.nil ?_
  refine W.cond rfl (fun c10 => ?_) (fun c10 => ?_)
  · try simp only [decide_eq_true_eq, decide_eq_false_iff_not, Bool.not_eq_true', Bool.not_eq_false', Bool.and_eq_true, Bool.or_eq_true, Bool.and_eq_false_iff, Bool.or_eq_false_iff] at c10
    refine W.seq ?_
    refine W.region ?_
    refine WL.c rfl (o_fa 0 TI64 rfl TI46 rfl rfl ?_)
    refine WL.c rfl (o_ld TI46 rfl rfl (cell_of hC5 rfl) ?_)
    refine WL.c rfl (o_ash (show _ = Value.int _ _ from rfl) ?_)
    refine WL.nil ?_
    refine W.ret ?_
    refine ret1v rfl (show _ = Value.int _ _ from rfl) ?_
    exact ⟨congrArg (Value.int .i64) (by rw [thereV, if_pos (by simpa using c10)]), hx⟩
  · try simp only [decide_eq_true_eq, decide_eq_false_iff_not, Bool.not_eq_true', Bool.not_eq_false', Bool.and_eq_true, Bool.or_eq_true, Bool.and_eq_false_iff, Bool.or_eq_false_iff] at c10
    refine W.skip ?_
    refine W.seq ?_
    refine W.seq ?_
    refine W.region ?_
    refine WL.c rfl (o_mvh (show _ = Value.int _ _ from rfl) ?_)
    refine WL.c rfl (o_lt rfl rfl ?_)
    refine WL.c rfl (o_mvh (show _ = Value.bool _ from rfl) ?_)
    refine WL.sp 2 rfl (fun g15 => ?_) (fun g15 => ?_)
    · skip
      refine WL.s rfl (g15) rfl ?_
      refine WL.s rfl (g15) rfl ?_
      refine WL.s rfl (g15) rfl ?_
      refine WL.s rfl (g15) rfl ?_
      refine WL.c rfl (o_pickT rfl (g15) ?_)
      refine WL.nil ?_
      refine W.cond rfl (fun c20 => ?_) (fun c20 => ?_)
      · try simp only [decide_eq_true_eq, decide_eq_false_iff_not, Bool.not_eq_true', Bool.not_eq_false', Bool.and_eq_true, Bool.or_eq_true, Bool.and_eq_false_iff, Bool.or_eq_false_iff] at c20
        refine W.seq ?_
        refine W.region ?_
        refine WL.c rfl (o_ash (show _ = Value.int _ _ from rfl) ?_)
        refine WL.nil ?_
        refine W.ret ?_
        refine ret1v rfl (show _ = Value.int _ _ from rfl) ?_
        exact ⟨congrArg (Value.int .i64) (by rw [thereV, if_neg (by simpa using c10), if_pos (by simp_all)]), hx⟩
      · try simp only [decide_eq_true_eq, decide_eq_false_iff_not, Bool.not_eq_true', Bool.not_eq_false', Bool.and_eq_true, Bool.or_eq_true, Bool.and_eq_false_iff, Bool.or_eq_false_iff] at c20
        refine W.skip ?_
        refine W.seq ?_
        refine W.region ?_
        refine WL.c rfl (o_ash (show _ = Value.int _ _ from rfl) ?_)
        refine WL.nil ?_
        refine W.ret ?_
        refine ret1v rfl (show _ = Value.int _ _ from rfl) ?_
        exact ⟨congrArg (Value.int .i64) (by rw [thereV, if_neg (by simpa using c10), if_neg (by simp_all <;> omega)]), hx⟩
    · skip
      refine WL.g rfl (g15) rfl (o_mvh (show _ = Value.int _ _ from rfl) ?_)
      refine WL.g rfl (g15) rfl (o_mvh (by first | exact (show _ = Value.slice _ _ _ from rfl) | exact rfl) ?_)
      refine WL.g rfl (g15) rfl (o_lenR TI30 rfl (hS.ext hx) ?_)
      refine WL.g rfl (g15) rfl (o_ge rfl rfl ?_)
      refine WL.c rfl (o_pickO rfl rfl ?_)
      refine WL.nil ?_
      refine W.cond rfl (fun c20 => ?_) (fun c20 => ?_)
      · try simp only [decide_eq_true_eq, decide_eq_false_iff_not, Bool.not_eq_true', Bool.not_eq_false', Bool.and_eq_true, Bool.or_eq_true, Bool.and_eq_false_iff, Bool.or_eq_false_iff] at c20
        refine W.seq ?_
        refine W.region ?_
        refine WL.c rfl (o_ash (show _ = Value.int _ _ from rfl) ?_)
        refine WL.nil ?_
        refine W.ret ?_
        refine ret1v rfl (show _ = Value.int _ _ from rfl) ?_
        exact ⟨congrArg (Value.int .i64) (by rw [thereV, if_neg (by simpa using c10), if_pos (by simp_all)]), hx⟩
      · try simp only [decide_eq_true_eq, decide_eq_false_iff_not, Bool.not_eq_true', Bool.not_eq_false', Bool.and_eq_true, Bool.or_eq_true, Bool.and_eq_false_iff, Bool.or_eq_false_iff] at c20
        refine W.skip ?_
        refine W.seq ?_
        refine W.region ?_
        refine WL.c rfl (o_ash (show _ = Value.int _ _ from rfl) ?_)
        refine WL.nil ?_
        refine W.ret ?_
        refine ret1v rfl (show _ = Value.int _ _ from rfl) ?_
        exact ⟨congrArg (Value.int .i64) (by rw [thereV, if_neg (by simpa using c10), if_neg (by simp_all <;> omega)]), hx⟩
set_option maxHeartbeats 1000000 in
theorem vNext_spec (L : List Nd) (v : Value) (at_ : Int) (w0 : World) (hS : Sl w0 3 v L.length (nds L)) (hl : L.length ≤ 5864062014805) : Ca Tryd.prog 31 #[v, .int .i64 at_] w0 (fun r w' => r = .tuple #[.int .i64 (if thereV L at_ = 0 then (nextV L at_.toNat : Int) else 0), .int .i64 (thereV L at_)] ∧ Ext w0 w') := by
  refine Ca.of Tryd.func31 Tryd.ntmps31 rfl rfl ?_
  refine W.seq ?_
  refine W.region ?_
  refine WL.c rfl (o_ash (show _ = Value.int _ _ from rfl) ?_)
  refine WL.c rfl (o_ash (show _ = Value.int _ _ from rfl) ?_)
  refine WL.nil ?_
  refine W.seq ?_
  refine W.seq ?_
  refine W.region ?_
  refine WL.c rfl (o_mvh (by first | exact (show _ = Value.slice _ _ _ from rfl) | exact rfl) ?_)
  refine WL.c rfl (o_mvh (show _ = Value.int _ _ from rfl) ?_)
  refine WL.c rfl (o_call Tryd.call51 (lc rfl (lc rfl ln)) ((vthere_spec L v at_ _ hS hl).mono ?_))
  rintro v9 w9 ⟨rfl, hx9⟩
  have hx := hx9
  refine WL.c rfl (o_ash (show _ = Value.int _ _ from rfl) ?_)
  refine WL.nil ?_
  refine W.seq ?_
  refine W.region ?_
  refine WL.c rfl (o_mvh (show _ = Value.int _ _ from rfl) ?_)
  refine WL.c rfl (o_ne rfl rfl ?_)
  refine WL.nil ?_
  refine W.cond rfl (fun c11 => ?_) (fun c11 => ?_)
  · try simp only [decide_eq_true_eq, decide_eq_false_iff_not, Bool.not_eq_true', Bool.not_eq_false', Bool.and_eq_true, Bool.or_eq_true, Bool.and_eq_false_iff, Bool.or_eq_false_iff] at c11
    have hth : ¬ thereV L at_ = 0 := by simpa using c11
    refine W.seq ?_
    refine W.region ?_
    refine WL.c rfl (o_mvh (show _ = Value.int _ _ from rfl) ?_)
    refine WL.c rfl (o_ash (show _ = Value.int _ _ from rfl) ?_)
    refine WL.c rfl (o_ash (show _ = Value.int _ _ from rfl) ?_)
    refine WL.nil ?_
    refine W.ret ?_
    refine ret2v rfl (show _ = Value.int _ _ from rfl) (show _ = Value.int _ _ from rfl) ?_
    exact ⟨by rw [if_neg hth], hx⟩
  · try simp only [decide_eq_true_eq, decide_eq_false_iff_not, Bool.not_eq_true', Bool.not_eq_false', Bool.and_eq_true, Bool.or_eq_true, Bool.and_eq_false_iff, Bool.or_eq_false_iff] at c11
    have hth : thereV L at_ = 0 := by simpa using c11
    obtain ⟨hck, ha0, ha1⟩ := there_ok hth
    obtain ⟨p, rfl⟩ : ∃ p : Nat, at_ = (p : Int) := ⟨at_.toNat, by omega⟩
    refine W.skip ?_
    refine W.seq ?_
    refine W.region ?_
    refine WL.c rfl (o_mvh (by first | exact (show _ = Value.slice _ _ _ from rfl) | exact rfl) ?_)
    refine WL.c rfl (o_mvh (show _ = Value.int _ _ from rfl) ?_)
    refine WL.c rfl (o_call Tryd.call52 (lc rfl (lc rfl ln)) ((vnext_spec L v p _ (hS.ext hx) hl hck (by omega)).mono ?_))
    rintro v15 w15 ⟨rfl, hx15⟩
    replace hx := hx.tr hx15
    refine WL.c rfl (o_ash (show _ = Value.int _ _ from rfl) ?_)
    refine WL.c rfl (o_ash (show _ = Value.int _ _ from rfl) ?_)
    refine WL.nil ?_
    refine W.ret ?_
    refine ret2v rfl (show _ = Value.int _ _ from rfl) (show _ = Value.int _ _ from rfl) ?_
    exact ⟨by rw [if_pos hth, hth]; rfl, hx⟩
end Go.Proofs.YtgmjfcekeglhjaaDoor

set_option linter.unusedSimpArgs false
set_option linter.unusedVariables false
set_option maxRecDepth 100000
namespace Go.Proofs.YtgmjfcekeglhjaaDoor
open Go Go.Vc Go.RowKit Go.Proofs

def kidP (L : List Nd) (p : Nat) : Nat → Nat
  | 0 => p
  | k + 1 => nextV L (kidP L p k)
def kidE (L : List Nd) (at_ k : Int) : Int := if ¬ thereV L at_ = 0 then thereV L at_ else if k < 0 ∨ (L.getD at_.toNat nd0).kids ≤ k then 3 else 0
theorem kid_drop {L post : List Nd} {p : Nat} : ∀ (k : Nat) (ks : Vts), ks.wf → L.drop p = ks.flat ++ post → k ≤ ks.len → ∃ g : Vts, g.len + k = ks.len ∧ g.wf ∧ L.drop (kidP L p k) = g.flat ++ post ∧ kidP L p k + g.flat.length = p + ks.flat.length
  | 0, ks, hw, h, _ => ⟨ks, rfl, hw, h, rfl⟩
  | k + 1, ks, hw, h, hk => by
    obtain ⟨g, h1, h2, h3, h4⟩ := kid_drop k ks hw h (by omega)
    cases g with
    | nil => simp only [Vts.len] at h1; omega
    | cons t g =>
      have h5 : nextV L (kidP L p k) = kidP L p k + t.flat.length := next_tree (post := g.flat ++ post) (by rw [h3, Vts.flat, List.append_assoc]) h2.1
      simp only [Vts.len] at h1
      refine ⟨g, by omega, h2.2, ?_, ?_⟩
      · show L.drop (nextV L (kidP L p k)) = _
        rw [h5, ← List.drop_drop, h3, Vts.flat, List.append_assoc, List.drop_left']
        rfl
      · show nextV L (kidP L p k) + _ = _
        rw [h5, ← h4]
        simp only [Vts.flat, List.length_append]; omega
/-- a node and its kids -/
theorem node_at {L : List Nd} (hc : (chkV L).1 = 0) {p : Nat} (hp : p < L.length) : ∃ (ks : Vts) (post : List Nd), rightN L[p] = true ∧ (ks.len : Int) = L[p].kids ∧ ks.wf ∧ L.drop (p + 1) = ks.flat ++ post ∧ nextV L p = p + 1 + ks.flat.length := by
  obtain ⟨s, post, h1, h2⟩ := sub_at hc hp
  have hn := next_tree h2 h1
  cases s with
  | node x ks =>
    have h3 : L.drop p = L[p] :: L.drop (p + 1) := (List.getElem_cons_drop hp).symm
    rw [h3, Vt.flat, List.cons_append, List.cons.injEq] at h2
    obtain ⟨h4, h5⟩ := h2
    rw [h4]
    obtain ⟨h6, h7, h8⟩ := h1
    exact ⟨ks, post, h6, h7, h8, h5, by rw [hn, Vt.flat, List.length_cons]; omega⟩
theorem kid_lt {L : List Nd} (hc : (chkV L).1 = 0) {p : Nat} (hp : p < L.length) {k : Nat} (hk : (k : Int) < L[p].kids) : kidP L (p + 1) k < L.length ∧ p < kidP L (p + 1) k := by
  obtain ⟨ks, post, h1, h2, h3, h4, h5⟩ := node_at hc hp
  obtain ⟨g, h6, h7, h8, h9⟩ := kid_drop k ks h3 h4 (by omega)
  have h10 := congrArg List.length h4
  rw [List.length_drop, List.length_append] at h10
  have h11 := Vts.len_le g
  have : p + 1 ≤ kidP L (p + 1) k := by
    clear h6 h7 h8 h9 h11 hk
    induction k with
    | zero => exact Nat.le_refl _
    | succ k ih => show _ ≤ nextV L _; unfold nextV; omega
  omega
theorem kid_end {L : List Nd} (hc : (chkV L).1 = 0) {p : Nat} (hp : p < L.length) {k : Nat} (hk : (k : Int) = L[p].kids) : kidP L (p + 1) k = nextV L p := by
  obtain ⟨ks, post, h1, h2, h3, h4, h5⟩ := node_at hc hp
  obtain ⟨g, h6, h7, h8, h9⟩ := kid_drop k ks h3 h4 (by omega)
  have : g = .nil := by cases g with | nil => rfl | cons t g => simp only [Vts.len] at h6; omega
  subst this
  simp only [Vts.flat, List.length_nil] at h9
  omega
theorem kid_mono {L : List Nd} {p a : Nat} : ∀ {b : Nat}, a ≤ b → kidP L p a ≤ kidP L p b := by
  intro b h
  induction b with
  | zero => rw [show a = 0 by omega]; exact Nat.le_refl _
  | succ b ih =>
    by_cases e : a = b + 1
    · rw [e]; exact Nat.le_refl _
    · refine Nat.le_trans (ih (by omega)) ?_
      show _ ≤ nextV L _
      unfold nextV; omega
/-- which kids lead from a node to a place -/
inductive Way (L : List Nd) (at_ : Nat) : Nat → List Nat → Prop where
  | done : Way L at_ at_ []
  | step {i k : Nat} {ks : List Nat} : i < at_ → kidP L (i + 1) k ≤ at_ → at_ < kidP L (i + 1) (k + 1) → Way L at_ (kidP L (i + 1) k) ks → Way L at_ i (k :: ks)
theorem Way.uniq {L : List Nd} {at_ : Nat} : ∀ {i : Nat} {a b : List Nat}, Way L at_ i a → Way L at_ i b → a = b
  | _, _, _, .done, .done => rfl
  | _, _, _, .done, .step h _ _ _ => by omega
  | _, _, _, .step h _ _ _, .done => by omega
  | p, _, _, .step (k := k) h1 h2 h3 h4, .step (k := m) g1 g2 g3 g4 => by
    have e : k = m := by
      rcases Nat.lt_trichotomy k m with h | h | h
      · have := kid_mono (L := L) (p := p + 1) (show k + 1 ≤ m from h); omega
      · exact h
      · have := kid_mono (L := L) (p := p + 1) (show m + 1 ≤ k from h); omega
    subst e
    rw [Way.uniq h4 g4]
theorem nd_ext {x y : Nd} (h1 : x.kind = y.kind) (h2 : x.n = y.n) (h3 : x.kids = y.kids) : x = y := by cases x; cases y; simp_all
def ints (l : List Nat) : List Value := l.map fun n : Nat => Value.int .i64 (n : Int)
theorem ints_snoc (l : List Nat) (n : Nat) : ints (l ++ [n]) = ints l ++ [.int .i64 (n : Int)] := by simp [ints]
set_option maxHeartbeats 2000000 in
theorem vKid_spec (L : List Nd) (v : Value) (at_ k : Int) (w0 : World) (hS : Sl w0 3 v L.length (nds L)) (hl : L.length ≤ 5864062014805) : Ca Tryd.prog 30 #[v, .int .i64 at_, .int .i64 k] w0 (fun r w' => r = .tuple #[.int .i64 (if kidE L at_ k = 0 then (kidP L (at_.toNat + 1) k.toNat : Int) else 0), .int .i64 (kidE L at_ k)] ∧ Ext w0 w') := by
  refine Ca.of Tryd.func30 Tryd.ntmps30 rfl rfl ?_
  refine W.seq ?_
  refine W.region ?_
  refine WL.c rfl (o_ash (show _ = Value.int _ _ from rfl) ?_)
  refine WL.c rfl (o_ash (show _ = Value.int _ _ from rfl) ?_)
  refine WL.nil ?_
  refine W.seq ?_
  refine W.seq ?_
  refine W.region ?_
  refine WL.c rfl (o_mvh (by first | exact (show _ = Value.slice _ _ _ from rfl) | exact rfl) ?_)
  refine WL.c rfl (o_mvh (show _ = Value.int _ _ from rfl) ?_)
  refine WL.c rfl (o_call Tryd.call51 (lc rfl (lc rfl ln)) ((vthere_spec L v at_ _ hS hl).mono ?_))
  rintro v11 w11 ⟨rfl, hx11⟩
  have hx := hx11
  refine WL.c rfl (o_ash (show _ = Value.int _ _ from rfl) ?_)
  refine WL.nil ?_
  refine W.seq ?_
  refine W.region ?_
  refine WL.c rfl (o_mvh (show _ = Value.int _ _ from rfl) ?_)
  refine WL.c rfl (o_ne rfl rfl ?_)
  refine WL.nil ?_
  refine W.cond rfl (fun c13 => ?_) (fun c13 => ?_)
  · try simp only [decide_eq_true_eq, decide_eq_false_iff_not, Bool.not_eq_true', Bool.not_eq_false', Bool.and_eq_true, Bool.or_eq_true, Bool.and_eq_false_iff, Bool.or_eq_false_iff] at c13
    have hth : ¬ thereV L at_ = 0 := by simpa using c13
    have hE : kidE L at_ k = thereV L at_ := if_pos hth
    refine W.seq ?_
    refine W.region ?_
    refine WL.c rfl (o_mvh (show _ = Value.int _ _ from rfl) ?_)
    refine WL.c rfl (o_ash (show _ = Value.int _ _ from rfl) ?_)
    refine WL.c rfl (o_ash (show _ = Value.int _ _ from rfl) ?_)
    refine WL.nil ?_
    refine W.ret ?_
    refine ret2v rfl (show _ = Value.int _ _ from rfl) (show _ = Value.int _ _ from rfl) ?_
    exact ⟨by rw [hE, if_neg hth], hx⟩
  · try simp only [decide_eq_true_eq, decide_eq_false_iff_not, Bool.not_eq_true', Bool.not_eq_false', Bool.and_eq_true, Bool.or_eq_true, Bool.and_eq_false_iff, Bool.or_eq_false_iff] at c13
    have hth : thereV L at_ = 0 := by simpa using c13
    obtain ⟨hck, ha0, ha1⟩ := there_ok hth
    obtain ⟨p, rfl⟩ : ∃ p : Nat, at_ = (p : Int) := ⟨at_.toNat, by omega⟩
    have hp : p < L.length := by omega
    obtain ⟨ub, uo, uc, hv, huc⟩ := Sl.nd (hS.ext hx) hp
    have hE : kidE L p k = if k < 0 ∨ L[p].kids ≤ k then 3 else 0 := by rw [kidE, if_neg (fun h => h hth), Int.toNat_natCast, List.getD_eq_getElem?_getD, List.getElem?_eq_getElem hp]; rfl
    refine W.skip ?_
    refine W.seq ?_
    refine W.seq ?_
    by_cases hk0 : k < 0
    · skip
      skip
      refine W.region ?_
      refine WL.c rfl (o_mvh (show _ = Value.int _ _ from rfl) ?_)
      refine WL.c rfl (o_lt rfl rfl ?_)
      refine WL.c rfl (o_mvh (show _ = Value.bool _ from rfl) ?_)
      refine WL.s rfl (by simpa using hk0) rfl ?_
      refine WL.s rfl (by simpa using hk0) rfl ?_
      refine WL.s rfl (by simpa using hk0) rfl ?_
      refine WL.s rfl (by simpa using hk0) rfl ?_
      refine WL.s rfl (by simpa using hk0) rfl ?_
      refine WL.s rfl (by simpa using hk0) rfl ?_
      refine WL.s rfl (by simpa using hk0) rfl ?_
      refine WL.c rfl (o_pickT rfl (by simpa using hk0) ?_)
      refine WL.nil ?_
      refine W.condT' rfl (rfl) ?_
      refine W.seq ?_
      refine W.region ?_
      refine WL.c rfl (o_ash (show _ = Value.int _ _ from rfl) ?_)
      refine WL.c rfl (o_ash (show _ = Value.int _ _ from rfl) ?_)
      refine WL.nil ?_
      refine W.ret ?_
      refine ret2v rfl (show _ = Value.int _ _ from rfl) (show _ = Value.int _ _ from rfl) ?_
      exact ⟨by rw [hE, if_pos (show k < 0 ∨ L[p].kids ≤ k from .inl hk0)]; rfl, hx⟩
    · skip
      skip
      refine W.region ?_
      refine WL.c rfl (o_mvh (show _ = Value.int _ _ from rfl) ?_)
      refine WL.c rfl (o_lt rfl rfl ?_)
      refine WL.c rfl (o_mvh (show _ = Value.bool _ from rfl) ?_)
      refine WL.g rfl (by simpa using hk0) rfl (o_mvh (show _ = Value.int _ _ from rfl) ?_)
      refine WL.g rfl (by simpa using hk0) rfl (o_mvh (by first | exact (show _ = Value.slice _ _ _ from rfl) | exact rfl) ?_)
      refine WL.g rfl (by simpa using hk0) rfl (o_mvh (show _ = Value.int _ _ from rfl) ?_)
      refine WL.g rfl (by simpa using hk0) rfl (o_ixB (i := p) TI30 TI69 (show _ = Value.slice (some ⟨ub, uo, none⟩) L.length uc from hv) (show _ = Value.int .i64 (p : Int) from rfl) (by omega) ?_)
      refine WL.g rfl (by simpa using hk0) rfl (o_fa 2 TI69 rfl TI3 rfl rfl ?_)
      refine WL.g rfl (by simpa using hk0) rfl (o_ld TI3 rfl rfl (huc 2 _ rfl) ?_)
      refine WL.g rfl (by simpa using hk0) rfl (o_ge rfl rfl ?_)
      refine WL.c rfl (o_pickO rfl rfl ?_)
      refine WL.nil ?_
      refine W.cond rfl (fun c25 => ?_) (fun c25 => ?_)
      · try simp only [decide_eq_true_eq, decide_eq_false_iff_not, Bool.not_eq_true', Bool.not_eq_false', Bool.and_eq_true, Bool.or_eq_true, Bool.and_eq_false_iff, Bool.or_eq_false_iff] at c25
        have hb : k < 0 ∨ L[p].kids ≤ k := by omega
        refine W.seq ?_
        refine W.region ?_
        refine WL.c rfl (o_ash (show _ = Value.int _ _ from rfl) ?_)
        refine WL.c rfl (o_ash (show _ = Value.int _ _ from rfl) ?_)
        refine WL.nil ?_
        refine W.ret ?_
        refine ret2v rfl (show _ = Value.int _ _ from rfl) (show _ = Value.int _ _ from rfl) ?_
        exact ⟨by rw [hE, if_pos hb]; rfl, hx⟩
      · try simp only [decide_eq_true_eq, decide_eq_false_iff_not, Bool.not_eq_true', Bool.not_eq_false', Bool.and_eq_true, Bool.or_eq_true, Bool.and_eq_false_iff, Bool.or_eq_false_iff] at c25
        have hb : ¬ (k < 0 ∨ L[p].kids ≤ k) := by omega
        obtain ⟨m, rfl⟩ : ∃ m : Nat, k = (m : Int) := ⟨k.toNat, by omega⟩
        rw [if_neg hb] at hE
        refine W.skip ?_
        refine W.seq ?_
        refine W.region ?_
        refine WL.c rfl (o_mvh (show _ = Value.int _ _ from rfl) ?_)
        refine WL.c rfl (o_addi rfl rfl (by omega) ?_)
        refine WL.c rfl (o_ash (show _ = Value.int _ _ from rfl) ?_)
        refine WL.nil ?_
        refine W.seq ?_
        refine W.seq ?_
        refine W.region ?_
        refine WL.c rfl (o_mvh (show _ = Value.int _ _ from rfl) ?_)
        refine WL.c rfl (o_mvh (show _ = Value.int _ _ from rfl) ?_)
        refine WL.nil ?_
        refine W.block ?_
        refine W.loop (fun e w => ∃ j : Nat, j ≤ m ∧ e 0 = v ∧ e 1 = .int .i64 (kidP L (p + 1) j : Int) ∧ e 28 = .int .i64 (m : Int) ∧ e 29 = .int .i64 (j : Int) ∧ Ext w0 w) (fun e w => m - (intOf (e 29)).toNat) ?_ ?_
        · exact ⟨0, Nat.zero_le _, rfl, rfl, rfl, rfl, hx⟩
        rintro e w ⟨j, hj, h0, h1, h28, h29, hx⟩
        have hm29 := h29
        refine W.seq ?_
        refine W.region ?_
        refine WL.c rfl (o_lt h29 h28 ?_)
        refine WL.nil ?_
        refine W.seq ?_
        refine W.cond rfl (fun c30 => ?_) (fun c30 => ?_)
        · try simp only [decide_eq_true_eq, decide_eq_false_iff_not, Bool.not_eq_true', Bool.not_eq_false', Bool.and_eq_true, Bool.or_eq_true, Bool.and_eq_false_iff, Bool.or_eq_false_iff] at c30
          have hj1 : j < m := by omega
          have hmx := (right_kids (node_at hck hp).choose_spec.choose_spec.1).2
          obtain ⟨hk1, hk2⟩ := kid_lt hck hp (k := j) (by omega)
          refine W.skip ?_
          refine W.seq ?_
          refine W.block ?_
          refine W.region ?_
          refine WL.c rfl (o_mvh h0 ?_)
          refine WL.c rfl (o_mvh h1 ?_)
          refine WL.c rfl (o_call Tryd.call52 (lc rfl (lc rfl ln)) ((vnext_spec L v (kidP L (p + 1) j) _ (hS.ext hx) hl hck hk1).mono ?_))
          rintro v33 w33 ⟨rfl, hx33⟩
          replace hx := hx.tr hx33
          refine WL.c rfl (o_ash (show _ = Value.int _ _ from rfl) ?_)
          refine WL.nil ?_
          refine W.region ?_
          refine WL.c rfl (o_addi h29 rfl (by omega) ?_)
          refine WL.c rfl (o_mvh (show _ = Value.int _ _ from rfl) ?_)
          refine WL.nil ?_
          refine ⟨⟨j + 1, by omega, h0, rfl, h28, rfl, hx⟩, ?_⟩
          show m - ((j : Int) + 1).toNat < _
          rw [hm29]; simp [intOf]; omega
        · try simp only [decide_eq_true_eq, decide_eq_false_iff_not, Bool.not_eq_true', Bool.not_eq_false', Bool.and_eq_true, Bool.or_eq_true, Bool.and_eq_false_iff, Bool.or_eq_false_iff] at c30
          have hj1 : j = m := by omega
          subst hj1
          refine W.exit ?_
          refine W.seq ?_
          refine W.region ?_
          refine WL.c rfl (o_mvh h1 ?_)
          refine WL.c rfl (o_ash (show _ = Value.int _ _ from rfl) ?_)
          refine WL.c rfl (o_ash (show _ = Value.int _ _ from rfl) ?_)
          refine WL.nil ?_
          refine W.ret ?_
          refine ret2v rfl (show _ = Value.int _ _ from rfl) (show _ = Value.int _ _ from rfl) ?_
          exact ⟨by rw [hE, if_pos rfl]; rfl, hx⟩
set_option maxHeartbeats 4000000 in
theorem vPath_spec (L : List Nd) (v : Value) (at_ : Int) (w0 : World) (hS : Sl w0 3 v L.length (nds L)) (hl : L.length ≤ 5864062014805) : Ca Tryd.prog 29 #[v, .int .i64 at_] w0 (fun r w' => ∃ (pv : Value) (ps : List Nat), r = .tuple #[pv, .int .i64 (thereV L at_)] ∧ w'.ownsRow w0.heap.size 3 1 pv ps.length (ints ps) ∧ (thereV L at_ = 0 → Way L at_.toNat 0 ps) ∧ (¬ thereV L at_ = 0 → ps = []) ∧ ps.length ≤ L.length ∧ Ext w0 w') := by
  refine Ca.of Tryd.func29 Tryd.ntmps29 rfl rfl ?_
  refine W.seq ?_
  refine W.region ?_
  refine WL.c rfl (o_ash (by first | exact (show _ = Value.slice _ _ _ from rfl) | exact rfl) ?_)
  refine WL.c rfl (o_ash (show _ = Value.int _ _ from rfl) ?_)
  refine WL.nil ?_
  refine W.seq ?_
  refine W.seq ?_
  refine W.region ?_
  refine WL.c rfl (o_mvh (by first | exact (show _ = Value.slice _ _ _ from rfl) | exact rfl) ?_)
  refine WL.c rfl (o_mvh (show _ = Value.int _ _ from rfl) ?_)
  refine WL.c rfl (o_call Tryd.call51 (lc rfl (lc rfl ln)) ((vthere_spec L v at_ _ hS hl).mono ?_))
  rintro v14 w14 ⟨rfl, hx14⟩
  have hx := hx14
  refine WL.c rfl (o_ash (show _ = Value.int _ _ from rfl) ?_)
  refine WL.nil ?_
  refine W.seq ?_
  refine W.region ?_
  refine WL.c rfl (o_mvh (show _ = Value.int _ _ from rfl) ?_)
  refine WL.c rfl (o_ne rfl rfl ?_)
  refine WL.nil ?_
  refine W.cond rfl (fun c16 => ?_) (fun c16 => ?_)
  · try simp only [decide_eq_true_eq, decide_eq_false_iff_not, Bool.not_eq_true', Bool.not_eq_false', Bool.and_eq_true, Bool.or_eq_true, Bool.and_eq_false_iff, Bool.or_eq_false_iff] at c16
    have hth : ¬ thereV L at_ = 0 := by simpa using c16
    refine W.seq ?_
    refine W.region ?_
    refine WL.c rfl (o_mvh (show _ = Value.int _ _ from rfl) ?_)
    refine WL.c rfl (o_ash (by first | exact (show _ = Value.slice _ _ _ from rfl) | exact rfl) ?_)
    refine WL.c rfl (o_ash (show _ = Value.int _ _ from rfl) ?_)
    refine WL.nil ?_
    refine W.ret ?_
    refine ret2v rfl rfl (show _ = Value.int _ _ from rfl) ?_
    exact ⟨.slice none 0 0, [], rfl, World.ownsRow_nil _ _ _ _, fun h => absurd h hth, fun _ => rfl, Nat.zero_le _, hx⟩
  · try simp only [decide_eq_true_eq, decide_eq_false_iff_not, Bool.not_eq_true', Bool.not_eq_false', Bool.and_eq_true, Bool.or_eq_true, Bool.and_eq_false_iff, Bool.or_eq_false_iff] at c16
    have hth : thereV L at_ = 0 := by simpa using c16
    obtain ⟨hck, ha0, ha1⟩ := there_ok hth
    obtain ⟨p, rfl⟩ : ∃ p : Nat, at_ = (p : Int) := ⟨at_.toNat, by omega⟩
    have hp : p < L.length := by omega
    refine W.skip ?_
    refine W.seq ?_
    refine W.region ?_
    refine WL.c rfl (o_ash (by first | exact (show _ = Value.slice _ _ _ from rfl) | exact rfl) ?_)
    refine WL.nil ?_
    refine W.seq ?_
    refine W.seq ?_
    refine W.region ?_
    refine WL.c rfl (o_ash (show _ = Value.int _ _ from rfl) ?_)
    refine WL.nil ?_
    refine W.block ?_
    refine W.loop (fun e w => ∃ (i : Nat) (ps : List Nat) (pv : Value), i ≤ p ∧ e 0 = v ∧ e 1 = .int .i64 (p : Int) ∧ e 7 = pv ∧ e 8 = .int .i64 (i : Int) ∧ w.ownsRow w0.heap.size 3 1 pv ps.length (ints ps) ∧ ps.length ≤ i ∧ (∀ qs, Way L p i qs → Way L p 0 (ps ++ qs)) ∧ Ext w0 w) (fun e w => p - (intOf (e 8)).toNat) ?_ ?_
    · exact ⟨0, [], .slice none 0 0, Nat.zero_le _, rfl, rfl, rfl, rfl, World.ownsRow_nil _ _ _ _, Nat.zero_le _, fun qs h => h, hx⟩
    rintro e w ⟨i, ps, pv, hi, h0, h1, h7, h8, hown, hpl, hway, hx⟩
    have hm8 := h8
    refine W.seq ?_
    refine W.seq ?_
    refine W.region ?_
    refine WL.c rfl (o_mvh h8 ?_)
    refine WL.c rfl (o_mvh h1 ?_)
    refine WL.c rfl (o_lt rfl rfl ?_)
    refine WL.nil ?_
    refine W.cond rfl (fun c20 => ?_) (fun c20 => ?_)
    · try simp only [decide_eq_true_eq, decide_eq_false_iff_not, Bool.not_eq_true', Bool.not_eq_false', Bool.and_eq_true, Bool.or_eq_true, Bool.and_eq_false_iff, Bool.or_eq_false_iff] at c20
      have hi1 : i < p := by omega
      refine W.skip ?_
      refine W.block ?_
      refine W.seq ?_
      refine W.region ?_
      refine WL.c rfl (o_mvh h8 ?_)
      refine WL.c rfl (o_addi rfl rfl (by omega) ?_)
      refine WL.c rfl (o_mvh h0 ?_)
      refine WL.c rfl (o_mvh h8 ?_)
      refine WL.c rfl (o_addi rfl rfl (by omega) ?_)
      refine WL.c rfl (o_call Tryd.call52 (lc rfl (lc rfl ln)) ((vnext_spec L v (i + 1) _ (hS.ext hx) hl hck (by omega)).mono ?_))
      rintro v26 w26 ⟨rfl, hx26⟩
      replace hx := hx.tr hx26
      replace hown := own_ext hown hx26
      refine WL.c rfl (o_ash (show _ = Value.int _ _ from rfl) ?_)
      refine WL.c rfl (o_ash (show _ = Value.int _ _ from rfl) ?_)
      refine WL.c rfl (o_ash (show _ = Value.int _ _ from rfl) ?_)
      refine WL.nil ?_
      refine W.seq ?_
      refine W.block ?_
      refine W.loop (fun e w => ∃ k : Nat, e 0 = v ∧ e 1 = .int .i64 (p : Int) ∧ e 7 = pv ∧ e 9 = .int .i64 (kidP L (i + 1) k : Int) ∧ e 10 = .int .i64 (kidP L (i + 1) (k + 1) : Int) ∧ e 11 = .int .i64 (k : Int) ∧ kidP L (i + 1) k ≤ p ∧ i + 1 + k ≤ kidP L (i + 1) k ∧ w.ownsRow w0.heap.size 3 1 pv ps.length (ints ps) ∧ Ext w0 w) (fun e w => p - (intOf (e 9)).toNat) ?_ ?_
      · exact ⟨0, h0, h1, h7, rfl, rfl, rfl, by show i + 1 ≤ p; omega, Nat.le_refl _, hown, hx⟩
      rintro e w ⟨k, h0, h1, h7, h9, h10, h11, hk2, hkk, hown, hx⟩
      have hm9 := h9
      refine W.seq ?_
      refine W.seq ?_
      refine W.region ?_
      refine WL.c rfl (o_mvh h1 ?_)
      refine WL.c rfl (o_mvh h10 ?_)
      refine WL.c rfl (o_ge rfl rfl ?_)
      refine WL.nil ?_
      refine W.cond rfl (fun c29 => ?_) (fun c29 => ?_)
      · try simp only [decide_eq_true_eq, decide_eq_false_iff_not, Bool.not_eq_true', Bool.not_eq_false', Bool.and_eq_true, Bool.or_eq_true, Bool.and_eq_false_iff, Bool.or_eq_false_iff] at c29
        have hk3 : kidP L (i + 1) (k + 1) ≤ p := by omega
        have hk4 : kidP L (i + 1) k < kidP L (i + 1) (k + 1) := (next_lt hck (by omega)).1
        refine W.skip ?_
        refine W.block ?_
        refine W.seq ?_
        refine W.region ?_
        refine WL.c rfl (o_mvh h10 ?_)
        refine WL.c rfl (o_mvh h11 ?_)
        refine WL.c rfl (o_addi rfl rfl (by omega) ?_)
        refine WL.c rfl (o_ash (show _ = Value.int _ _ from rfl) ?_)
        refine WL.c rfl (o_ash (show _ = Value.int _ _ from rfl) ?_)
        refine WL.nil ?_
        refine W.region ?_
        refine WL.c rfl (o_mvh h0 ?_)
        refine WL.c rfl (o_mvh (show _ = Value.int _ _ from rfl) ?_)
        refine WL.c rfl (o_call Tryd.call52 (lc rfl (lc rfl ln)) ((vnext_spec L v (kidP L (i + 1) (k + 1)) _ (hS.ext hx) hl hck (by omega)).mono ?_))
        rintro v35 w35 ⟨rfl, hx35⟩
        replace hx := hx.tr hx35
        replace hown := own_ext hown hx35
        refine WL.c rfl (o_ash (show _ = Value.int _ _ from rfl) ?_)
        refine WL.nil ?_
        refine ⟨⟨k + 1, h0, h1, h7, rfl, rfl, rfl, hk3, by omega, hown, hx⟩, ?_⟩
        show p - (intOf (.int .i64 (kidP L (i + 1) (k + 1) : Int))).toNat < _
        rw [hm9]; simp only [intOf, Int.toNat_natCast]; omega
      · try simp only [decide_eq_true_eq, decide_eq_false_iff_not, Bool.not_eq_true', Bool.not_eq_false', Bool.and_eq_true, Bool.or_eq_true, Bool.and_eq_false_iff, Bool.or_eq_false_iff] at c29
        have hk3 : p < kidP L (i + 1) (k + 1) := by omega
        refine W.exit ?_
        refine W.seq ?_
        refine W.region ?_
        refine WL.c rfl (o_mvh h7 ?_)
        refine WL.c rfl (o_mvh h11 ?_)
        refine WL.ap1 (w0.heap.size) rfl rfl TI75 TI3 (show _ = Value.int _ _ from rfl) rfl hown (by decide) (by decide) rfl (fun a ha => by simp [Value.cells] at ha; rw [ha]; rfl) rfl (by rw [maxLen_eq]; omega) (by omega) hx.size ?_
        intro v39 w1 hown1 ho1
        have hrl : ∀ b, pv.ownBlock = some b → w0.heap.size ≤ b := fun b hb => (hown.lt b hb).1
        replace hx := hx.trans' ho1 (fun _ h => h) (fun b hb he => by have := hrl b he; omega)
        replace hown := hown1
        refine WL.c rfl (o_ash (by first | exact (show _ = Value.slice _ _ _ from rfl) | exact rfl) ?_)
        refine WL.nil ?_
        refine W.region ?_
        refine WL.c rfl (o_mvh h9 ?_)
        refine WL.c rfl (o_ash (show _ = Value.int _ _ from rfl) ?_)
        refine WL.nil ?_
        refine ⟨⟨kidP L (i + 1) k, ps ++ [k], v39, hk2, h0, h1, rfl, rfl, ?_, ?_, ?_, hx⟩, ?_⟩
        · rw [List.length_append, List.length_singleton, ints_snoc]; exact hown
        · rw [List.length_append, List.length_singleton]; omega
        · intro qs hq
          rw [List.append_assoc]
          exact hway _ (.step hi1 hk2 hk3 hq)
        · show p - (intOf (.int .i64 (kidP L (i + 1) k : Int))).toNat < _
          rw [hm8]; simp only [intOf, Int.toNat_natCast]; omega
    · try simp only [decide_eq_true_eq, decide_eq_false_iff_not, Bool.not_eq_true', Bool.not_eq_false', Bool.and_eq_true, Bool.or_eq_true, Bool.and_eq_false_iff, Bool.or_eq_false_iff] at c20
      have hi1 : i = p := by omega
      subst hi1
      refine W.exit ?_
      refine W.seq ?_
      refine W.region ?_
      refine WL.c rfl (o_mvh h7 ?_)
      refine WL.c rfl (o_ash (by first | exact (show _ = Value.slice _ _ _ from rfl) | exact rfl) ?_)
      refine WL.c rfl (o_ash (show _ = Value.int _ _ from rfl) ?_)
      refine WL.nil ?_
      refine W.ret ?_
      refine ret2v rfl rfl (show _ = Value.int _ _ from rfl) ?_
      exact ⟨pv, ps, by rw [hth]; rfl, hown, fun _ => by have := hway [] .done; simpa using this, fun h => absurd hth h, by omega, hx⟩
set_option maxHeartbeats 2000000 in
theorem veq_spec (L M : List Nd) (v u : Value) (w0 : World) (hS : Sl w0 3 v L.length (nds L)) (hT : Sl w0 3 u M.length (nds M)) (hl : L.length ≤ 5864062014805) : Ca Tryd.prog 49 #[v, u] w0 (fun r w' => r = .bool (decide (L = M)) ∧ Ext w0 w') := by
  have hx : Ext w0 w0 := Only.refl _ _
  refine Ca.of Tryd.func49 Tryd.ntmps49 rfl rfl ?_
  refine W.seq ?_
  refine W.region ?_
  refine WL.c rfl (o_ash (show _ = Value.bool _ from rfl) ?_)
  refine WL.nil ?_
  refine W.seq ?_
  refine W.seq ?_
  refine W.region ?_
  refine WL.c rfl (o_mvh (by first | exact (show _ = Value.slice _ _ _ from rfl) | exact rfl) ?_)
  refine WL.c rfl (o_lenR TI30 rfl hS ?_)
  refine WL.c rfl (o_mvh (by first | exact (show _ = Value.slice _ _ _ from rfl) | exact rfl) ?_)
  refine WL.c rfl (o_lenR TI30 rfl hT ?_)
  refine WL.c rfl (o_ne rfl rfl ?_)
  refine WL.nil ?_
  refine W.cond rfl (fun c10 => ?_) (fun c10 => ?_)
  · try simp only [decide_eq_true_eq, decide_eq_false_iff_not, Bool.not_eq_true', Bool.not_eq_false', Bool.and_eq_true, Bool.or_eq_true, Bool.and_eq_false_iff, Bool.or_eq_false_iff] at c10
    have hn : ¬ L.length = M.length := by omega
    refine W.seq ?_
    refine W.region ?_
    refine WL.c rfl (o_ash (show _ = Value.bool _ from rfl) ?_)
    refine WL.nil ?_
    refine W.ret ?_
    refine ret1v rfl (show _ = Value.bool _ from rfl) ?_
    exact ⟨congrArg Value.bool (decide_eq_false (fun h => hn (by rw [h]))).symm, hx⟩
  · try simp only [decide_eq_true_eq, decide_eq_false_iff_not, Bool.not_eq_true', Bool.not_eq_false', Bool.and_eq_true, Bool.or_eq_true, Bool.and_eq_false_iff, Bool.or_eq_false_iff] at c10
    have hn : L.length = M.length := by omega
    refine W.skip ?_
    refine W.seq ?_
    refine W.seq ?_
    refine W.region ?_
    refine WL.c rfl (o_mvh (by first | exact (show _ = Value.slice _ _ _ from rfl) | exact rfl) ?_)
    refine WL.c rfl (o_lenR TI30 rfl (hS.ext hx) ?_)
    refine WL.c rfl (o_mvh (show _ = Value.int _ _ from rfl) ?_)
    refine WL.nil ?_
    refine W.block ?_
    refine W.loop (fun e w => ∃ i : Nat, i ≤ L.length ∧ e 0 = v ∧ e 1 = u ∧ e 12 = .int .i64 (L.length : Int) ∧ e 13 = .int .i64 (i : Int) ∧ L.take i = M.take i ∧ Ext w0 w) (fun e w => L.length - (intOf (e 13)).toNat) ?_ ?_
    · exact ⟨0, Nat.zero_le _, rfl, rfl, rfl, rfl, rfl, hx⟩
    rintro e w ⟨i, hi, h0, h1, h12, h13, htk, hx⟩
    have hm13 := h13
    refine W.seq ?_
    refine W.region ?_
    refine WL.c rfl (o_lt h13 h12 ?_)
    refine WL.nil ?_
    refine W.seq ?_
    refine W.cond rfl (fun c14 => ?_) (fun c14 => ?_)
    · try simp only [decide_eq_true_eq, decide_eq_false_iff_not, Bool.not_eq_true', Bool.not_eq_false', Bool.and_eq_true, Bool.or_eq_true, Bool.and_eq_false_iff, Bool.or_eq_false_iff] at c14
      have hi1 : i < L.length := by omega
      have hi2 : i < M.length := by omega
      obtain ⟨ub, uo, uc, hv, huc⟩ := Sl.nd (hS.ext hx) hi1
      obtain ⟨vb, vo, vc, hu, hvc⟩ := Sl.nd (hT.ext hx) hi2
      rw [hv] at h0
      rw [hu] at h1
      refine W.skip ?_
      refine W.seq ?_
      refine W.block ?_
      refine W.seq ?_
      refine W.region ?_
      refine WL.c rfl (o_mvh h13 ?_)
      refine WL.c rfl (o_ash (show _ = Value.int _ _ from rfl) ?_)
      refine WL.nil ?_
      refine W.seq ?_
      refine W.quiet rfl (by kernel_rfl) ?_
      refine WQ.c rfl ((QO.o rfl fun _ => o_mvh h0 ⟨rfl, rfl⟩)) ?_
      refine WQ.c rfl ((QO.o rfl fun _ => o_mvh (show _ = Value.int _ _ from rfl) ⟨rfl, rfl⟩)) ?_
      refine WQ.c rfl ((QO.o rfl fun _ => o_ixB (i := i) TI30 TI69 (show _ = Value.slice (some ⟨ub, uo, none⟩) L.length uc from by first | rfl | assumption) (show _ = Value.int .i64 (i : Int) from by first | rfl | assumption) (by omega) ⟨rfl, rfl⟩)) ?_
      refine WQ.c rfl ((QO.o rfl fun _ => o_ldA TI69 rfl rfl (Cells.only (F := No) huc (Only.drewN _ _) (fun h => h)) rfl ⟨rfl, rfl⟩)) ?_
      refine WQ.c rfl ((QO.o rfl fun _ => o_mvh h1 ⟨rfl, rfl⟩)) ?_
      refine WQ.c rfl ((QO.o rfl fun _ => o_mvh (show _ = Value.int _ _ from rfl) ⟨rfl, rfl⟩)) ?_
      refine WQ.c rfl ((QO.o rfl fun _ => o_ixB (i := i) TI30 TI69 (show _ = Value.slice (some ⟨vb, vo, none⟩) M.length vc from by first | rfl | assumption) (show _ = Value.int .i64 (i : Int) from by first | rfl | assumption) (by omega) ⟨rfl, rfl⟩)) ?_
      refine WQ.c rfl ((QO.o rfl fun _ => o_ldA TI69 rfl rfl (Cells.only (F := No) hvc (Only.drewN _ _) (fun h => h)) rfl ⟨rfl, rfl⟩)) ?_
      refine WQ.c rfl ((QO.o rfl fun _ => o_neR TI69 (by kernel_rfl) (by kernel_rfl) rfl rfl (.int TI3 (by decide) rfl rfl (.int TI43 (by decide) rfl rfl (.int TI3 (by decide) rfl rfl .nil))) ⟨rfl, rfl⟩)) ?_
      refine WQ.nil ?_
      intro nq
      refine W.cond rfl (fun c24 => ?_) (fun c24 => ?_)
      · try simp only [decide_eq_true_eq, decide_eq_false_iff_not, Bool.not_eq_true', Bool.not_eq_false', Bool.and_eq_true, Bool.or_eq_true, Bool.and_eq_false_iff, Bool.or_eq_false_iff] at c24
        have hne : ¬ L[i] = M[i] := fun h => by rw [h] at c24; simp at c24
        refine W.seq ?_
        refine W.region ?_
        refine WL.c rfl (o_ash (show _ = Value.bool _ from rfl) ?_)
        refine WL.nil ?_
        refine W.ret ?_
        refine ret1v rfl (show _ = Value.bool _ from rfl) ?_
        exact ⟨congrArg Value.bool (decide_eq_false (fun h => hne (by subst h; rfl))).symm, hx.tr (Only.drewN _ _)⟩
      · try simp only [decide_eq_true_eq, decide_eq_false_iff_not, Bool.not_eq_true', Bool.not_eq_false', Bool.and_eq_true, Bool.or_eq_true, Bool.and_eq_false_iff, Bool.or_eq_false_iff] at c24
        have hxy : L[i] = M[i] := nd_ext c24.1 (by omega) c24.2.2.1
        refine W.skip ?_
        refine W.region ?_
        refine WL.c rfl (o_addi h13 rfl (by omega) ?_)
        refine WL.c rfl (o_mvh (show _ = Value.int _ _ from rfl) ?_)
        refine WL.nil ?_
        have hxd := Only.drewN w nq
        refine ⟨⟨i + 1, by omega, h0.trans hv.symm, h1.trans hu.symm, h12, rfl, ?_, hx.tr hxd⟩, ?_⟩
        · rw [List.take_succ_eq_append_getElem hi1, List.take_succ_eq_append_getElem hi2, htk, hxy]
        · show L.length - ((i : Int) + 1).toNat < _
          rw [hm13]; simp [intOf]; omega
    · try simp only [decide_eq_true_eq, decide_eq_false_iff_not, Bool.not_eq_true', Bool.not_eq_false', Bool.and_eq_true, Bool.or_eq_true, Bool.and_eq_false_iff, Bool.or_eq_false_iff] at c14
      have hi1 : i = L.length := by omega
      refine W.exit ?_
      refine W.seq ?_
      refine W.region ?_
      refine WL.c rfl (o_ash (show _ = Value.bool _ from rfl) ?_)
      refine WL.nil ?_
      refine W.ret ?_
      refine ret1v rfl (show _ = Value.bool _ from rfl) ?_
      exact ⟨congrArg Value.bool (decide_eq_true (by rw [hi1, List.take_length, hn, List.take_length] at htk; exact htk)).symm, hx⟩
theorem vEqual_spec (L M : List Nd) (v u : Value) (w0 : World) (hS : Sl w0 3 v L.length (nds L)) (hT : Sl w0 3 u M.length (nds M)) (hl : L.length ≤ 5864062014805) : Ca Tryd.prog 26 #[v, u] w0 (fun r w' => r = .bool (decide (L = M)) ∧ Ext w0 w') := by
  refine Ca.of Tryd.func26 Tryd.ntmps26 rfl rfl ?_
  refine W.seq ?_
  refine W.region ?_
  refine WL.c rfl (o_ash (show _ = Value.bool _ from rfl) ?_)
  refine WL.nil ?_
  refine W.seq ?_
  refine W.region ?_
  refine WL.c rfl (o_mvh (by first | exact (show _ = Value.slice _ _ _ from rfl) | exact rfl) ?_)
  refine WL.c rfl (o_mvh (by first | exact (show _ = Value.slice _ _ _ from rfl) | exact rfl) ?_)
  refine WL.c rfl (o_call Tryd.call49 (lc rfl (lc rfl ln)) ((veq_spec L M v u _ hS hT hl).mono ?_))
  rintro v7 w7 ⟨rfl, hx7⟩
  refine WL.c rfl (o_ash (show _ = Value.bool _ from rfl) ?_)
  refine WL.nil ?_
  refine W.ret ?_
  refine ret1v rfl (show _ = Value.bool _ from rfl) ?_
  exact ⟨rfl, hx7⟩
end Go.Proofs.YtgmjfcekeglhjaaDoor

namespace Go.Proofs
open Go.Shelf
def Tryd.lays283_ren : Go.Shelf.Ren := ⟨fun | 283 => 74 | n => n, fun | 3 => 3 | 9 => 9 | 4 => 4 | n => n, fun | n => n⟩
theorem Tryd.lays283 : Go.Proofs.Lays.n283 Tryd.prog Tryd.lays283_ren := {
  mixed := by kernel_rfl
  f283 := Tryd.func74.trans (congrArg some (by kernel_rfl))
  t3 := Tryd.underlying3
  a3 := Tryd.isAgg3
  z3 := Tryd.sizeOf3
  v3 := Tryd.zeroValue3
  t4 := Tryd.underlying4
  a4 := Tryd.isAgg4
  z4 := Tryd.sizeOf4
  v4 := Tryd.zeroValue4
  t9 := Tryd.underlying9
  a9 := Tryd.isAgg9
  z9 := Tryd.sizeOf9
  v9 := Tryd.zeroValue9 }
open Go.Lib in
/-- internal/strconv.small: "small returns the string for an i with 0 <= i < nSmalls.": i's decimal numeral. The world is asx it was. (LAID: no walk: one application.) -/
theorem Tryd.internal_strconv_small (i : Nat) (h : i < 100) (w : World) :
    Calls Tryd.prog 74 #[.int .i64 i] w fun e w' => e = .returned (.string ⟨(Lib.decDigits i).toArray⟩) ∧ w' = w := Any.internal_strconv_small Tryd.lays283 i h w
def Tryd.laysM284_ren : Go.Shelf.Ren := ⟨fun | 284 => 75 | 129 => 79 | 317 => 78 | 318 => 80 | n => n, fun | 53 => 43 | 3 => 3 | 212 => 147 | 0 => 0 | 4 => 4 | 46 => 151 | 5 => 5 | 9 => 9 | n => n, fun | 17 => 0 | n => n⟩
theorem Tryd.laysM284 : Go.Proofs.LaysM.n284 Tryd.prog Tryd.laysM284_ren := {
  mixed := by kernel_rfl
  f129 := Tryd.func79.trans (congrArg some (by kernel_rfl))
  f284 := Tryd.func75.trans (congrArg some (by kernel_rfl))
  f317 := Tryd.func78.trans (congrArg some (by kernel_rfl))
  f318 := Tryd.func80.trans (congrArg some (by kernel_rfl))
  t0 := Tryd.underlying0
  a0 := Tryd.isAgg0
  z0 := Tryd.sizeOf0
  v0 := Tryd.zeroValue0
  t3 := Tryd.underlying3
  a3 := Tryd.isAgg3
  z3 := Tryd.sizeOf3
  v3 := Tryd.zeroValue3
  t4 := Tryd.underlying4
  a4 := Tryd.isAgg4
  z4 := Tryd.sizeOf4
  v4 := Tryd.zeroValue4
  t5 := Tryd.underlying5
  a5 := Tryd.isAgg5
  z5 := Tryd.sizeOf5
  v5 := Tryd.zeroValue5
  t9 := Tryd.underlying9
  a9 := Tryd.isAgg9
  z9 := Tryd.sizeOf9
  v9 := Tryd.zeroValue9
  t46 := Tryd.underlying151
  a46 := Tryd.isAgg151
  z46 := Tryd.sizeOf151
  v46 := Tryd.zeroValue151
  t53 := Tryd.underlying43
  a53 := Tryd.isAgg43
  z53 := Tryd.sizeOf43
  v53 := Tryd.zeroValue43
  t212 := Tryd.underlying147
  a212 := Tryd.isAgg147
  z212 := Tryd.sizeOf147
  v212 := Tryd.zeroValue147
  g17 := by kernel_rfl
  i0 := by kernel_rfl
  i3 := by kernel_rfl
  i4 := by kernel_rfl
  i5 := by kernel_rfl
  i9 := by kernel_rfl
  i46 := by kernel_rfl
  i53 := by kernel_rfl
  i212 := by kernel_rfl
  m17 := by kernel_rfl }
open Go.Lib in
/-- internal/strconv.numDigits, at a d that is not 0: THE NUMBER OF d's DECIMAL DIGITS. The world is asx it was. (LAID: no walk: one application.) -/
theorem Tryd.internal_strconv_numDigits (u : Nat) (h1 : 1 ≤ u) (h2 : u < 18446744073709551616) (w : World) (htab : Lib.TabIs Tryd.prog w "internal/strconv.uint64pow10" .u64 Lib.pow10Tab) :
    Calls Tryd.prog 75 #[.int .u64 u] w fun e w' => e = .returned (.int .i64 (Lib.nDigits u)) ∧ w' = w := Any.internal_strconv_numDigits Tryd.laysM284 u h1 h2 w htab
def Tryd.lays285_ren : Go.Shelf.Ren := ⟨fun | 285 => 76 | n => n, fun | 37 => 73 | 53 => 43 | 3 => 3 | 4 => 4 | 51 => 148 | 9 => 9 | 5 => 5 | 0 => 0 | n => n, fun | n => n⟩
theorem Tryd.lays285 : Go.Proofs.Lays.n285 Tryd.prog Tryd.lays285_ren := {
  mixed := by kernel_rfl
  f285 := Tryd.func76.trans (congrArg some (by kernel_rfl))
  t0 := Tryd.underlying0
  a0 := Tryd.isAgg0
  z0 := Tryd.sizeOf0
  v0 := Tryd.zeroValue0
  t3 := Tryd.underlying3
  a3 := Tryd.isAgg3
  z3 := Tryd.sizeOf3
  v3 := Tryd.zeroValue3
  t4 := Tryd.underlying4
  a4 := Tryd.isAgg4
  z4 := Tryd.sizeOf4
  v4 := Tryd.zeroValue4
  t5 := Tryd.underlying5
  a5 := Tryd.isAgg5
  z5 := Tryd.sizeOf5
  v5 := Tryd.zeroValue5
  t9 := Tryd.underlying9
  a9 := Tryd.isAgg9
  z9 := Tryd.sizeOf9
  v9 := Tryd.zeroValue9
  t37 := Tryd.underlying73
  a37 := Tryd.isAgg73
  z37 := Tryd.sizeOf73
  v37 := Tryd.zeroValue73
  t51 := Tryd.underlying148
  a51 := Tryd.isAgg148
  z51 := Tryd.sizeOf148
  v51 := Tryd.zeroValue148
  t53 := Tryd.underlying43
  a53 := Tryd.isAgg43
  z53 := Tryd.sizeOf43
  v53 := Tryd.zeroValue43 }
open Go.RowKit Go.Sort Go.Lib in
/-- internal/strconv.formatBase10: "formatBase10 formats the decimal representation of u into a. The caller is responsible for ensuring that a is big enough to hold u. If a is too big, leading zeros will be filled in asx needed.": THE ROW HOLDS u's DIGITS ('FmtInv .. 0 ..': every place t holds 'dg u (len - 1 - t)'); all else is asx it was but for the count of draws. (LAID: no walk: one application.) -/
theorem Tryd.internal_strconv_formatBase10 (blk off cap : Nat) (u : Nat) (d : Array UInt8) (w : World) (hH : Holds (fun (b : UInt8) => Value.int .u8 (b.toNat : Int)) w blk off d) (hu : u < 10 ^ d.size) (hu64 : u < 18446744073709551616) (hsz : d.size < 4611686018427387904) :
    Calls Tryd.prog 76 #[.slice (some ⟨blk, off, none⟩) d.size cap, .int .u64 u] w fun e w' =>
      e = .returned (.tuple #[]) ∧ ∃ (n v' : Nat) (dk : Array UInt8), w' = (putRow (fun (b : UInt8) => Value.int .u8 (b.toNat : Int)) w blk off dk).drewN n ∧ FmtInv d.size u 0 v' dk := Any.internal_strconv_formatBase10 Tryd.lays285 blk off cap u d w hH hu hu64 hsz
end Go.Proofs

set_option linter.unusedSimpArgs false
set_option linter.unusedVariables false
set_option maxRecDepth 100000
namespace Go.Proofs.YtgmjfcekeglhjaaDoor
open Go Go.Vc Go.RowKit Go.Proofs
def digL (n : Nat) : List UInt8 := if n < 10 then [UInt8.ofNat (48 + n)] else digL (n / 10) ++ [UInt8.ofNat (48 + n % 10)]
termination_by n
decreasing_by omega
theorem o_cvM {P : Program} {e : Env} {w : World} {K : Value → World → Prop} {ty : TypeId} {x : Operand} {t u : TypeId} {n : Nat} {s b s' b' : Nat} {z z' : Value} (ht : Ty P t (.int .u64) s b z) (hu : Ty P u (.int .i64) s' b' z') (hx : ev e x = .int .u64 (n : Int)) (h1 : n < 9223372036854775808) (kk : K (.int .i64 (n : Int)) w) : OP P e (.convert t u x) ty w K :=
  o_cvI ht hu hx (by
    have h2 : IntKind.i64.wrap (n : Int) = (n : Int) := wrap64' _ (by omega)
    rw [h2]; exact kk)
def tabC : Array Value := (Lib.pow10Tab.map fun z => Value.int .u64 z).toArray
def Tab (w : World) : Prop := ∃ T fr, w.heap[0]? = some (.cells tabC T fr)
theorem Tab.only {w w' : World} {F : Nat → Prop} (h : Tab w) (ho : Only F w w') (hn : ¬ F 0) : Tab w' := by
  obtain ⟨T, fr, h⟩ := h
  exact ⟨T, fr, ho.blk h hn⟩
theorem Tab.ext {w w' : World} (h : Tab w) (ho : Ext w w') : Tab w' := h.only ho (fun h => h)
theorem dec_digL : ∀ n, Lib.decDigits n = digL n := by
  intro n
  induction n using Nat.strongRecOn with
  | _ n ih =>
    rw [Lib.decDigits, digL]
    by_cases h : n < 10
    · rw [if_pos h]; simp [h]
    · rw [if_neg h]; simp only [h, dif_neg, not_false_iff]; rw [ih (n / 10) (by omega)]

theorem digL_lt {n : Nat} (h : n < 10) : digL n = [UInt8.ofNat (48 + n)] := by rw [digL, if_pos h]
theorem digL_ge {n : Nat} (h : ¬ n < 10) : digL n = digL (n / 10) ++ [UInt8.ofNat (48 + n % 10)] := by rw [digL, if_neg h]
theorem digL_nd (n : Nat) : (digL n).length = Lib.nDigits n := by rw [← dec_digL, Lib.decDigits_length]
theorem digL_20 {n : Nat} (h : n < 18446744073709551616) : (digL n).length ≤ 20 := by rw [digL_nd]; exact Lib.nDigits_le20 n h
theorem Tab.is {w : World} (h : Tab w) : Lib.TabIs Tryd.prog w "internal/strconv.uint64pow10" .u64 Lib.pow10Tab := by
  obtain ⟨T, fr, h⟩ := h
  have hg : (Tryd.prog).globalNamed "internal/strconv.uint64pow10" = some 0 := by kernel_rfl
  simp only [Lib.TabIs, World.var?, hg, Option.bind_some, h]
  rfl
theorem small_ca (i : Nat) (h : i < 100) (w : World) : Ca Tryd.prog 74 #[.int .i64 (i : Int)] w (fun v w' => v = st (digL i) ∧ w' = w) := by
  refine Calls.mono (Tryd.internal_strconv_small i h w) ?_
  rintro e w' ⟨rfl, rfl⟩
  exact ⟨by rw [dec_digL], rfl⟩
theorem numd_ca (u : Nat) (h1 : 1 ≤ u) (h2 : u < 18446744073709551616) (w : World) (hT : Tab w) : Ca Tryd.prog 75 #[.int .u64 (u : Int)] w (fun v w' => v = .int .i64 ((digL u).length : Int) ∧ w' = w) := by
  refine Calls.mono (Tryd.internal_strconv_numDigits u h1 h2 w hT.is) ?_
  rintro e w' ⟨rfl, rfl⟩
  exact ⟨by rw [digL_nd], rfl⟩
theorem only_put (enc : UInt8 → Value) (w : World) (b off : Nat) (d : Array UInt8) : Only (fun k => k = b) w (Go.Sort.putRow enc w b off d) :=
  ⟨rfl, rfl, rfl, by simp [Go.Sort.putRow, Go.Sort.mapBlock], fun k hk hn => by simp only [Go.Sort.putRow, Go.Sort.mapBlock, Array.getElem?_modify]; rw [if_neg (fun h => hn h.symm)]⟩
theorem fb10_ca (u : Nat) (hu : u < 18446744073709551616) (b : Nat) (w : World) (T : TypeId) (hC : w.heap[b]? = some (.cells (Array.replicate 24 (.int .u8 0)) T (0, 0))) :
    Ca Tryd.prog 76 #[.slice (some ⟨b, 0, none⟩) (digL u).length 24, .int .u64 (u : Int)] w (fun v w' => v = .tuple #[] ∧ Sl w' 1 (.slice (some ⟨b, 0, none⟩) (digL u).length 24) (digL u).length ((digL u).map bv) ∧ Only (fun k => k = b) w w') := by
  have h20 := digL_20 hu
  have hH : Go.Sort.Holds (fun (c : UInt8) => Value.int .u8 (c.toNat : Int)) w b 0 (Array.replicate (Lib.nDigits u) (0 : UInt8)) := fun j hj => by
    have hj' : j < Lib.nDigits u := by simpa using hj
    rw [digL_nd] at h20
    refine ⟨?_, ?_⟩
    · rw [Nat.zero_add, cell_of hC (show (Array.replicate 24 (Value.int .u8 0))[j]? = some (.int .u8 0) by rw [Array.getElem?_replicate, if_pos (by omega)]), getElem!_pos _ j hj]
      simp
    · simp [World.frozen?, hC]
  have hsz : (Array.replicate (Lib.nDigits u) (0 : UInt8)).size = Lib.nDigits u := by simp
  have hf := Tryd.internal_strconv_formatBase10 b 0 24 u _ w hH (by rw [hsz]; exact Lib.lt_pow_nDigits u) hu (by rw [hsz, ← digL_nd]; omega)
  rw [hsz] at hf
  rw [digL_nd]
  refine Calls.mono hf ?_
  rintro e w' ⟨rfl, n, v', dk, rfl, hF⟩
  refine ⟨rfl, ⟨by simp [digL_nd], .inr ⟨b, 0, 24, rfl, by rw [← digL_nd]; omega, ?_⟩⟩, (only_put _ w b 0 dk).ext (Only.drewN _ n)⟩
  intro j x hx
  have hj : j < (digL u).length := by
    rcases Nat.lt_or_ge j (digL u).length with h | h
    · exact h
    · rw [List.getElem?_eq_none (by simpa using h)] at hx; cases hx
  have hj2 : j < dk.size := by rw [hF.size, ← digL_nd]; exact hj
  have h1 := Go.Sort.cell?_putRow (fun (c : UInt8) => Value.int .u8 (c.toNat : Int)) w b 0 _ dk hH (by rw [hF.size, hsz]) j hj2
  rw [World.cell?_drewN, h1]
  rw [List.getElem?_map, List.getElem?_eq_getElem hj] at hx
  have h2 := Lib.row_is_numeral hF j (by rw [dec_digL]; exact hj)
  rw [← h2]
  simp only [dec_digL]
  exact hx

set_option maxHeartbeats 2000000 in
theorem fmti_spec (n : Nat) (hn : n < 18446744073709551616) (w0 : World) (hT : Tab w0) (h0 : 0 < w0.heap.size) : Ca Tryd.prog 68 #[.int .u64 (n : Int), .int .i64 10] w0 (fun v w' => v = st (digL n) ∧ Ext w0 w') := by
  refine Ca.of Tryd.func68 Tryd.ntmps68 rfl rfl ?_
  refine W.seq ?_
  refine W.region ?_
  refine WL.c rfl (o_ash (show _ = Value.string _ from rfl) ?_)
  refine WL.nil ?_
  refine W.seq ?_
  refine W.seq ?_
  refine W.region ?_
  refine WL.c rfl (o_mvh (show _ = Value.int _ _ from rfl) ?_)
  refine WL.c rfl (o_eq rfl rfl ?_)
  refine WL.nil ?_
  refine W.condT' rfl (rfl) ?_
  refine W.seq ?_
  refine W.seq ?_
  refine W.region ?_
  refine WL.c rfl (o_mvh (show _ = Value.int _ _ from rfl) ?_)
  refine WL.c rfl (o_lt rfl rfl ?_)
  refine WL.nil ?_
  refine W.cond rfl (fun c12 => ?_) (fun c12 => ?_)
  · try simp only [decide_eq_true_eq, decide_eq_false_iff_not, Bool.not_eq_true', Bool.not_eq_false', Bool.and_eq_true, Bool.or_eq_true, Bool.and_eq_false_iff, Bool.or_eq_false_iff] at c12
    have hn2 : n < 100 := by omega
    refine W.seq ?_
    refine W.region ?_
    refine WL.c rfl (o_mvh (show _ = Value.int _ _ from rfl) ?_)
    refine WL.c rfl (o_cvM TI43 TI3 rfl (by omega) ?_)
    refine WL.c rfl (o_call Tryd.call74 (lc rfl ln) ((small_ca n hn2 _).mono ?_))
    rintro v15 w15 ⟨rfl, rfl⟩
    refine WL.c rfl (o_ash (show _ = Value.string _ from rfl) ?_)
    refine WL.nil ?_
    refine W.ret ?_
    refine ret1v rfl (show _ = Value.string _ from rfl) ?_
    exact ⟨rfl, Only.refl _ _⟩
  · try simp only [decide_eq_true_eq, decide_eq_false_iff_not, Bool.not_eq_true', Bool.not_eq_false', Bool.and_eq_true, Bool.or_eq_true, Bool.and_eq_false_iff, Bool.or_eq_false_iff] at c12
    have hn2 : ¬ n < 100 := by omega
    have h20 := digL_20 hn
    refine W.skip ?_
    refine W.seq ?_
    refine W.region ?_
    refine WL.c rfl (o_alB TI141 ?_)
    intro wa hC5 hxa hsa
    obtain ⟨b5, hb5⟩ : ∃ b, b = w0.heap.size := ⟨_, rfl⟩
    rw [← hb5] at hC5 ⊢
    replace hC5 : wa.heap[b5]? = some (.cells (Array.replicate 24 (.int .u8 0)) 141 (0, 0)) := hC5
    refine WL.nil ?_
    refine W.seq ?_
    refine W.region ?_
    refine WL.c rfl (o_mvh (show _ = Value.int _ _ from rfl) ?_)
    refine WL.c rfl (o_call Tryd.call75 (lc rfl ln) ((numd_ca n (by omega) hn _ (hT.ext hxa)).mono ?_))
    rintro v17 w17 ⟨rfl, rfl⟩
    refine WL.c rfl (o_ash (show _ = Value.int _ _ from rfl) ?_)
    refine WL.nil ?_
    refine W.seq ?_
    refine W.region ?_
    refine WL.c rfl (o_mvh (show _ = Value.int _ _ from rfl) ?_)
    refine WL.c rfl (o_sa TI141 TI5 rfl Lo.n (Hi.s rfl) (by omega) (by omega) ?_)
    refine WL.c rfl (o_mvh (show _ = Value.int _ _ from rfl) ?_)
    refine WL.c rfl (o_call Tryd.call76 (lc rfl (lc rfl ln)) ((fb10_ca n hn b5 _ _ hC5).mono ?_))
    rintro v21 w21 ⟨rfl, hS, ho⟩
    have hx : Ext w0 w21 := hxa.trans' ho (fun _ h => h) (fun b hb e => by omega)
    refine WL.nil ?_
    refine W.seq ?_
    refine W.region ?_
    refine WL.c rfl (o_mvh (show _ = Value.int _ _ from rfl) ?_)
    refine WL.c rfl (o_sa TI141 TI5 rfl Lo.n (Hi.s rfl) (by omega) (by omega) ?_)
    refine WL.c rfl (o_cvBS TI73 TI5 TI9 rfl (by assumption) ?_)
    refine WL.c rfl (o_ash (show _ = Value.string _ from rfl) ?_)
    refine WL.nil ?_
    refine W.ret ?_
    refine ret1v rfl (show _ = Value.string _ from rfl) ?_
    exact ⟨rfl, hx⟩
theorem fmtu_spec (n : Nat) (hn : n < 18446744073709551616) (w0 : World) (hT : Tab w0) (h0 : 0 < w0.heap.size) : Ca Tryd.prog 61 #[.int .u64 (n : Int), .int .i64 10] w0 (fun v w' => v = st (digL n) ∧ Ext w0 w') := by
  refine Ca.of Tryd.func61 Tryd.ntmps61 rfl rfl ?_
  refine W.seq ?_
  refine W.region ?_
  refine WL.c rfl (o_ash (show _ = Value.string _ from rfl) ?_)
  refine WL.nil ?_
  refine W.seq ?_
  refine W.region ?_
  refine WL.c rfl (o_mvh (show _ = Value.int _ _ from rfl) ?_)
  refine WL.c rfl (o_mvh (show _ = Value.int _ _ from rfl) ?_)
  refine WL.c rfl (o_call Tryd.call68 (lc rfl (lc rfl ln)) ((fmti_spec n hn _ hT h0).mono ?_))
  rintro v7 w7 ⟨rfl, hx7⟩
  refine WL.c rfl (o_ash (show _ = Value.string _ from rfl) ?_)
  refine WL.nil ?_
  refine W.ret ?_
  refine ret1v rfl (show _ = Value.string _ from rfl) ?_
  exact ⟨rfl, hx7⟩
theorem fmtbi_spec (b : Bool) (w0 : World) : Ca Tryd.prog 69 #[.bool b] w0 (fun v w' => v = st (if b then [116, 114, 117, 101] else [102, 97, 108, 115, 101]) ∧ w' = w0) := by
  refine Ca.of Tryd.func69 Tryd.ntmps69 rfl rfl ?_
  refine W.seq ?_
  refine W.region ?_
  refine WL.c rfl (o_ash (show _ = Value.string _ from rfl) ?_)
  refine WL.nil ?_
  refine W.seq ?_
  refine W.seq ?_
  refine W.region ?_
  refine WL.c rfl (o_mvh (show _ = Value.bool _ from rfl) ?_)
  refine WL.nil ?_
  refine W.cond rfl (fun c3 => ?_) (fun c3 => ?_)
  · try simp only [decide_eq_true_eq, decide_eq_false_iff_not, Bool.not_eq_true', Bool.not_eq_false', Bool.and_eq_true, Bool.or_eq_true, Bool.and_eq_false_iff, Bool.or_eq_false_iff] at c3
    refine W.seq ?_
    refine W.region ?_
    refine WL.c rfl (o_ash (show _ = Value.string _ from rfl) ?_)
    refine WL.nil ?_
    refine W.ret ?_
    refine ret1v rfl (show _ = Value.string _ from rfl) ?_
    exact ⟨by subst c3; rfl, rfl⟩
  · try simp only [decide_eq_true_eq, decide_eq_false_iff_not, Bool.not_eq_true', Bool.not_eq_false', Bool.and_eq_true, Bool.or_eq_true, Bool.and_eq_false_iff, Bool.or_eq_false_iff] at c3
    refine W.skip ?_
    refine W.seq ?_
    refine W.region ?_
    refine WL.c rfl (o_ash (show _ = Value.string _ from rfl) ?_)
    refine WL.nil ?_
    refine W.ret ?_
    refine ret1v rfl (show _ = Value.string _ from rfl) ?_
    exact ⟨by subst c3; rfl, rfl⟩
theorem fmtb_spec (b : Bool) (w0 : World) : Ca Tryd.prog 62 #[.bool b] w0 (fun v w' => v = st (if b then [116, 114, 117, 101] else [102, 97, 108, 115, 101]) ∧ w' = w0) := by
  refine Ca.of Tryd.func62 Tryd.ntmps62 rfl rfl ?_
  refine W.seq ?_
  refine W.region ?_
  refine WL.c rfl (o_ash (show _ = Value.string _ from rfl) ?_)
  refine WL.nil ?_
  refine W.seq ?_
  refine W.region ?_
  refine WL.c rfl (o_mvh (show _ = Value.bool _ from rfl) ?_)
  refine WL.c rfl (o_call Tryd.call69 (lc rfl ln) ((fmtbi_spec b _).mono ?_))
  rintro v4 w4 ⟨rfl, rfl⟩
  refine WL.c rfl (o_ash (show _ = Value.string _ from rfl) ?_)
  refine WL.nil ?_
  refine W.ret ?_
  refine ret1v rfl (show _ = Value.string _ from rfl) ?_
  exact ⟨rfl, rfl⟩
end Go.Proofs.YtgmjfcekeglhjaaDoor

set_option linter.unusedSimpArgs false
set_option linter.unusedVariables false
set_option maxRecDepth 100000
namespace Go.Proofs.YtgmjfcekeglhjaaDoor
open Go Go.Vc Go.RowKit Go.Proofs
theorem own_take {w : World} {base : Nat} {el : TypeId} {s n m g cap : Nat} {xs : List Value} (h : w.ownsRow base el s (.slice (some ⟨g, 0, none⟩) n cap) n xs) (hm : m ≤ n) : w.ownsRow base el s (.slice (some ⟨g, 0, none⟩) m cap) m (xs.take (m * s)) := by
  obtain ⟨cap', cur, hv, hb, hc, hnc, hcm, hcs, ht⟩ := own_blk h rfl
  simp only [Value.slice.injEq] at hv
  obtain ⟨-, -, rfl⟩ := hv
  have hms : m * s ≤ n * s := Nat.mul_le_mul_right _ hm
  refine ⟨by rw [List.length_take, h.1]; omega, .inr ⟨g, cap, cur, rfl, hb, hc, by omega, hcm, hcs, ?_⟩⟩
  rw [← ht, List.take_take, Nat.min_eq_left hms]
theorem sliced0 (g h c s : Nat) : sliced (some ⟨g, 0, none⟩) 0 h c s = .slice (some ⟨g, 0, none⟩) h c := by
  unfold sliced
  split <;> simp [Addr.add]

theorem o_sl0 {P : Program} {e : Env} {w : World} {K : Value → World → Prop} {ty : TypeId} {x y : Operand} {t el : TypeId} {s bs s' bs' n c h g : Nat} {z z' : Value} {d' : TypeDesc} (ht : Ty P t (.slice el) s bs z) (hel : Ty P el d' s' bs' z') (hx : ev e x = .slice (some ⟨g, 0, none⟩) n c) (hh : ev e y = .int .i64 (h : Int)) (h2 : h ≤ c)
    (k : K (.slice (some ⟨g, 0, none⟩) h c) w) : OP P e (.slice t x none (some y) none) ty w K := o_slv ht hel hx Lo.n (Hi.s hh) (Nat.zero_le _) h2 (by rw [sliced0]; exact k)
def shutT (k : Int) : List UInt8 := if k = 3 then [93] else if k = 4 then [125] else if k = 6 then [62] else []
def leafT (x : Nd) : List UInt8 := if x.kind = 1 then digL x.n else if x.kind = 2 then (if x.n = 1 then [116, 114, 117, 101] else [102, 97, 108, 115, 101]) else if x.kind = 3 then [91] else if x.kind = 4 then [123] else if x.kind = 6 then [60] ++ digL x.n ++ [58] else if x.kids = 0 then [110, 111, 110, 101] else [115, 111, 109, 101, 32]
mutual
/-- a value's text -/
def Vt.txt : Vt → List UInt8
  | .node x ks => leafT x ++ (ks.txtS false ++ shutT x.kind)
def Vts.txtS (d : Bool) : Vts → List UInt8
  | .nil => []
  | .cons t ts => (if d then [44, 32] else []) ++ (t.txt ++ ts.txtS true)
end
theorem shutT_le (k : Int) : (shutT k).length ≤ 1 := by
  unfold shutT
  split; · exact Nat.le_refl 1
  split; · exact Nat.le_refl 1
  split; · exact Nat.le_refl 1
  exact Nat.zero_le 1
theorem leafT_le {x : Nd} (h : x.n < 18446744073709551616) : (leafT x).length ≤ 24 := by
  have hd := digL_20 h
  unfold leafT
  split; · omega
  split; · (split <;> decide)
  split; · decide
  split; · decide
  split; · (rw [List.length_append, List.length_append]; show 1 + _ + 1 ≤ 24; omega)
  split <;> decide
def NOk (L : List Nd) : Prop := ∀ x ∈ L, x.n < 18446744073709551616
structure Fr where
  kind : Int
  rest : Vts
  done : Nat
def frV (f : Fr) : List Value := [.int .i64 f.kind, .int .i64 (f.rest.len : Int), .int .i64 (f.done : Int)]
/-- the top first -/
def frs (K : List Fr) : List Value := K.reverse.flatMap frV
theorem frs_cons (f : Fr) (K : List Fr) : frs (f :: K) = frs K ++ frV f := by simp [frs]
theorem frs_len : ∀ K : List Fr, (frs K).length = K.length * 3
  | [] => rfl
  | f :: K => by rw [frs_cons, List.length_append, frs_len K, List.length_cons]; show _ + 3 = _; omega
theorem frs_get {f : Fr} {K : List Fr} {c : Nat} (hc : c < 3) : (frs (f :: K))[K.length * 3 + c]? = (frV f)[c]? := by
  rw [frs_cons, List.getElem?_append_right (by rw [frs_len]; omega), frs_len, Nat.add_sub_cancel_left]
theorem frs_set {f g : Fr} {K : List Fr} {c : Nat} {v : Value} (h : (frV f).set c v = frV g) : (frs (f :: K)).set (K.length * 3 + c) v = frs (g :: K) := by
  rw [frs_cons, frs_cons, List.set_append_right _ _ (by rw [frs_len]; omega), frs_len, Nat.add_sub_cancel_left, h]
def flatK : List Fr → List Nd
  | [] => []
  | f :: K => f.rest.flat ++ flatK K
def restK : List Fr → List UInt8
  | [] => []
  | f :: K => f.rest.txtS (decide (0 < f.done)) ++ (shutT f.kind ++ restK K)
def wfK (K : List Fr) : Prop := ∀ f ∈ K, f.rest.wf ∧ f.done + f.rest.len ≤ 1048576
theorem Vts.nil_of {F : Vts} (h : F.len = 0) : F = .nil := by cases F with | nil => rfl | cons t ts => simp [len] at h
theorem take_3 {K : List Fr} {f : Fr} : (frs (f :: K)).take (K.length * 3) = frs K := by rw [frs_cons, List.take_left' (frs_len K)]
theorem pr_step {T b : List UInt8} {kd : Int} {n : Vt} {R : Vts} {d : Nat} {K : List Fr} {b1 : List UInt8} (h : T = b ++ restK (⟨kd, .cons n R, d⟩ :: K)) (h1 : b1 = b ++ (if decide (0 < d) then [44, 32] else [])) : T = b1 ++ (n.txt ++ restK (⟨kd, R, d + 1⟩ :: K)) := by
  rw [h, h1]
  simp only [restK, Vts.txtS, decide_eq_true (show 0 < d + 1 by omega), List.append_assoc]
mutual
theorem flat_uniq : ∀ (t u : Vt) (l m : List Nd), t.wf → u.wf → t.flat ++ l = u.flat ++ m → t = u ∧ l = m
  | .node x ks, .node y ls, l, m, h1, h2, h => by
    simp only [Vt.flat, List.cons_append, List.cons.injEq] at h
    obtain ⟨rfl, h⟩ := h
    obtain ⟨-, h3, h4⟩ := h1
    obtain ⟨-, h5, h6⟩ := h2
    obtain ⟨rfl, rfl⟩ := flats_uniq ks ls l m h4 h6 (by omega) h
    exact ⟨rfl, rfl⟩
theorem flats_uniq : ∀ (t u : Vts) (l m : List Nd), t.wf → u.wf → t.len = u.len → t.flat ++ l = u.flat ++ m → t = u ∧ l = m
  | .nil, .nil, l, m, _, _, _, h => ⟨rfl, h⟩
  | .nil, .cons _ _, _, _, _, _, h, _ => by simp [Vts.len] at h
  | .cons _ _, .nil, _, _, _, _, h, _ => by simp [Vts.len] at h
  | .cons t ts, .cons u us, l, m, h1, h2, h3, h => by
    simp only [Vts.flat, List.append_assoc] at h
    obtain ⟨rfl, h4⟩ := flat_uniq t u _ _ h1.1 h2.1 h
    simp only [Vts.len] at h3
    obtain ⟨rfl, rfl⟩ := flats_uniq ts us l m h1.2 h2.2 (by omega) h4
    exact ⟨rfl, rfl⟩
end
theorem flat_inj {t u : Vt} (h1 : t.wf) (h2 : u.wf) (h : t.flat = u.flat) : t = u := (flat_uniq t u [] [] h1 h2 (by rw [h])).1
/-- ahead of a node: the open nodes, what is written; the node, its kids -/
def PrG (L : List Nd) (T : List UInt8) (i : Nat) (K : List Fr) (b : List UInt8) : Prop := wfK K ∧ L.drop i = flatK K ∧ T = b ++ restK K

theorem vshut_spec (k : Int) (w0 : World) : Ca Tryd.prog 46 #[.int .i64 k] w0 (fun v w' => v = st (shutT k) ∧ w' = w0) := by
  refine Ca.of Tryd.func46 Tryd.ntmps46 rfl rfl ?_
  refine W.seq ?_
  refine W.region ?_
  refine WL.c rfl (o_ash (show _ = Value.string _ from rfl) ?_)
  refine WL.nil ?_
  refine W.seq ?_
  refine W.seq ?_
  refine W.region ?_
  refine WL.c rfl (o_mvh (show _ = Value.int _ _ from rfl) ?_)
  refine WL.nil ?_
  refine W.block ?_
  refine W.seq ?_
  refine W.region ?_
  refine WL.c rfl (o_eq rfl rfl ?_)
  refine WL.c rfl (o_ash (show _ = Value.bool _ from rfl) ?_)
  refine WL.nil ?_
  refine W.cond rfl (fun c4 => ?_) (fun c4 => ?_)
  · try simp only [decide_eq_true_eq, decide_eq_false_iff_not, Bool.not_eq_true', Bool.not_eq_false', Bool.and_eq_true, Bool.or_eq_true, Bool.and_eq_false_iff, Bool.or_eq_false_iff] at c4
    refine W.seq ?_
    refine W.region ?_
    refine WL.c rfl (o_ash (show _ = Value.string _ from rfl) ?_)
    refine WL.nil ?_
    refine W.ret ?_
    refine ret1v rfl (show _ = Value.string _ from rfl) ?_
    exact ⟨by simp_all [shutT], rfl⟩
  · try simp only [decide_eq_true_eq, decide_eq_false_iff_not, Bool.not_eq_true', Bool.not_eq_false', Bool.and_eq_true, Bool.or_eq_true, Bool.and_eq_false_iff, Bool.or_eq_false_iff] at c4
    refine W.seq ?_
    refine W.region ?_
    refine WL.c rfl (o_eq rfl rfl ?_)
    refine WL.c rfl (o_ash (show _ = Value.bool _ from rfl) ?_)
    refine WL.nil ?_
    refine W.cond rfl (fun c6 => ?_) (fun c6 => ?_)
    · try simp only [decide_eq_true_eq, decide_eq_false_iff_not, Bool.not_eq_true', Bool.not_eq_false', Bool.and_eq_true, Bool.or_eq_true, Bool.and_eq_false_iff, Bool.or_eq_false_iff] at c6
      refine W.seq ?_
      refine W.region ?_
      refine WL.c rfl (o_ash (show _ = Value.string _ from rfl) ?_)
      refine WL.nil ?_
      refine W.ret ?_
      refine ret1v rfl (show _ = Value.string _ from rfl) ?_
      exact ⟨by simp_all [shutT], rfl⟩
    · try simp only [decide_eq_true_eq, decide_eq_false_iff_not, Bool.not_eq_true', Bool.not_eq_false', Bool.and_eq_true, Bool.or_eq_true, Bool.and_eq_false_iff, Bool.or_eq_false_iff] at c6
      refine W.seq ?_
      refine W.region ?_
      refine WL.c rfl (o_eq rfl rfl ?_)
      refine WL.c rfl (o_ash (show _ = Value.bool _ from rfl) ?_)
      refine WL.nil ?_
      refine W.cond rfl (fun c8 => ?_) (fun c8 => ?_)
      · try simp only [decide_eq_true_eq, decide_eq_false_iff_not, Bool.not_eq_true', Bool.not_eq_false', Bool.and_eq_true, Bool.or_eq_true, Bool.and_eq_false_iff, Bool.or_eq_false_iff] at c8
        refine W.seq ?_
        refine W.region ?_
        refine WL.c rfl (o_ash (show _ = Value.string _ from rfl) ?_)
        refine WL.nil ?_
        refine W.ret ?_
        refine ret1v rfl (show _ = Value.string _ from rfl) ?_
        exact ⟨by simp_all [shutT], rfl⟩
      · try simp only [decide_eq_true_eq, decide_eq_false_iff_not, Bool.not_eq_true', Bool.not_eq_false', Bool.and_eq_true, Bool.or_eq_true, Bool.and_eq_false_iff, Bool.or_eq_false_iff] at c8
        refine W.skip ?_
        refine W.seq ?_
        refine W.region ?_
        refine WL.c rfl (o_ash (show _ = Value.string _ from rfl) ?_)
        refine WL.nil ?_
        refine W.ret ?_
        refine ret1v rfl (show _ = Value.string _ from rfl) ?_
        exact ⟨by simp_all [shutT], rfl⟩
set_option maxHeartbeats 1000000 in
theorem vleaf_spec (x : Nd) (hn : x.n < 18446744073709551616) (w0 : World) (hT : Tab w0) (h0 : 0 < w0.heap.size) : Ca Tryd.prog 45 #[.agg (ndV x).toArray] w0 (fun v w' => v = st (leafT x) ∧ Ext w0 w') := by
  refine Ca.of Tryd.func45 Tryd.ntmps45 rfl rfl ?_
  refine W.seq ?_
  refine W.region ?_
  refine WL.c rfl (o_boxB rfl ?_)
  intro w1 hC1 hx1 hs1
  obtain ⟨b1, hb1⟩ : ∃ b, b = w0.heap.size := ⟨_, rfl⟩
  rw [← hb1] at hC1 ⊢
  replace hC1 : w1.heap[b1]? = some (.cells (ndV x).toArray 69 (0, 0)) := hC1
  have hx := hx1
  refine WL.c rfl (o_ash (show _ = Value.string _ from rfl) ?_)
  refine WL.nil ?_
  refine W.seq ?_
  refine W.seq ?_
  refine W.region ?_
  refine WL.c rfl (o_fa 0 TI69 rfl TI3 rfl rfl ?_)
  refine WL.c rfl (o_ld TI3 rfl rfl (cell_of hC1 rfl) ?_)
  refine WL.nil ?_
  refine W.block ?_
  refine W.seq ?_
  refine W.region ?_
  refine WL.c rfl (o_eq rfl rfl ?_)
  refine WL.c rfl (o_ash (show _ = Value.bool _ from rfl) ?_)
  refine WL.nil ?_
  refine W.cond rfl (fun c5 => ?_) (fun c5 => ?_)
  · try simp only [decide_eq_true_eq, decide_eq_false_iff_not, Bool.not_eq_true', Bool.not_eq_false', Bool.and_eq_true, Bool.or_eq_true, Bool.and_eq_false_iff, Bool.or_eq_false_iff] at c5
    refine W.seq ?_
    refine W.region ?_
    refine WL.c rfl (o_fa 1 TI69 rfl TI43 rfl rfl ?_)
    refine WL.c rfl (o_ld TI43 rfl rfl (cell_of hC1 rfl) ?_)
    refine WL.c rfl (o_call Tryd.call61 (lc rfl (lc rfl ln)) ((fmtu_spec x.n hn _ (hT.ext hx) (by have := hx.size; omega)).mono ?_))
    rintro v9 w9 ⟨rfl, hx9⟩
    replace hx := hx.tr hx9
    refine WL.c rfl (o_ash (show _ = Value.string _ from rfl) ?_)
    refine WL.nil ?_
    refine W.ret ?_
    refine ret1v rfl (show _ = Value.string _ from rfl) ?_
    exact ⟨by simp_all [leafT], hx⟩
  · try simp only [decide_eq_true_eq, decide_eq_false_iff_not, Bool.not_eq_true', Bool.not_eq_false', Bool.and_eq_true, Bool.or_eq_true, Bool.and_eq_false_iff, Bool.or_eq_false_iff] at c5
    refine W.seq ?_
    refine W.region ?_
    refine WL.c rfl (o_eq rfl rfl ?_)
    refine WL.c rfl (o_ash (show _ = Value.bool _ from rfl) ?_)
    refine WL.nil ?_
    refine W.cond rfl (fun c10 => ?_) (fun c10 => ?_)
    · try simp only [decide_eq_true_eq, decide_eq_false_iff_not, Bool.not_eq_true', Bool.not_eq_false', Bool.and_eq_true, Bool.or_eq_true, Bool.and_eq_false_iff, Bool.or_eq_false_iff] at c10
      refine W.seq ?_
      refine W.region ?_
      refine WL.c rfl (o_fa 1 TI69 rfl TI43 rfl rfl ?_)
      refine WL.c rfl (o_ld TI43 rfl rfl (cell_of hC1 rfl) ?_)
      refine WL.c rfl (o_eq rfl rfl ?_)
      refine WL.c rfl (o_call Tryd.call62 (lc rfl ln) ((fmtb_spec _ _).mono ?_))
      rintro v15 w15 ⟨rfl, rfl⟩
      refine WL.c rfl (o_ash (show _ = Value.string _ from rfl) ?_)
      refine WL.nil ?_
      refine W.ret ?_
      refine ret1v rfl (show _ = Value.string _ from rfl) ?_
      exact ⟨by
        simp_all [leafT]
        by_cases h : x.n = 1
        · simp [h]
        · rw [if_neg (by omega), if_neg h], hx⟩
    · try simp only [decide_eq_true_eq, decide_eq_false_iff_not, Bool.not_eq_true', Bool.not_eq_false', Bool.and_eq_true, Bool.or_eq_true, Bool.and_eq_false_iff, Bool.or_eq_false_iff] at c10
      refine W.seq ?_
      refine W.region ?_
      refine WL.c rfl (o_eq rfl rfl ?_)
      refine WL.c rfl (o_ash (show _ = Value.bool _ from rfl) ?_)
      refine WL.nil ?_
      refine W.cond rfl (fun c16 => ?_) (fun c16 => ?_)
      · try simp only [decide_eq_true_eq, decide_eq_false_iff_not, Bool.not_eq_true', Bool.not_eq_false', Bool.and_eq_true, Bool.or_eq_true, Bool.and_eq_false_iff, Bool.or_eq_false_iff] at c16
        refine W.seq ?_
        refine W.region ?_
        refine WL.c rfl (o_ash (show _ = Value.string _ from rfl) ?_)
        refine WL.nil ?_
        refine W.ret ?_
        refine ret1v rfl (show _ = Value.string _ from rfl) ?_
        exact ⟨by simp_all [leafT], hx⟩
      · try simp only [decide_eq_true_eq, decide_eq_false_iff_not, Bool.not_eq_true', Bool.not_eq_false', Bool.and_eq_true, Bool.or_eq_true, Bool.and_eq_false_iff, Bool.or_eq_false_iff] at c16
        refine W.seq ?_
        refine W.region ?_
        refine WL.c rfl (o_eq rfl rfl ?_)
        refine WL.c rfl (o_ash (show _ = Value.bool _ from rfl) ?_)
        refine WL.nil ?_
        refine W.cond rfl (fun c18 => ?_) (fun c18 => ?_)
        · try simp only [decide_eq_true_eq, decide_eq_false_iff_not, Bool.not_eq_true', Bool.not_eq_false', Bool.and_eq_true, Bool.or_eq_true, Bool.and_eq_false_iff, Bool.or_eq_false_iff] at c18
          refine W.seq ?_
          refine W.region ?_
          refine WL.c rfl (o_ash (show _ = Value.string _ from rfl) ?_)
          refine WL.nil ?_
          refine W.ret ?_
          refine ret1v rfl (show _ = Value.string _ from rfl) ?_
          exact ⟨by simp_all [leafT], hx⟩
        · try simp only [decide_eq_true_eq, decide_eq_false_iff_not, Bool.not_eq_true', Bool.not_eq_false', Bool.and_eq_true, Bool.or_eq_true, Bool.and_eq_false_iff, Bool.or_eq_false_iff] at c18
          refine W.seq ?_
          refine W.region ?_
          refine WL.c rfl (o_eq rfl rfl ?_)
          refine WL.c rfl (o_ash (show _ = Value.bool _ from rfl) ?_)
          refine WL.nil ?_
          refine W.cond rfl (fun c20 => ?_) (fun c20 => ?_)
          · try simp only [decide_eq_true_eq, decide_eq_false_iff_not, Bool.not_eq_true', Bool.not_eq_false', Bool.and_eq_true, Bool.or_eq_true, Bool.and_eq_false_iff, Bool.or_eq_false_iff] at c20
            refine W.seq ?_
            refine W.region ?_
            refine WL.c rfl (o_fa 1 TI69 rfl TI43 rfl rfl ?_)
            refine WL.c rfl (o_ld TI43 rfl rfl (cell_of hC1 rfl) ?_)
            refine WL.c rfl (o_call Tryd.call61 (lc rfl (lc rfl ln)) ((fmtu_spec x.n hn _ (hT.ext hx) (by have := hx.size; omega)).mono ?_))
            rintro v24 w24 ⟨rfl, hx24⟩
            replace hx := hx.tr hx24
            have h20 := digL_20 hn
            refine WL.c rfl (o_addT rfl rfl (by show 1 + _ ≤ _; omega) ?_)
            refine WL.c rfl (o_addT rfl rfl (by rw [List.length_append]; show 1 + _ + 1 ≤ _; omega) ?_)
            refine WL.c rfl (o_ash (show _ = Value.string _ from rfl) ?_)
            refine WL.nil ?_
            refine W.ret ?_
            refine ret1v rfl (show _ = Value.string _ from rfl) ?_
            exact ⟨by simp_all [leafT], hx⟩
          · try simp only [decide_eq_true_eq, decide_eq_false_iff_not, Bool.not_eq_true', Bool.not_eq_false', Bool.and_eq_true, Bool.or_eq_true, Bool.and_eq_false_iff, Bool.or_eq_false_iff] at c20
            refine W.skip ?_
            refine W.seq ?_
            refine W.seq ?_
            refine W.region ?_
            refine WL.c rfl (o_fa 2 TI69 rfl TI3 rfl rfl ?_)
            refine WL.c rfl (o_ld TI3 rfl rfl (cell_of hC1 rfl) ?_)
            refine WL.c rfl (o_eq rfl rfl ?_)
            refine WL.nil ?_
            refine W.cond rfl (fun c29 => ?_) (fun c29 => ?_)
            · try simp only [decide_eq_true_eq, decide_eq_false_iff_not, Bool.not_eq_true', Bool.not_eq_false', Bool.and_eq_true, Bool.or_eq_true, Bool.and_eq_false_iff, Bool.or_eq_false_iff] at c29
              refine W.seq ?_
              refine W.region ?_
              refine WL.c rfl (o_ash (show _ = Value.string _ from rfl) ?_)
              refine WL.nil ?_
              refine W.ret ?_
              refine ret1v rfl (show _ = Value.string _ from rfl) ?_
              exact ⟨by simp_all [leafT], hx⟩
            · try simp only [decide_eq_true_eq, decide_eq_false_iff_not, Bool.not_eq_true', Bool.not_eq_false', Bool.and_eq_true, Bool.or_eq_true, Bool.and_eq_false_iff, Bool.or_eq_false_iff] at c29
              refine W.skip ?_
              refine W.seq ?_
              refine W.region ?_
              refine WL.c rfl (o_ash (show _ = Value.string _ from rfl) ?_)
              refine WL.nil ?_
              refine W.ret ?_
              refine ret1v rfl (show _ = Value.string _ from rfl) ?_
              exact ⟨by simp_all [leafT], hx⟩
set_option maxHeartbeats 8000000 in
theorem vPrint_spec (L : List Nd) (v : Value) (w0 : World) (hS : Sl w0 3 v L.length (nds L)) (hl : L.length ≤ 5864062014805) (hN : NOk L) (hT : Tab w0) (h0 : 0 < w0.heap.size) : Ca Tryd.prog 23 #[v] w0 (fun r w' => Ext w0 w' ∧ (¬ (chkV L).1 = 0 → r = .tuple #[st [], .int .i64 (chkV L).1]) ∧ ∀ t : Vt, t.wf → t.flat = L → r = .tuple (if 1048576 < t.txt.length then #[st [], .int .i64 4] else #[st t.txt, .int .i64 0])) := by
  refine Ca.of Tryd.func23 Tryd.ntmps23 rfl rfl ?_
  refine W.seq ?_
  refine W.region ?_
  refine WL.c rfl (o_ash (show _ = Value.string _ from rfl) ?_)
  refine WL.c rfl (o_ash (show _ = Value.int _ _ from rfl) ?_)
  refine WL.nil ?_
  refine W.seq ?_
  refine W.seq ?_
  refine W.region ?_
  refine WL.c rfl (o_mvh (by first | exact (show _ = Value.slice _ _ _ from rfl) | exact rfl) ?_)
  refine WL.c rfl (o_call Tryd.call27 (lc rfl ln) ((vcheck_spec L v _ hS hl).mono ?_))
  rintro v12 w12 ⟨rfl, hx12⟩
  have hx := hx12
  refine WL.c rfl (o_alB TI64 ?_)
  intro wa hCa hxa hsa
  refine WL.u (o_stA TI64 rfl (show _ = Value.agg ([.int .i64 (chkV L).1, .int .i64 (chkV L).2]).toArray from rfl) rfl rfl hCa rfl ?_)
  intro wb4 hC4 hob hsb
  have hxb := Ext.own hxa (Nat.le_refl _) hob
  obtain ⟨b4, hb4⟩ : ∃ b, b = w12.heap.size := ⟨_, rfl⟩
  rw [← hb4] at hC4 ⊢
  clear hCa hxa hsa hob hsb
  replace hx := hx.tr hxb
  clear hxb
  refine WL.nil ?_
  refine W.seq ?_
  refine W.region ?_
  refine WL.c rfl (o_fa 0 TI64 rfl TI46 rfl rfl ?_)
  refine WL.c rfl (o_ld TI46 rfl rfl (cell_of hC4 rfl) ?_)
  refine WL.c rfl (o_ne rfl rfl ?_)
  refine WL.nil ?_
  refine W.cond rfl (fun c15 => ?_) (fun c15 => ?_)
  · try simp only [decide_eq_true_eq, decide_eq_false_iff_not, Bool.not_eq_true', Bool.not_eq_false', Bool.and_eq_true, Bool.or_eq_true, Bool.and_eq_false_iff, Bool.or_eq_false_iff] at c15
    have hc : ¬ (chkV L).1 = 0 := by simpa using c15
    refine W.seq ?_
    refine W.quiet rfl (by kernel_rfl) ?_
    refine WQ.c rfl ((QO.o rfl fun _ => o_fa 0 TI64 rfl TI46 rfl rfl ⟨rfl, rfl⟩)) ?_
    refine WQ.c rfl ((QO.o rfl fun _ => o_ld TI46 rfl rfl (cell_of hC4 rfl) ⟨rfl, rfl⟩)) ?_
    refine WQ.c rfl ((QO.o rfl fun _ => o_ash (show _ = Value.string _ from rfl) ⟨rfl, rfl⟩)) ?_
    refine WQ.c rfl ((QO.o rfl fun _ => o_ash (show _ = Value.int _ _ from rfl) ⟨rfl, rfl⟩)) ?_
    refine WQ.nil ?_
    intro nq
    refine W.ret ?_
    refine ret2v rfl (show _ = Value.string _ from rfl) (show _ = Value.int _ _ from rfl) ?_
    exact ⟨hx.tr (Only.drewN _ _), fun _ => rfl, fun t hw hf => absurd (chk_ok.2 ⟨t, hw, hf⟩) hc⟩
  · try simp only [decide_eq_true_eq, decide_eq_false_iff_not, Bool.not_eq_true', Bool.not_eq_false', Bool.and_eq_true, Bool.or_eq_true, Bool.and_eq_false_iff, Bool.or_eq_false_iff] at c15
    have hc : (chkV L).1 = 0 := by simpa using c15
    obtain ⟨t, hw, hft⟩ := chk_ok.1 hc
    refine W.skip ?_
    refine W.seq ?_
    refine W.region ?_
    refine WL.c rfl (o_ash (by first | exact (show _ = Value.slice _ _ _ from rfl) | exact rfl) ?_)
    refine WL.nil ?_
    refine W.seq ?_
    refine W.region ?_
    refine WL.c rfl (o_ash (by first | exact (show _ = Value.slice _ _ _ from rfl) | exact rfl) ?_)
    refine WL.nil ?_
    refine W.seq ?_
    refine W.seq ?_
    refine W.region ?_
    refine WL.c rfl (o_mvh (by first | exact (show _ = Value.slice _ _ _ from rfl) | exact rfl) ?_)
    refine WL.c rfl (o_lenR TI30 rfl (hS.ext hx) ?_)
    refine WL.c rfl (o_mvh (show _ = Value.int _ _ from rfl) ?_)
    refine WL.nil ?_
    refine W.block ?_
    refine W.loop (fun e w => ∃ (i : Nat) (K : List Fr) (b : List UInt8) (bw sw : Value), i ≤ L.length ∧ e 5 = bw ∧ e 6 = sw ∧ e 18 = v ∧ e 19 = .int .i64 (L.length : Int) ∧ e 20 = .int .i64 (i : Int) ∧ w.ownsRow w0.heap.size 5 1 bw b.length (b.map bv) ∧ w.ownsRow w0.heap.size 106 3 sw K.length (frs K) ∧ (i = 0 ∧ K = [] ∧ b = [] ∨ 0 < i ∧ PrG L t.txt i K b ∧ ∀ f K', K = f :: K' → 0 < f.rest.len) ∧ K.length ≤ i ∧ b.length ≤ 1048576 ∧ Ext w0 w) (fun e w => L.length - (intOf (e 20)).toNat) ?_ ?_
    · exact ⟨0, [], [], .slice none 0 0, .slice none 0 0, Nat.zero_le _, rfl, rfl, rfl, rfl, rfl, World.ownsRow_nil _ _ _ _, World.ownsRow_nil _ _ _ _, .inl ⟨rfl, rfl, rfl⟩, Nat.zero_le _, Nat.zero_le _, hx⟩
    rintro e w ⟨i, K, b, bw, sw, hi, h5, h6, h18, h19, h20, hbo, hst, hg, hKi, hbl, hx⟩
    have hm20 := h20
    refine W.seq ?_
    refine W.region ?_
    refine WL.c rfl (o_lt h20 h19 ?_)
    refine WL.nil ?_
    refine W.seq ?_
    refine W.cond rfl (fun c21 => ?_) (fun c21 => ?_)
    · try simp only [decide_eq_true_eq, decide_eq_false_iff_not, Bool.not_eq_true', Bool.not_eq_false', Bool.and_eq_true, Bool.or_eq_true, Bool.and_eq_false_iff, Bool.or_eq_false_iff] at c21
      have hi1 : i < L.length := by omega
      obtain ⟨ub, uo, uc, hv, huc⟩ := Sl.nd (hS.ext hx) hi1
      rw [hv] at h18
      have hdr : L.drop i = L[i] :: L.drop (i + 1) := (List.getElem_cons_drop hi1).symm
      refine W.skip ?_
      refine W.seq ?_
      refine W.block ?_
      refine W.seq ?_
      refine W.region ?_
      refine WL.c rfl (o_ixB (i := i) TI30 TI69 h18 h20 (by omega) ?_)
      refine WL.c rfl (o_ldA TI69 rfl rfl huc rfl ?_)
      refine WL.c rfl (o_alB TI69 ?_)
      intro wa hCa hxa hsa
      refine WL.u (o_stA TI69 rfl (show _ = Value.agg (ndV L[i]).toArray from rfl) rfl rfl hCa rfl ?_)
      intro wb8 hC8 hob hsb
      have hxb := Ext.own hxa (Nat.le_refl _) hob
      obtain ⟨b8, hb8⟩ : ∃ b, b = w.heap.size := ⟨_, rfl⟩
      rw [← hb8] at hC8 ⊢
      clear hCa hxa hsa hob hsb
      replace hx := hx.tr hxb
      replace hbo := own_ext hbo hxb
      replace hst := own_ext hst hxb
      clear hxb
      refine WL.nil ?_
      refine W.seq ?_
      refine W.seq ?_
      refine W.region ?_
      refine WL.cut (fun e1 w1 => e1 9 = .int .i64 ((K.length : Int) - 1) ∧ e1 5 = bw ∧ e1 6 = sw ∧ e1 8 = .pointer (some ⟨b8, 0, none⟩) ∧ e1 18 = .slice (some ⟨ub, uo, none⟩) L.length uc ∧ e1 19 = .int .i64 (L.length : Int) ∧ e1 20 = .int .i64 (i : Int) ∧ w1 = wb8) ?_ ?_
      · -- region 9
        refine WL.c rfl (o_mvh h6 ?_)
        refine WL.c rfl (o_lenR TI104 rfl (Sl.own hst) ?_)
        refine WL.c rfl (o_subi rfl rfl (by omega) ?_)
        refine WL.c rfl (o_ash (show _ = Value.int _ _ from rfl) ?_)
        exact WL.nil (⟨rfl, h5, h6, rfl, h18, h19, h20, rfl⟩)
      rintro e w ⟨h9, h5, h6, h8, h18, h19, h20, hw1⟩
      subst hw1
      refine W.seq ?_
      refine W.region ?_
      refine WL.c rfl (o_mvh h9 ?_)
      refine WL.c rfl (o_ge rfl rfl ?_)
      refine WL.nil ?_
      refine W.cut (fun e1 w1 => ∃ (x : Nd) (ks : Vts) (K1 : List Fr) (b1 : List UInt8) (bw1 sw1 : Value), L[i] = x ∧ (Vt.node x ks).wf ∧ L.drop (i + 1) = ks.flat ++ flatK K1 ∧ t.txt = b1 ++ ((Vt.node x ks).txt ++ restK K1) ∧ wfK K1 ∧ e1 5 = bw1 ∧ e1 6 = sw1 ∧ e1 8 = .pointer (some ⟨b8, 0, none⟩) ∧ e1 18 = .slice (some ⟨ub, uo, none⟩) L.length uc ∧ e1 19 = .int .i64 (L.length : Int) ∧ e1 20 = .int .i64 (i : Int) ∧ w1.ownsRow w0.heap.size 5 1 bw1 (b1).length ((b1).map bv) ∧ w1.ownsRow w0.heap.size 106 3 sw1 (K1).length (frs (K1)) ∧ K1.length ≤ i ∧ b1.length ≤ 1048578 ∧ w1.heap[b8]? = some (.cells (ndV x).toArray 69 (0, 0)) ∧ Ext w0 w1) ?_ ?_
      · -- both ways
        refine W.cond rfl (fun c28 => ?_) (fun c28 => ?_)
        · try simp only [decide_eq_true_eq, decide_eq_false_iff_not, Bool.not_eq_true', Bool.not_eq_false', Bool.and_eq_true, Bool.or_eq_true, Bool.and_eq_false_iff, Bool.or_eq_false_iff] at c28
          obtain ⟨f0, K, rfl⟩ : ∃ f0 K', K = f0 :: K' := by cases K with | nil => simp at c28 | cons f0 K' => exact ⟨f0, K', rfl⟩
          rcases hg with ⟨-, hg, -⟩ | ⟨hi0, ⟨hwK, hfl, htx⟩, htop⟩
          · cases hg
          have hf0 := htop f0 K rfl
          obtain ⟨kd, F, d⟩ := f0
          obtain ⟨x, ks, R, rfl⟩ := Vts.pos hf0
          replace h9 : e 9 = .int .i64 (K.length : Int) := h9.trans (by congr 1; simp)
          obtain ⟨sg, sc, rfl, hsg⟩ := own_some hst (by simp)
          replace hst : _ := hst
          have hxe : L[i] = x ∧ L.drop (i + 1) = ks.flat ++ (R.flat ++ flatK K) := by
            rw [hdr, flatK] at hfl
            simp only [Vts.flat, Vt.flat, List.cons_append, List.cons.injEq, List.append_assoc] at hfl
            exact hfl
          have hwx := hwK _ (List.mem_cons_self ..)
          have hwK1 : wfK (⟨kd, R, d + 1⟩ :: K) := fun f hf => by
            rcases List.mem_cons.1 hf with rfl | hf
            · have h2 := hwx.2
              simp only [Vts.len] at h2
              exact ⟨hwx.1.2, by show d + 1 + R.len ≤ _; omega⟩
            · exact hwK f (List.mem_cons_of_mem _ hf)
          refine W.seq ?_
          refine W.seq ?_
          refine W.region ?_
          refine WL.c rfl (o_mvh h6 ?_)
          refine WL.c rfl (o_mvh h9 ?_)
          refine WL.c rfl (o_ixB (i := K.length) TI104 TI106 (show _ = Value.slice (some ⟨sg, 0, none⟩) (K.length + 1) sc from by first | rfl | assumption) (show _ = Value.int .i64 (K.length : Int) from by first | rfl | assumption) (by omega) ?_)
          refine WL.c rfl (o_fa 2 TI106 rfl TI3 rfl rfl ?_)
          refine WL.c rfl (o_ld TI3 rfl rfl (own_cell (j := 0 + K.length * 3 + 2) hst (by rw [Nat.zero_add]; exact (frs_get (by decide)).trans rfl)) ?_)
          refine WL.c rfl (o_gt rfl rfl ?_)
          refine WL.nil ?_
          refine W.cut (fun e1 w1 => ∃ (b1 : List UInt8) (bw1 : Value), b1 = b ++ (if decide (0 < d) then [44, 32] else []) ∧ e1 5 = bw1 ∧ e1 6 = (.slice (some ⟨sg, 0, none⟩) (K.length + 1) sc) ∧ e1 8 = .pointer (some ⟨b8, 0, none⟩) ∧ e1 9 = .int .i64 (K.length : Int) ∧ e1 18 = .slice (some ⟨ub, uo, none⟩) L.length uc ∧ e1 19 = .int .i64 (L.length : Int) ∧ e1 20 = .int .i64 (i : Int) ∧ w1.ownsRow w0.heap.size 5 1 bw1 (b1).length ((b1).map bv) ∧ w1.ownsRow w0.heap.size 106 3 (.slice (some ⟨sg, 0, none⟩) (K.length + 1) sc) (K.length + 1) (frs (⟨kd, .cons (.node x ks) R, d⟩ :: K)) ∧ w1.heap[b8]? = some (.cells (ndV L[i]).toArray 69 (0, 0)) ∧ Ext w0 w1) ?_ ?_
          · -- both ways
            refine W.cond rfl (fun c34 => ?_) (fun c34 => ?_)
            · try simp only [decide_eq_true_eq, decide_eq_false_iff_not, Bool.not_eq_true', Bool.not_eq_false', Bool.and_eq_true, Bool.or_eq_true, Bool.and_eq_false_iff, Bool.or_eq_false_iff] at c34
              refine W.region ?_
              refine WL.c rfl (o_mvh h5 ?_)
              refine WL.c rfl (o_apS (w0.heap.size) TI73 TI5 TI9 rfl rfl hbo rfl (by rw [maxLen_eq]; show b.length + 2 ≤ _; omega) (by show b.length + 2 ≤ _; omega) hx.size ?_)
              intro v36 w36 hbo2 ho
              replace hst := own_only hst ho (fun b hb e => own_row_off hbo hst (by decide) b hb e)
              replace hC8 := ho.blk hC8 (fun h => own_off hbo hC8 (by decide) h)
              replace hx := hx.trans' ho (fun _ h => h) (fun b hb h => by have := hbo.lt b h; omega)
              replace hbo2 := by rw [← List.map_append, ← List.length_append] at hbo2; exact hbo2
              clear hbo ho
              have hbo := hbo2
              clear hbo2
              refine WL.c rfl (o_ash (by first | exact (show _ = Value.slice _ _ _ from rfl) | exact rfl) ?_)
              refine WL.nil ?_
              first | exact ⟨b ++ [44, 32], _, by rw [if_pos (decide_eq_true (by omega))], rfl, h6, h8, h9, h18, h19, h20, hbo, hst, hC8, hx⟩ | exact ⟨b, bw, by rw [if_neg (by simpa using c34)]; simp, h5, h6, h8, h9, h18, h19, h20, hbo, hst, hC8, hx⟩
            · try simp only [decide_eq_true_eq, decide_eq_false_iff_not, Bool.not_eq_true', Bool.not_eq_false', Bool.and_eq_true, Bool.or_eq_true, Bool.and_eq_false_iff, Bool.or_eq_false_iff] at c34
              refine W.skip ?_
              first | exact ⟨b ++ [44, 32], _, by rw [if_pos (decide_eq_true (by omega))], rfl, h6, h8, h9, h18, h19, h20, hbo, hst, hC8, hx⟩ | exact ⟨b, bw, by rw [if_neg (by simpa using c34)]; simp, h5, h6, h8, h9, h18, h19, h20, hbo, hst, hC8, hx⟩
          rintro e w ⟨b1, bw1, hb1, h5, h6, h8, h9, h18, h19, h20, hbo1, hst, hC8, hx⟩
          refine W.seq ?_
          have hbo := hbo1
          clear hbo1
          refine W.region ?_
          refine WL.c rfl (o_mvh h6 ?_)
          refine WL.c rfl (o_mvh h9 ?_)
          refine WL.c rfl (o_ixB (i := K.length) TI104 TI106 (show _ = Value.slice (some ⟨sg, 0, none⟩) (K.length + 1) sc from by first | rfl | assumption) (show _ = Value.int .i64 (K.length : Int) from by first | rfl | assumption) (by omega) ?_)
          refine WL.c rfl (o_fa 2 TI106 rfl TI3 rfl rfl ?_)
          refine WL.c rfl (o_ld TI3 rfl rfl (own_cell (j := 0 + K.length * 3 + 2) hst (by rw [Nat.zero_add]; exact (frs_get (by decide)).trans rfl)) ?_)
          refine WL.c rfl (o_addi rfl rfl (by have := hwx.2; omega) ?_)
          refine WL.c rfl (o_ixB (i := K.length) TI104 TI106 (show _ = Value.slice (some ⟨sg, 0, none⟩) (K.length + 1) sc from by first | rfl | assumption) (show _ = Value.int .i64 (K.length : Int) from by first | rfl | assumption) (by omega) ?_)
          refine WL.c rfl (o_fa 2 TI106 rfl TI3 rfl rfl ?_)
          refine WL.u (o_stRj TI3 rfl (show 0 + K.length * 3 + 2 = K.length * 3 + 2 by omega) (show _ = Value.int .i64 ((d : Int) + 1) from rfl) rfl hst (show (Value.slice (some ⟨sg, 0, none⟩) (K.length + 1) sc).ownBlock = some sg from rfl) (by omega) ?_)
          intro w44 hr44 ho44 hs44
          rw [frs_set (g := ⟨kd, .cons (.node x ks) R, d + 1⟩) (by simp [frV, Vts.len] <;> omega)] at hr44
          have hsl : w0.heap.size ≤ sg := (hst.lt sg rfl).1
          replace hbo := own_only hbo ho44 (fun b hb e => own_row_off hst hbo (by decide) b hb e)
          replace hC8 := ho44.blk hC8 (fun h => own_off hst hC8 (by decide) h)
          replace hx := hx.trans' ho44 (fun _ h => h) (fun b hb h => by have := hst.lt b h; omega)
          replace hst := hr44
          refine WL.nil ?_
          refine W.region ?_
          refine WL.c rfl (o_mvh h6 ?_)
          refine WL.c rfl (o_mvh h9 ?_)
          refine WL.c rfl (o_ixB (i := K.length) TI104 TI106 (show _ = Value.slice (some ⟨sg, 0, none⟩) (K.length + 1) sc from by first | rfl | assumption) (show _ = Value.int .i64 (K.length : Int) from by first | rfl | assumption) (by omega) ?_)
          refine WL.c rfl (o_fa 1 TI106 rfl TI3 rfl rfl ?_)
          refine WL.c rfl (o_ld TI3 rfl rfl (own_cell (j := 0 + K.length * 3 + 1) hst (by rw [Nat.zero_add]; exact (frs_get (by decide)).trans rfl)) ?_)
          refine WL.c rfl (o_subi (a := (((Vts.cons (Vt.node x ks) R).len : Nat) : Int)) (b := 1) rfl rfl (by have h2 : d + (Vts.cons (Vt.node x ks) R).len ≤ 1048576 := hwx.2; omega) ?_)
          refine WL.c rfl (o_ixB (i := K.length) TI104 TI106 (show _ = Value.slice (some ⟨sg, 0, none⟩) (K.length + 1) sc from by first | rfl | assumption) (show _ = Value.int .i64 (K.length : Int) from by first | rfl | assumption) (by omega) ?_)
          refine WL.c rfl (o_fa 1 TI106 rfl TI3 rfl rfl ?_)
          refine WL.u (o_stRj TI3 rfl (show 0 + K.length * 3 + 1 = K.length * 3 + 1 by omega) (show _ = Value.int .i64 (((Vts.cons (Vt.node x ks) R).len : Int) - 1) from rfl) rfl hst (show (Value.slice (some ⟨sg, 0, none⟩) (K.length + 1) sc).ownBlock = some sg from rfl) (by omega) ?_)
          intro w52 hr52 ho52 hs52
          rw [frs_set (g := ⟨kd, R, d + 1⟩) (by simp [frV, Vts.len] <;> omega)] at hr52
          have hsl : w0.heap.size ≤ sg := (hst.lt sg rfl).1
          replace hbo := own_only hbo ho52 (fun b hb e => own_row_off hst hbo (by decide) b hb e)
          replace hC8 := ho52.blk hC8 (fun h => own_off hst hC8 (by decide) h)
          replace hx := hx.trans' ho52 (fun _ h => h) (fun b hb h => by have := hst.lt b h; omega)
          replace hst := hr52
          refine WL.nil ?_
          first | exact ⟨x, ks, ⟨kd, R, d + 1⟩ :: K, b1, bw1, _, hxe.1, hwx.1.1, hxe.2, pr_step htx hb1, hwK1, h5, h6, h8, h18, h19, h20, hbo, hst, hKi, by rw [hb1, List.length_append]; split <;> simp <;> omega, hxe.1 ▸ hC8, hx⟩ | exact ⟨x, ks, [], [], bw, sw, hxe.1, hw, hxe.2, by simp [restK], fun f h => (by cases h), h5, h6, h8, h18, h19, h20, hbo, hst, Nat.zero_le _, Nat.zero_le _, hxe.1 ▸ hC8, hx⟩
        · try simp only [decide_eq_true_eq, decide_eq_false_iff_not, Bool.not_eq_true', Bool.not_eq_false', Bool.and_eq_true, Bool.or_eq_true, Bool.and_eq_false_iff, Bool.or_eq_false_iff] at c28
          have hKn : K = [] := by cases K with | nil => rfl | cons f0 K' => simp at c28
          subst hKn
          obtain ⟨rfl, rfl⟩ : i = 0 ∧ b = [] := by
            rcases hg with ⟨h1, -, h2⟩ | ⟨-, ⟨-, h2, -⟩, -⟩
            · exact ⟨h1, h2⟩
            · rw [hdr] at h2; cases h2
          obtain ⟨x, ks, hte⟩ : ∃ x ks, t = Vt.node x ks := by cases t; exact ⟨_, _, rfl⟩
          subst hte
          have hxe : L[0] = x ∧ L.drop (0 + 1) = ks.flat ++ flatK [] := by
            have h := hdr
            rw [List.drop_zero] at h
            have h2 : x :: ks.flat = L[0] :: L.drop (0 + 1) := by rw [← h]; exact hft
            simp only [List.cons.injEq] at h2
            exact ⟨h2.1.symm, by rw [← h2.2]; simp [flatK]⟩
          refine W.skip ?_
          first | exact ⟨x, ks, ⟨kd, R, d + 1⟩ :: K, b1, bw1, _, hxe.1, hwx.1.1, hxe.2, pr_step htx hb1, hwK1, h5, h6, h8, h18, h19, h20, hbo, hst, hKi, by rw [hb1, List.length_append]; split <;> simp <;> omega, hxe.1 ▸ hC8, hx⟩ | exact ⟨x, ks, [], [], bw, sw, hxe.1, hw, hxe.2, by simp [restK], fun f h => (by cases h), h5, h6, h8, h18, h19, h20, hbo, hst, Nat.zero_le _, Nat.zero_le _, hxe.1 ▸ hC8, hx⟩
      rintro e w ⟨x, ks, K1, b1, bw1, sw1, hLx, hwn, hfl, htx, hwK, h5, h6, h8, h18, h19, h20, hbo, hst, hKi, hbl, hC8, hx⟩
      refine W.seq ?_
      have hxn : x.n < 18446744073709551616 := by rw [← hLx]; exact hN _ (List.getElem_mem hi1)
      have hks := hwn.2.1
      have hkb := right_kids hwn.1
      refine W.region ?_
      refine WL.c rfl (o_mvh h5 ?_)
      refine WL.c rfl (o_ldA TI69 rfl h8 (show Cells _ b8 0 (ndV x) from Cells.of hC8 0 _ (by simp)) rfl ?_)
      refine WL.c rfl (o_call Tryd.call45 (lc rfl ln) ((vleaf_spec x hxn _ (hT.ext hx) (by have := hx.size; omega)).mono ?_))
      rintro v55 w55 ⟨rfl, hx55⟩
      replace hx := hx.tr hx55
      replace hbo := own_ext hbo hx55
      replace hst := own_ext hst hx55
      replace hC8 := hx55.blk hC8 (fun h => h)
      refine WL.c rfl (o_apS (w0.heap.size) TI73 TI5 TI9 rfl rfl hbo rfl (by rw [maxLen_eq]; have := leafT_le hxn; omega) (by have := leafT_le hxn; omega) hx.size ?_)
      intro v56 w56 hbo2 ho
      replace hst := own_only hst ho (fun b hb e => own_row_off hbo hst (by decide) b hb e)
      replace hC8 := ho.blk hC8 (fun h => own_off hbo hC8 (by decide) h)
      replace hx := hx.trans' ho (fun _ h => h) (fun b hb h => by have := hbo.lt b h; omega)
      replace hbo2 := by rw [← List.map_append, ← List.length_append] at hbo2; exact hbo2
      clear hbo ho
      have hbo := hbo2
      clear hbo2
      refine WL.c rfl (o_ash (by first | exact (show _ = Value.slice _ _ _ from rfl) | exact rfl) ?_)
      refine WL.nil ?_
      refine W.seq ?_
      refine W.region ?_
      refine WL.c rfl (o_mvh h6 ?_)
      refine WL.c rfl (o_fa 0 TI69 rfl TI3 rfl h8 ?_)
      refine WL.c rfl (o_ld TI3 rfl rfl (cell_of hC8 rfl) ?_)
      refine WL.c rfl (o_fa 2 TI69 rfl TI3 rfl h8 ?_)
      refine WL.c rfl (o_ld TI3 rfl rfl (cell_of hC8 rfl) ?_)
      refine WL.c rfl (o_bldC (cs := [_, _, (.int .i64 0)]) TI106 (Sizes.cons TI3 (Sizes.cons TI3 (Sizes.cons TI3 Sizes.nil))) rfl (lcp (show _ = Value.int _ _ from rfl) (lcp (show _ = Value.int _ _ from rfl) lnp)) rfl rfl ?_)
      refine WL.ap1 (w0.heap.size) rfl rfl TI104 TI106 (show _ = Value.agg #[.int .i64 x.kind, .int .i64 x.kids, .int .i64 0] from rfl) rfl hst (by decide) (by decide) rfl (fun a ha => by simp [Value.cells] at ha; rcases ha with rfl | rfl | rfl <;> rfl) rfl (by rw [maxLen_eq]; omega) (by omega) hx.size ?_
      intro v64 w64 hst2 ho
      replace hbo := own_only hbo ho (fun b hb e => own_row_off hst hbo (by decide) b hb e)
      replace hx := hx.trans' ho (fun _ h => h) (fun b hb h => by have := hst.lt b h; omega)
      replace hst2 : w64.ownsRow w0.heap.size 106 3 v64 (⟨x.kind, ks, 0⟩ :: K1 : List Fr).length (frs (⟨x.kind, ks, 0⟩ :: K1)) := by rw [frs_cons]; rw [← hks] at hst2; exact hst2
      clear hst ho hC8
      have hst := hst2
      clear hst2
      have hG : PrG L t.txt (i + 1) (⟨x.kind, ks, 0⟩ :: K1) (b1 ++ leafT x) := ⟨fun f hf => by
        rcases List.mem_cons.1 hf with rfl | hf
        · exact ⟨hwn.2.2, by show 0 + ks.len ≤ _; omega⟩
        · exact hwK f hf, hfl, by rw [htx]; simp [restK, Vt.txt, List.append_assoc]⟩
      have hlf := leafT_le hxn
      clear hwK htx hfl
      refine WL.c rfl (o_ash (by first | exact (show _ = Value.slice _ _ _ from rfl) | exact rfl) ?_)
      refine WL.nil ?_
      refine W.seq ?_
      refine W.seq ?_
      refine W.region ?_
      refine WL.c rfl (o_mvh (by first | exact (show _ = Value.slice _ _ _ from rfl) | exact rfl) ?_)
      refine WL.c rfl (o_lenR TI104 rfl (Sl.own hst) ?_)
      refine WL.c rfl (o_subi rfl rfl (by rw [List.length_cons]; omega) ?_)
      refine WL.c rfl (o_ash (show _ = Value.int _ _ from rfl) ?_)
      refine WL.nil ?_
      refine W.block ?_
      refine W.loop (fun e w => ∃ (K : List Fr) (b : List UInt8) (bw sw : Value), e 5 = bw ∧ e 6 = sw ∧ e 10 = .int .i64 ((K.length : Int) - 1) ∧ e 18 = .slice (some ⟨ub, uo, none⟩) L.length uc ∧ e 19 = .int .i64 (L.length : Int) ∧ e 20 = .int .i64 (i : Int) ∧ w.ownsRow w0.heap.size 5 1 bw b.length (b.map bv) ∧ w.ownsRow w0.heap.size 106 3 sw K.length (frs K) ∧ PrG L t.txt (i + 1) K b ∧ K.length ≤ i + 1 ∧ b.length + K.length ≤ 1048603 + (i + 1) ∧ Ext w0 w) (fun e w => (intOf (e 10) + 1).toNat) ?_ ?_
      · exact ⟨⟨x.kind, ks, 0⟩ :: K1, b1 ++ leafT x, _, _, rfl, rfl, rfl, h18, h19, h20, hbo, hst, hG, by simp only [List.length_cons]; omega, by rw [List.length_append, List.length_cons]; omega, hx⟩
      rintro e w ⟨K, b, bw, sw, h5, h6, h10, h18, h19, h20, hbo, hst, hG, hKi, hbl, hx⟩
      have hm10 := h10
      refine W.seq ?_
      refine W.seq ?_
      by_cases hKn : K = []
      · skip
        subst hKn
        refine W.region ?_
        refine WL.c rfl (o_mvh h10 ?_)
        refine WL.c rfl (o_ge rfl rfl ?_)
        refine WL.c rfl (o_mvh (show _ = Value.bool _ from rfl) ?_)
        refine WL.s rfl (by simp) rfl ?_
        refine WL.s rfl (by simp) rfl ?_
        refine WL.s rfl (by simp) rfl ?_
        refine WL.s rfl (by simp) rfl ?_
        refine WL.s rfl (by simp) rfl ?_
        refine WL.s rfl (by simp) rfl ?_
        refine WL.c rfl (o_pickF rfl (by simp) ?_)
        refine WL.nil ?_
        refine W.condF' rfl (rfl) ?_
        refine W.exit ?_
        refine W.seq ?_
        refine W.region ?_
        refine WL.c rfl (o_mvh h5 ?_)
        refine WL.c rfl (o_lenR TI73 rfl (Sl.own hbo) ?_)
        refine WL.c rfl (o_gt rfl rfl ?_)
        refine WL.nil ?_
        refine W.cond rfl (fun c93 => ?_) (fun c93 => ?_)
        · try simp only [decide_eq_true_eq, decide_eq_false_iff_not, Bool.not_eq_true', Bool.not_eq_false', Bool.and_eq_true, Bool.or_eq_true, Bool.and_eq_false_iff, Bool.or_eq_false_iff] at c93
          have hlong : 1048576 < t.txt.length := by rw [hG.2.2, List.length_append]; omega
          refine W.seq ?_
          refine W.region ?_
          refine WL.c rfl (o_ash (show _ = Value.string _ from rfl) ?_)
          refine WL.c rfl (o_ash (show _ = Value.int _ _ from rfl) ?_)
          refine WL.nil ?_
          refine W.ret ?_
          refine ret2v rfl (show _ = Value.string _ from rfl) (show _ = Value.int _ _ from rfl) ?_
          exact ⟨hx, fun h => absurd hc h, fun t' hw' hf' => by rw [flat_inj hw' hw (hf'.trans hft.symm), if_pos hlong]⟩
        · try simp only [decide_eq_true_eq, decide_eq_false_iff_not, Bool.not_eq_true', Bool.not_eq_false', Bool.and_eq_true, Bool.or_eq_true, Bool.and_eq_false_iff, Bool.or_eq_false_iff] at c93
          have hbl2 : b.length ≤ 1048576 := by omega
          have htop : ∀ (f : Fr) (K' : List Fr), ([] : List Fr) = f :: K' → 0 < f.rest.len := fun f K' h => by cases h
          refine W.skip ?_
          refine W.region ?_
          refine WL.c rfl (o_addi h20 rfl (by omega) ?_)
          refine WL.c rfl (o_mvh (show _ = Value.int _ _ from rfl) ?_)
          refine WL.nil ?_
          refine ⟨⟨i + 1, _, b, bw, _, by omega, h5, h6, h18.trans hv.symm, h19, rfl, hbo, hst, .inr ⟨by omega, hG, htop⟩, by simp only [List.length_cons, List.length_nil] at hKi ⊢; omega, by omega, hx⟩, ?_⟩
          show L.length - ((i : Int) + 1).toNat < _
          rw [hm20]; simp [intOf]; omega
      · skip
        obtain ⟨f0, K, rfl⟩ : ∃ f0 K', K = f0 :: K' := by cases K with | nil => exact absurd rfl hKn | cons f0 K' => exact ⟨f0, K', rfl⟩
        obtain ⟨kd, F, d⟩ := f0
        obtain ⟨sg, sc, rfl, hsg⟩ := own_some hst (by simp)
        have hsc : K.length + 1 ≤ sc := by obtain ⟨a, c, h1, h2⟩ := own_form hst; cases h1; exact h2
        replace h10 : e 10 = .int .i64 (K.length : Int) := h10.trans (by congr 1; simp)
        refine W.region ?_
        refine WL.c rfl (o_mvh h10 ?_)
        refine WL.c rfl (o_ge rfl rfl ?_)
        refine WL.c rfl (o_mvh (show _ = Value.bool _ from rfl) ?_)
        refine WL.g rfl (by simp) rfl (o_mvh h6 ?_)
        refine WL.g rfl (by simp) rfl (o_mvh h10 ?_)
        refine WL.g rfl (by simp) rfl (o_ixB (i := K.length) TI104 TI106 (show _ = Value.slice (some ⟨sg, 0, none⟩) (K.length + 1) sc from by first | rfl | assumption) (show _ = Value.int .i64 (K.length : Int) from by first | rfl | assumption) (by omega) ?_)
        refine WL.g rfl (by simp) rfl (o_fa 1 TI106 rfl TI3 rfl rfl ?_)
        refine WL.g rfl (by simp) rfl (o_ld TI3 rfl rfl (own_cell (j := 0 + K.length * 3 + 1) hst (by rw [Nat.zero_add]; exact (frs_get (by decide)).trans rfl)) ?_)
        refine WL.g rfl (by simp) rfl (o_eq rfl rfl ?_)
        refine WL.c rfl (o_pickA rfl rfl ?_)
        refine WL.nil ?_
        refine W.cond rfl (fun c77 => ?_) (fun c77 => ?_)
        · try simp only [decide_eq_true_eq, decide_eq_false_iff_not, Bool.not_eq_true', Bool.not_eq_false', Bool.and_eq_true, Bool.or_eq_true, Bool.and_eq_false_iff, Bool.or_eq_false_iff] at c77
          obtain rfl : F = .nil := Vts.nil_of (by simpa using c77)
          refine W.skip ?_
          refine W.seq ?_
          refine W.block ?_
          refine W.seq ?_
          refine W.region ?_
          refine WL.c rfl (o_mvh h5 ?_)
          refine WL.c rfl (o_mvh h6 ?_)
          refine WL.c rfl (o_mvh h10 ?_)
          refine WL.c rfl (o_ixB (i := K.length) TI104 TI106 (show _ = Value.slice (some ⟨sg, 0, none⟩) (K.length + 1) sc from by first | rfl | assumption) (show _ = Value.int .i64 (K.length : Int) from by first | rfl | assumption) (by omega) ?_)
          refine WL.c rfl (o_fa 0 TI106 rfl TI3 rfl rfl ?_)
          refine WL.c rfl (o_ld TI3 rfl rfl (own_cell (j := 0 + K.length * 3 + 0) hst (by rw [Nat.zero_add]; exact (frs_get (by decide)).trans rfl)) ?_)
          refine WL.c rfl (o_call Tryd.call46 (lc rfl ln) ((vshut_spec kd _).mono ?_))
          rintro v86 w86 ⟨rfl, rfl⟩
          refine WL.c rfl (o_apS (w0.heap.size) TI73 TI5 TI9 rfl rfl hbo rfl (by rw [maxLen_eq]; have := shutT_le kd; simp only [List.length_cons] at hbl; omega) (by have := shutT_le kd; simp only [List.length_cons] at hbl; omega) hx.size ?_)
          intro v87 w87 hbo2 ho
          replace hst := own_only hst ho (fun b hb e => own_row_off hbo hst (by decide) b hb e)
          replace hx := hx.trans' ho (fun _ h => h) (fun b hb h => by have := hbo.lt b h; omega)
          replace hbo2 := by rw [← List.map_append, ← List.length_append] at hbo2; exact hbo2
          clear hbo ho
          have hbo := hbo2
          clear hbo2
          refine WL.c rfl (o_ash (by first | exact (show _ = Value.slice _ _ _ from rfl) | exact rfl) ?_)
          refine WL.nil ?_
          refine W.region ?_
          refine WL.c rfl (o_mvh h6 ?_)
          refine WL.c rfl (o_mvh h10 ?_)
          refine WL.c rfl (o_sl0 TI104 TI106 rfl rfl (by omega) ?_)
          refine WL.c rfl (o_ash (by first | exact (show _ = Value.slice _ _ _ from rfl) | exact rfl) ?_)
          refine WL.nil ?_
          refine W.region ?_
          refine WL.c rfl (o_mvh h10 ?_)
          refine WL.c rfl (o_subi rfl rfl (by simp only [List.length_cons] at hKi; omega) ?_)
          refine WL.c rfl (o_ash (show _ = Value.int _ _ from rfl) ?_)
          refine WL.nil ?_
          refine ⟨⟨K, b ++ shutT kd, v87, .slice (some ⟨sg, 0, none⟩) K.length sc, rfl, rfl, rfl, h18, h19, h20, hbo, (by have h := own_take hst (show K.length ≤ K.length + 1 by omega); rw [take_3] at h; exact h), ?_, by simp only [List.length_cons] at hKi; omega, ?_, hx⟩, ?_⟩
          · refine ⟨fun f hf => hG.1 f (List.mem_cons_of_mem _ hf), by rw [hG.2.1]; simp [flatK, Vts.flat], by rw [hG.2.2]; simp [restK, Vts.txtS]⟩
          · have := shutT_le kd
            rw [List.length_append]; simp only [List.length_cons] at hbl; omega
          · show ((K.length : Int) - 1 + 1).toNat < _
            rw [hm10]; simp only [intOf, List.length_cons]; omega
        · try simp only [decide_eq_true_eq, decide_eq_false_iff_not, Bool.not_eq_true', Bool.not_eq_false', Bool.and_eq_true, Bool.or_eq_true, Bool.and_eq_false_iff, Bool.or_eq_false_iff] at c77
          have hF : 0 < F.len := by omega
          refine W.exit ?_
          refine W.seq ?_
          refine W.region ?_
          refine WL.c rfl (o_mvh h5 ?_)
          refine WL.c rfl (o_lenR TI73 rfl (Sl.own hbo) ?_)
          refine WL.c rfl (o_gt rfl rfl ?_)
          refine WL.nil ?_
          refine W.cond rfl (fun c93 => ?_) (fun c93 => ?_)
          · try simp only [decide_eq_true_eq, decide_eq_false_iff_not, Bool.not_eq_true', Bool.not_eq_false', Bool.and_eq_true, Bool.or_eq_true, Bool.and_eq_false_iff, Bool.or_eq_false_iff] at c93
            have hlong : 1048576 < t.txt.length := by rw [hG.2.2, List.length_append]; omega
            refine W.seq ?_
            refine W.region ?_
            refine WL.c rfl (o_ash (show _ = Value.string _ from rfl) ?_)
            refine WL.c rfl (o_ash (show _ = Value.int _ _ from rfl) ?_)
            refine WL.nil ?_
            refine W.ret ?_
            refine ret2v rfl (show _ = Value.string _ from rfl) (show _ = Value.int _ _ from rfl) ?_
            exact ⟨hx, fun h => absurd hc h, fun t' hw' hf' => by rw [flat_inj hw' hw (hf'.trans hft.symm), if_pos hlong]⟩
          · try simp only [decide_eq_true_eq, decide_eq_false_iff_not, Bool.not_eq_true', Bool.not_eq_false', Bool.and_eq_true, Bool.or_eq_true, Bool.and_eq_false_iff, Bool.or_eq_false_iff] at c93
            have hbl2 : b.length ≤ 1048576 := by simp only [List.length_cons] at hbl; omega
            have htop : ∀ (f : Fr) (K' : List Fr), (⟨kd, F, d⟩ :: K) = f :: K' → 0 < f.rest.len := fun f K' h => by cases h; exact hF
            refine W.skip ?_
            refine W.region ?_
            refine WL.c rfl (o_addi h20 rfl (by omega) ?_)
            refine WL.c rfl (o_mvh (show _ = Value.int _ _ from rfl) ?_)
            refine WL.nil ?_
            refine ⟨⟨i + 1, _, b, bw, _, by omega, h5, h6, h18.trans hv.symm, h19, rfl, hbo, hst, .inr ⟨by omega, hG, htop⟩, by simp only [List.length_cons, List.length_nil] at hKi ⊢; omega, by omega, hx⟩, ?_⟩
            show L.length - ((i : Int) + 1).toNat < _
            rw [hm20]; simp [intOf]; omega
    · try simp only [decide_eq_true_eq, decide_eq_false_iff_not, Bool.not_eq_true', Bool.not_eq_false', Bool.and_eq_true, Bool.or_eq_true, Bool.and_eq_false_iff, Bool.or_eq_false_iff] at c21
      have hi1 : i = L.length := by omega
      have htb : t.txt = b := by
        rcases hg with ⟨h1, -, -⟩ | ⟨-, ⟨-, h2, h3⟩, h4⟩
        · have := t.flat_pos; rw [hft] at this; omega
        · rw [hi1, List.drop_length] at h2
          cases K with
          | nil => rw [h3]; simp [restK]
          | cons f K' =>
            have h5 := h4 f K' rfl
            obtain ⟨x, ks, G, h6⟩ := Vts.pos h5
            rw [flatK, h6] at h2
            simp [Vts.flat, Vt.flat] at h2
      refine W.exit ?_
      refine W.seq ?_
      refine W.region ?_
      refine WL.c rfl (o_mvh h5 ?_)
      refine WL.c rfl (o_cvBS TI73 TI5 TI9 rfl (Sl.own hbo) ?_)
      refine WL.c rfl (o_ash (show _ = Value.string _ from rfl) ?_)
      refine WL.c rfl (o_ash (show _ = Value.int _ _ from rfl) ?_)
      refine WL.nil ?_
      refine W.ret ?_
      refine ret2v rfl (show _ = Value.string _ from rfl) (show _ = Value.int _ _ from rfl) ?_
      exact ⟨hx, fun h => absurd hc h, fun t' hw' hf' => by rw [flat_inj hw' hw (hf'.trans hft.symm), htb, if_neg (by omega)]⟩
end Go.Proofs.YtgmjfcekeglhjaaDoor

set_option linter.unusedSimpArgs false
set_option linter.unusedVariables false
set_option maxRecDepth 100000
namespace Go.Proofs.YtgmjfcekeglhjaaDoor
open Go Go.Vc Go.RowKit Go.Proofs

/-- an open node: the kids that are whole -/
structure Zf where
  kind : Int
  n : Nat
  done : Vts
inductive Md where
  | bgn
  | sq1
  | num (n : Nat)
  | tag0
  | tag (n : Nat)
  | word (c : UInt8) (w : List UInt8) (t : Option Vt)
  | aft (t : Vt)
def lf (k : Int) (n : Nat) : Vt := .node ⟨k, n, 0⟩ .nil
def Vts.snoc (a : Vts) (t : Vt) : Vts := a.app (.cons t .nil)
def clz (f : Zf) (t : Vt) : Vt := .node ⟨f.kind, f.n, (f.done.len : Int) + 1⟩ (f.done.snoc t)
def isD (c : UInt8) : Bool := decide (48 ≤ c.toNat) && decide (c.toNat ≤ 57)
def dg (c : UInt8) : Nat := c.toNat - 48
def aftS (t : Vt) : List Zf → UInt8 → Option (Md × List Zf)
  | [], _ => none
  | f :: K, c =>
    if (f.kind = 3 ∨ f.kind = 4) ∧ c = 44 ∧ (f.done.len : Int) + 1 < mostK f.kind then some (.word 32 [] none, { f with done := f.done.snoc t } :: K)
    else match shutT f.kind with
      | [] => aftS (clz f t) K c
      | s :: _ => if c = s then some (.aft (clz f t), K) else none
def bgnS (K : List Zf) (c : UInt8) : Option (Md × List Zf) :=
  if c = 116 then some (.word 114 [117, 101] (some (lf 2 1)), K)
  else if c = 102 then some (.word 97 [108, 115, 101] (some (lf 2 0)), K)
  else if c = 110 then some (.word 111 [110, 101] (some (lf 5 0)), K)
  else if c = 115 then some (.word 111 [109, 101, 32] none, ⟨5, 0, .nil⟩ :: K)
  else if c = 91 then some (.sq1, K)
  else if c = 123 then some (.bgn, ⟨4, 0, .nil⟩ :: K)
  else if c = 60 then some (.tag0, K)
  else if isD c = true then some (.num (dg c), K)
  else none
def stepZ : Md → List Zf → UInt8 → Option (Md × List Zf)
  | .bgn, K, c => bgnS K c
  | .sq1, K, c => if c = 93 then some (.aft (lf 3 0), K) else bgnS (⟨3, 0, .nil⟩ :: K) c
  | .num n, K, c => if isD c = true then (if n = 0 ∨ (18446744073709551615 - dg c) / 10 < n then none else some (.num (10 * n + dg c), K)) else aftS (lf 1 n) K c
  | .tag0, K, c => if isD c = true then some (.tag (dg c), K) else none
  | .tag n, K, c => if isD c = true then (if n = 0 ∨ (255 - dg c) / 10 < n then none else some (.tag (10 * n + dg c), K)) else if c = 58 then some (.bgn, ⟨6, n, .nil⟩ :: K) else none
  | .word a w t, K, c => if c = a then (match w, t with | b :: w, t => some (.word b w t, K) | [], some t => some (.aft t, K) | [], none => some (.bgn, K)) else none
  | .aft t, K, c => aftS t K c
def finA (t : Vt) : List Zf → Option Vt
  | [] => some t
  | f :: K => if shutT f.kind = [] then finA (clz f t) K else none
def finZ : Md → List Zf → Option Vt
  | .num n, K => finA (lf 1 n) K
  | .aft t, K => finA t K
  | _, _ => none
/-- the value, or the place of the byte at which no value's text goes on -/
def prsZ : Md → List Zf → List UInt8 → Nat → Option Vt × Nat
  | m, K, [], i => match finZ m K with | some t => (some t, 0) | none => (none, i)
  | m, K, c :: l, i => match stepZ m K c with | some s => prsZ s.1 s.2 l (i + 1) | none => (none, i)
def parZ (T : List UInt8) : Option Vt × Nat := prsZ .bgn [] T 0
theorem snoc_len (a : Vts) (t : Vt) : (a.snoc t).len = a.len + 1 := by rw [Vts.snoc, Vts.app_len]; rfl
theorem snoc_flat (a : Vts) (t : Vt) : (a.snoc t).flat = a.flat ++ t.flat := by rw [Vts.snoc, Vts.app_flat]; simp [Vts.flat]
theorem clz_flat (f : Zf) (t : Vt) : (clz f t).flat = ⟨f.kind, f.n, (f.done.len : Int) + 1⟩ :: (f.done.flat ++ t.flat) := by rw [clz, Vt.flat, snoc_flat]
def tOk (t : Vt) : Prop := t.wf ∧ NOk t.flat
theorem isD_dg {c : UInt8} (h : isD c = true) : dg c < 10 ∧ c = UInt8.ofNat (48 + dg c) := by
  simp only [isD, Bool.and_eq_true, decide_eq_true_eq] at h
  unfold dg
  refine ⟨by omega, ?_⟩
  rw [show 48 + (c.toNat - 48) = c.toNat by omega, UInt8.ofNat_toNat]
end Go.Proofs.YtgmjfcekeglhjaaDoor

set_option linter.unusedSimpArgs false
set_option linter.unusedVariables false
set_option maxRecDepth 100000
namespace Go.Proofs.YtgmjfcekeglhjaaDoor
open Go Go.Vc Go.RowKit Go.Proofs

def ndH (l : List UInt8) : Prop := ∀ c l', l = c :: l' → isD c = false
theorem ndH_nil : ndH [] := fun _ _ h => by cases h
theorem ndH_cons {c : UInt8} {l : List UInt8} (h : isD c = false) : ndH (c :: l) := fun _ _ e => by cases e; exact h
theorem prs_cons (m : Md) (K : List Zf) (c : UInt8) (l : List UInt8) (i : Nat) : prsZ m K (c :: l) i = match stepZ m K c with | some s => prsZ s.1 s.2 l (i + 1) | none => (none, i) := by
  first
    | rfl
    | (rw [prsZ]; done)
    | (rw [prsZ]; cases stepZ m K c <;> rfl)
theorem prs_step {m : Md} {K : List Zf} {c : UInt8} {m' : Md} {K' : List Zf} (h : stepZ m K c = some (m', K')) (l : List UInt8) (i : Nat) : prsZ m K (c :: l) i = prsZ m' K' l (i + 1) := by rw [prs_cons, h]
theorem dig_nat {d : Nat} (h : d < 10) : (UInt8.ofNat (48 + d)).toNat = 48 + d := by rw [UInt8.toNat_ofNat']; omega
theorem dig_isD {d : Nat} (h : d < 10) : isD (UInt8.ofNat (48 + d)) = true ∧ dg (UInt8.ofNat (48 + d)) = d := by
  have h1 := dig_nat h
  refine ⟨by unfold isD; rw [h1]; simp; omega, by unfold dg; rw [h1]; omega⟩
theorem dig_ne {d : Nat} (h : d < 10) {k : UInt8} (hk : 58 ≤ k.toNat) : UInt8.ofNat (48 + d) ≠ k := fun e => by
  have h1 := dig_nat h
  rw [e] at h1
  omega
theorem bgn_dig {K : List Zf} {d : Nat} (h : d < 10) : bgnS K (UInt8.ofNat (48 + d)) = some (.num d, K) := by
  obtain ⟨h1, h2⟩ := dig_isD h
  unfold bgnS
  rw [if_neg (dig_ne h (by decide)), if_neg (dig_ne h (by decide)), if_neg (dig_ne h (by decide)), if_neg (dig_ne h (by decide)), if_neg (dig_ne h (by decide)), if_neg (dig_ne h (by decide)), if_neg (dig_ne h (by decide)), if_pos h1, h2]
theorem run_num (K : List Zf) : ∀ (n : Nat), n < 18446744073709551616 → ∀ (l : List UInt8) (i : Nat), prsZ .bgn K (digL n ++ l) i = prsZ (.num n) K l (i + (digL n).length) := by
  intro n
  induction n using Nat.strongRecOn with
  | _ n ih =>
    intro hn l i
    by_cases h : n < 10
    · rw [digL_lt h]
      exact prs_step (m := .bgn) (show stepZ .bgn K _ = _ from bgn_dig h) l i
    · have hd : n % 10 < 10 := Nat.mod_lt _ (by decide)
      obtain ⟨h1, h2⟩ := dig_isD hd
      rw [digL_ge h, List.append_assoc, ih (n / 10) (by omega) (by omega), List.length_append, List.singleton_append, ← Nat.add_assoc]
      refine prs_step ?_ l _
      show (if isD _ = true then _ else _) = _
      rw [if_pos h1, h2, if_neg (by omega), show 10 * (n / 10) + n % 10 = n by omega]
theorem run_tag (K : List Zf) : ∀ (n : Nat), n ≤ 255 → ∀ (l : List UInt8) (i : Nat), prsZ .tag0 K (digL n ++ l) i = prsZ (.tag n) K l (i + (digL n).length) := by
  intro n
  induction n using Nat.strongRecOn with
  | _ n ih =>
    intro hn l i
    by_cases h : n < 10
    · rw [digL_lt h]
      obtain ⟨h1, h2⟩ := dig_isD h
      refine prs_step ?_ l i
      show (if isD _ = true then _ else _) = _
      rw [if_pos h1, h2]
    · have hd : n % 10 < 10 := Nat.mod_lt _ (by decide)
      obtain ⟨h1, h2⟩ := dig_isD hd
      rw [digL_ge h, List.append_assoc, ih (n / 10) (by omega) (by omega), List.length_append, List.singleton_append, ← Nat.add_assoc]
      refine prs_step ?_ l _
      show (if isD _ = true then _ else _) = _
      rw [if_pos h1, h2, if_neg (by omega), show 10 * (n / 10) + n % 10 = n by omega]
theorem word_v {K : List Zf} {t : Vt} : ∀ (w : List UInt8) (a : UInt8) (l : List UInt8) (i : Nat), prsZ (.word a w (some t)) K (a :: (w ++ l)) i = prsZ (.aft t) K l (i + 1 + w.length)
  | [], a, l, i => prs_step (by unfold stepZ; simp) l i
  | b :: w, a, l, i => by
    rw [prs_step (m' := .word b w (some t)) (K' := K) (by unfold stepZ; simp), List.cons_append, word_v w b l (i + 1), List.length_cons]
    congr 1
    omega
theorem word_b {K : List Zf} : ∀ (w : List UInt8) (a : UInt8) (l : List UInt8) (i : Nat), prsZ (.word a w none) K (a :: (w ++ l)) i = prsZ .bgn K l (i + 1 + w.length)
  | [], a, l, i => prs_step (by unfold stepZ; simp) l i
  | b :: w, a, l, i => by
    rw [prs_step (m' := .word b w none) (K' := K) (by unfold stepZ; simp), List.cons_append, word_b w b l (i + 1), List.length_cons]
    congr 1
    omega
theorem num_aft {K : List Zf} {n : Nat} {l : List UInt8} {i : Nat} (h : ndH l) : prsZ (.num n) K l i = prsZ (.aft (lf 1 n)) K l i := by
  cases l with
  | nil => rfl
  | cons c l =>
    rw [prs_cons, prs_cons]
    show (match (if isD c = true then _ else aftS (lf 1 n) K c) with | some s => _ | none => _) = _
    rw [if_neg (by rw [h c l rfl]; decide)]
    rfl
theorem aft_close {f : Zf} {K : List Zf} {t : Vt} {l : List UInt8} {i : Nat} (hk : f.kind = 3 ∨ f.kind = 4 ∨ f.kind = 5 ∨ f.kind = 6) : prsZ (.aft t) (f :: K) (shutT f.kind ++ l) i = prsZ (.aft (clz f t)) K l (i + (shutT f.kind).length) := by
  by_cases h5 : f.kind = 5
  · have hs : shutT f.kind = [] := by rw [h5]; rfl
    rw [hs]
    cases l with
    | nil =>
      rw [List.append_nil, prsZ, prsZ]
      show (match finA t (f :: K) with | some t => _ | none => _) = _
      rw [finA, if_pos hs]
      rfl
    | cons c l =>
      rw [List.nil_append, prs_cons, prs_cons]
      show (match aftS t (f :: K) c with | some s => _ | none => _) = _
      rw [aftS, if_neg (by omega), hs]
      rfl
  · obtain ⟨s, hs, h44⟩ : ∃ s, shutT f.kind = [s] ∧ ¬ s = 44 := by
      rcases hk with h | h | h | h
      · exact ⟨93, by rw [h]; rfl, by decide⟩
      · exact ⟨125, by rw [h]; rfl, by decide⟩
      · exact absurd h h5
      · exact ⟨62, by rw [h]; rfl, by decide⟩
    rw [hs]
    refine prs_step ?_ l i
    show aftS t (f :: K) s = _
    rw [aftS, if_neg (fun h => h44 h.2.1), hs]
    simp
theorem leaf_head {x : Nd} (h : rightN x = true) (hn : x.n < 18446744073709551616) : ∃ c l, leafT x = c :: l ∧ c ≠ 93 := by
  have hk : x.kind = 1 ∨ x.kind = 2 ∨ x.kind = 3 ∨ x.kind = 4 ∨ x.kind = 5 ∨ x.kind = 6 := by
    simp [rightN, numB] at h
    omega
  unfold leafT
  rcases hk with h1 | h1 | h1 | h1 | h1 | h1 <;> rw [h1]
  · rw [if_pos rfl]
    have : ∀ n : Nat, ∃ d l, d < 10 ∧ digL n = UInt8.ofNat (48 + d) :: l := by
      intro n
      induction n using Nat.strongRecOn with
      | _ n ih =>
        by_cases h : n < 10
        · exact ⟨n, [], h, digL_lt h⟩
        · obtain ⟨d, l, h2, h3⟩ := ih (n / 10) (by omega)
          exact ⟨d, l ++ [UInt8.ofNat (48 + n % 10)], h2, by rw [digL_ge h, h3]; rfl⟩
    obtain ⟨d, l, h2, h3⟩ := this x.n
    exact ⟨_, l, h3, dig_ne h2 (by decide)⟩
  · rw [if_neg (by omega), if_pos rfl]
    split
    · exact ⟨_, _, rfl, by decide⟩
    · exact ⟨_, _, rfl, by decide⟩
  · exact ⟨_, _, rfl, by decide⟩
  · exact ⟨_, _, rfl, by decide⟩
  · rw [if_neg (by omega), if_neg (by omega), if_neg (by omega), if_neg (by omega), if_neg (by omega)]
    split
    · exact ⟨_, _, rfl, by decide⟩
    · exact ⟨_, _, rfl, by decide⟩
  · exact ⟨_, _, rfl, by decide⟩
theorem sq1_bgn {K : List Zf} {t : Vt} {l : List UInt8} {i : Nat} (h : tOk t) : prsZ .sq1 K (t.txt ++ l) i = prsZ .bgn (⟨3, 0, .nil⟩ :: K) (t.txt ++ l) i := by
  cases t with
  | node x ks =>
    obtain ⟨c, m, h1, h2⟩ := leaf_head h.1.1 (h.2 x (List.mem_cons_self ..))
    rw [Vt.txt, h1, List.cons_append, List.cons_append, prs_cons, prs_cons]
    show (match (if c = 93 then _ else bgnS (⟨3, 0, .nil⟩ :: K) c) with | some s => _ | none => _) = _
    rw [if_neg h2]
    rfl
def tsOk (ts : Vts) : Prop := ts.wf ∧ NOk ts.flat
theorem ndH_shut {k : Int} {l : List UInt8} (h : ndH l) : ndH (shutT k ++ l) := by
  unfold shutT
  split; · exact ndH_cons (by decide)
  split; · exact ndH_cons (by decide)
  split; · exact ndH_cons (by decide)
  exact h
mutual
theorem run_tree : ∀ (t : Vt), tOk t → ∀ (K : List Zf) (l : List UInt8) (i : Nat), ndH l → prsZ .bgn K (t.txt ++ l) i = prsZ (.aft t) K l (i + t.txt.length)
  | .node ⟨k, n, c⟩ ks, h, K, l, i, hl => by
    obtain ⟨⟨hr, hc, hw⟩, hN⟩ := h
    have hn : n < 18446744073709551616 := hN _ (List.mem_cons_self ..)
    have hsk : tsOk ks := ⟨hw, fun y hy => hN y (List.mem_cons_of_mem _ hy)⟩
    replace hc : (ks.len : Int) = c := hc
    have hk : k = 1 ∨ k = 2 ∨ k = 3 ∨ k = 4 ∨ k = 5 ∨ k = 6 := by simp [rightN, numB] at hr; omega
    rcases hk with rfl | rfl | rfl | rfl | rfl | rfl
    · have h0 : c = 0 := by simp [rightN, numB, leastK, mostK] at hr; omega
      subst h0
      obtain rfl := Vts.nil_of (F := ks) (by omega)
      have e : (Vt.node ⟨1, n, 0⟩ .nil).txt = digL n := by simp [Vt.txt, Vts.txtS, leafT, shutT]
      rw [e, run_num K n hn, num_aft hl]
      rfl
    · have h0 : c = 0 ∧ n ≤ 1 := by simp [rightN, numB, leastK, mostK] at hr; omega
      obtain ⟨rfl, hn1⟩ := h0
      obtain rfl := Vts.nil_of (F := ks) (by omega)
      by_cases h1 : n = 1
      · subst h1
        exact (prs_step (m' := .word 114 [117, 101] (some (lf 2 1))) (K' := K) rfl _ i).trans (word_v _ _ _ _)
      · obtain rfl : n = 0 := by omega
        exact (prs_step (m' := .word 97 [108, 115, 101] (some (lf 2 0))) (K' := K) rfl _ i).trans (word_v _ _ _ _)
    · have h0 : n = 0 ∧ c ≤ 1048576 := by simp [rightN, numB, leastK, mostK] at hr; omega
      obtain ⟨rfl, hc1⟩ := h0
      cases ks with
      | nil =>
        obtain rfl : c = 0 := by rw [← hc]; rfl
        exact (prs_step (m' := .sq1) (K' := K) rfl _ i).trans (prs_step (m' := .aft (lf 3 0)) (K' := K) rfl _ (i + 1))
      | cons t ts =>
        have e : (Vt.node ⟨3, 0, c⟩ (.cons t ts)).txt = 91 :: ((Vts.cons t ts).txtS false ++ shutT 3) := by simp [Vt.txt, leafT]
        rw [e, List.cons_append, prs_step (m' := .sq1) (K' := K) rfl, List.append_assoc]
        have h1 : (Vts.cons t ts).txtS false ++ (shutT 3 ++ l) = t.txt ++ (ts.txtS true ++ (shutT 3 ++ l)) := by simp [Vts.txtS]
        have ht : tOk t := ⟨hsk.1.1, fun y hy => hsk.2 y (List.mem_append_left _ hy)⟩
        rw [h1, sq1_bgn ht, ← h1]
        have h2 := run_kids (.cons t ts) hsk ⟨3, 0, .nil⟩ (.inl rfl) (by simp [Vts.len]) (by simp only [Vts.len] at hc ⊢; simp [mostK]; omega) K l (i + 1) hl
        simp only at h2
        rw [h2, List.length_cons]
        have h3 : (⟨3, 0, ((Vts.nil.len + (Vts.cons t ts).len : Nat) : Int)⟩ : Nd) = ⟨3, 0, c⟩ := by rw [← hc]; simp [Vts.len]
        rw [h3]
        show prsZ (.aft (.node ⟨3, 0, c⟩ (.cons t ts))) K l _ = _
        congr 1
        rw [List.length_append]; omega
    · have h0 : n = 0 ∧ 1 ≤ c ∧ c ≤ 64 := by simp [rightN, numB, leastK, mostK] at hr; omega
      obtain ⟨rfl, hc1, hc2⟩ := h0
      have e : (Vt.node ⟨4, 0, c⟩ ks).txt = 123 :: (ks.txtS false ++ shutT 4) := by simp [Vt.txt, leafT]
      have h2 := run_kids ks hsk ⟨4, 0, .nil⟩ (.inr (.inl rfl)) (by omega) (by simp [mostK, Vts.len]; omega) K l (i + 1) hl
      simp only at h2
      rw [e, List.cons_append, prs_step (m' := .bgn) (K' := ⟨4, 0, .nil⟩ :: K) rfl, List.append_assoc, h2, List.length_cons]
      have h3 : (⟨4, 0, ((Vts.nil.len + ks.len : Nat) : Int)⟩ : Nd) = ⟨4, 0, c⟩ := by rw [← hc]; simp [Vts.len]
      rw [h3]
      show prsZ (.aft (.node ⟨4, 0, c⟩ ks)) K l _ = _
      congr 1
      rw [List.length_append]; omega
    · have h0 : n = 0 ∧ (c = 0 ∨ c = 1) := by simp [rightN, numB, leastK, mostK] at hr; omega
      obtain ⟨rfl, hc1⟩ := h0
      rcases hc1 with rfl | rfl
      · obtain rfl := Vts.nil_of (F := ks) (by omega)
        exact (prs_step (m' := .word 111 [110, 101] (some (lf 5 0))) (K' := K) rfl _ i).trans (word_v _ _ _ _)
      · have e : (Vt.node ⟨5, 0, 1⟩ ks).txt = 115 :: (111 :: ([109, 101, 32] ++ (ks.txtS false ++ shutT 5))) := by simp [Vt.txt, leafT]
        have h2 := run_kids ks hsk ⟨5, 0, .nil⟩ (.inr (.inr (.inl rfl))) (by omega) (by simp [mostK, Vts.len]; omega) K l (i + 1 + 1 + 3) hl
        simp only at h2
        rw [e, List.cons_append, prs_step (m' := .word 111 [109, 101, 32] none) (K' := ⟨5, 0, .nil⟩ :: K) rfl, List.cons_append, List.append_assoc, word_b, List.append_assoc]
        show prsZ .bgn _ _ (i + 1 + 1 + 3) = _
        rw [h2]
        have h3 : (⟨5, 0, ((Vts.nil.len + ks.len : Nat) : Int)⟩ : Nd) = ⟨5, 0, 1⟩ := by rw [← hc]; simp [Vts.len]
        rw [h3]
        show prsZ (.aft (.node ⟨5, 0, 1⟩ ks)) K l _ = _
        congr 1
        simp only [List.length_cons, List.length_append, List.length_nil]; omega
    · have h0 : n ≤ 255 ∧ c = 1 := by simp [rightN, numB, leastK, mostK] at hr; omega
      obtain ⟨hn1, rfl⟩ := h0
      have e : (Vt.node ⟨6, n, 1⟩ ks).txt = 60 :: (digL n ++ (58 :: (ks.txtS false ++ shutT 6))) := by simp [Vt.txt, leafT]
      have h2 := run_kids ks hsk ⟨6, n, .nil⟩ (.inr (.inr (.inr rfl))) (by omega) (by simp [mostK, Vts.len]; omega) K l (i + 1 + (digL n).length + 1) hl
      simp only at h2
      rw [e, List.cons_append, prs_step (m' := .tag0) (K' := K) rfl, List.append_assoc, run_tag K n hn1, List.cons_append, prs_step (m' := .bgn) (K' := ⟨6, n, .nil⟩ :: K) (by simp [stepZ, isD]), List.append_assoc, h2]
      have h3 : (⟨6, n, ((Vts.nil.len + ks.len : Nat) : Int)⟩ : Nd) = ⟨6, n, 1⟩ := by rw [← hc]; simp [Vts.len]
      rw [h3]
      show prsZ (.aft (.node ⟨6, n, 1⟩ ks)) K l _ = _
      congr 1
      simp only [List.length_cons, List.length_append]; omega
theorem run_kids : ∀ (ts : Vts), tsOk ts → ∀ (f : Zf), (f.kind = 3 ∨ f.kind = 4 ∨ f.kind = 5 ∨ f.kind = 6) → 0 < ts.len → ((f.done.len + ts.len : Nat) : Int) ≤ mostK f.kind → ∀ (K : List Zf) (l : List UInt8) (i : Nat), ndH l →
    prsZ .bgn (f :: K) (ts.txtS false ++ (shutT f.kind ++ l)) i = prsZ (.aft (.node ⟨f.kind, f.n, ((f.done.len + ts.len : Nat) : Int)⟩ (f.done.app ts))) K l (i + (ts.txtS false ++ shutT f.kind).length)
  | .nil, _, _, _, h, _, _, _, _, _ => by simp [Vts.len] at h
  | .cons t .nil, h, f, hk, _, hm, K, l, i, hl => by
    have ht : tOk t := ⟨h.1.1, fun y hy => h.2 y (List.mem_append_left _ hy)⟩
    have e : (Vts.cons t .nil).txtS false = t.txt := by simp [Vts.txtS]
    rw [e, run_tree t ht (f :: K) _ i (ndH_shut hl), aft_close hk, List.length_append, Nat.add_assoc]
    rfl
  | .cons t (.cons u us), h, f, hk, _, hm, K, l, i, hl => by
    have ht : tOk t := ⟨h.1.1, fun y hy => h.2 y (List.mem_append_left _ hy)⟩
    have hu : tsOk (.cons u us) := ⟨h.1.2, fun y hy => h.2 y (List.mem_append_right _ hy)⟩
    have hm2 : (f.done.len : Int) + 2 ≤ mostK f.kind := by simp only [Vts.len] at hm; omega
    have hk2 : f.kind = 3 ∨ f.kind = 4 := by
      rcases hk with h1 | h1 | h1 | h1
      · exact .inl h1
      · exact .inr h1
      · rw [h1] at hm2; simp [mostK] at hm2; omega
      · rw [h1] at hm2; simp [mostK] at hm2; omega
    have e : (Vts.cons t (.cons u us)).txtS false = t.txt ++ (44 :: (32 :: (Vts.cons u us).txtS false)) := by simp [Vts.txtS]
    have e2 : ((Vts.cons u us).txtS false ++ (shutT f.kind ++ l)) = (Vts.cons u us).txtS false ++ (shutT f.kind ++ l) := rfl
    have h3 := run_kids (.cons u us) hu { f with done := f.done.snoc t } hk (by simp [Vts.len]) (by rw [show ({ f with done := f.done.snoc t } : Zf).done = f.done.snoc t from rfl, snoc_len]; simp only [Vts.len] at hm ⊢; omega) K l (i + t.txt.length + 1 + 1) hl
    simp only at h3
    rw [e, List.append_assoc, List.cons_append, List.cons_append, run_tree t ht (f :: K) _ i (ndH_cons (by decide)), prs_step (m' := .word 32 [] none) (K' := { f with done := f.done.snoc t } :: K) (m := .aft t) (K := f :: K) (c := 44) (show aftS t (f :: K) 44 = _ by rw [aftS, if_pos ⟨hk2, rfl, by omega⟩])]
    rw [prs_step (m' := .bgn) (K' := { f with done := f.done.snoc t } :: K) (by unfold stepZ; simp), h3]
    have h4 : (f.done.snoc t).app (.cons u us) = f.done.app (.cons t (.cons u us)) := by rw [Vts.snoc, Vts.app_assoc]; rfl
    have h5 : (f.done.snoc t).len + (Vts.cons u us).len = f.done.len + (Vts.cons t (.cons u us)).len := by rw [snoc_len]; simp only [Vts.len]; omega
    rw [h4, h5]
    congr 1
    simp only [List.length_append, List.length_cons]; omega
end
theorem par_txt {t : Vt} (h : tOk t) : parZ t.txt = (some t, 0) := by
  have h1 := run_tree t h [] [] 0 ndH_nil
  rw [List.append_nil] at h1
  unfold parZ
  rw [h1]
  rfl
end Go.Proofs.YtgmjfcekeglhjaaDoor

set_option linter.unusedSimpArgs false
set_option linter.unusedVariables false
set_option maxRecDepth 100000
namespace Go.Proofs.YtgmjfcekeglhjaaDoor
open Go Go.Vc Go.RowKit Go.Proofs
theorem r_lenT {P : Program} {e : Env} {w : World} {ty : TypeId} {xs : List UInt8} {x : Operand} {t : TypeId} {s bs : Nat} {z : Value} (ht : Ty P t .string s bs z) (hx : ev e x = st xs) : RV P e (.call ⟨.builtin .len, #[x], #[t]⟩) ty w (.int .i64 (xs.length : Int)) := r_lenS ht hx

theorem o_subU {P : Program} {e : Env} {w : World} {K : Value → World → Prop} {ty : TypeId} {x y : Operand} {t u : TypeId} {k : IntKind} {a b : Nat} (M : Nat) (hM : M = 2 ^ ubits k) (hk : 0 < ubits k) (hx : ev e x = .int k (a : Int)) (hy : ev e y = .int k (b : Int)) (hb : b ≤ a) (ha : a < M) (kk : K (.int k ((a - b : Nat) : Int)) w) : OP P e (.binOp .sub t x y u) ty w K := by
  refine o_sub hx hy ?_
  rw [show (a : Int) - b = ((a - b : Nat) : Int) by omega, wrapU hk, Nat.mod_eq_of_lt (by omega)]
  exact kk
def wordC : List UInt8 → List UInt8 → Nat × Bool
  | [], _ => (0, true)
  | _ :: _, [] => (0, false)
  | a :: w, c :: l => if c = a then ((wordC w l).1 + 1, (wordC w l).2) else (0, false)
def numL (m : Nat) : Nat → Nat → List UInt8 → Nat × Bool × Nat
  | n, k, [] => (n, decide (0 < k), k)
  | n, k, c :: l => if isD c = true then (if (0 < k ∧ n = 0) ∨ (m - dg c) / 10 < n then (0, false, k) else numL m (10 * n + dg c) (k + 1) l) else (n, decide (0 < k), k)
theorem wordC_le : ∀ (w l : List UInt8), (wordC w l).1 ≤ l.length ∧ (wordC w l).1 ≤ w.length
  | [], l => ⟨Nat.zero_le _, Nat.zero_le _⟩
  | _ :: _, [] => ⟨Nat.zero_le _, Nat.zero_le _⟩
  | a :: w, c :: l => by
    have := wordC_le w l
    rw [wordC]
    split
    · exact ⟨Nat.succ_le_succ this.1, Nat.succ_le_succ this.2⟩
    · exact ⟨Nat.zero_le _, Nat.zero_le _⟩
theorem wordC_all : ∀ (w l : List UInt8), (wordC w l).2 = true → (wordC w l).1 = w.length
  | [], l, h => rfl
  | _ :: _, [], h => by cases h
  | a :: w, c :: l, h => by
    have := wordC_all w l
    rw [wordC] at h ⊢
    split at h
    · rename_i hc
      rw [if_pos hc]
      exact congrArg (· + 1) (this h)
    · cases h
theorem numL_le (m : Nat) : ∀ (l : List UInt8) (n k : Nat), k ≤ (numL m n k l).2.2 ∧ (numL m n k l).2.2 ≤ k + l.length
  | [], n, k => ⟨Nat.le_refl _, Nat.le_refl _⟩
  | c :: l, n, k => by
    have := numL_le m l (10 * n + dg c) (k + 1)
    rw [numL, List.length_cons]
    split
    · split
      · exact ⟨Nat.le_refl _, by show k ≤ _; omega⟩
      · omega
    · exact ⟨Nat.le_refl _, by show k ≤ _; omega⟩
theorem isD_lt {c : UInt8} (h : isD c = true) : dg c < 10 ∧ 48 ≤ c.toNat ∧ c.toNat ≤ 57 := by
  have h1 := (isD_dg h).1
  simp only [isD, Bool.and_eq_true, decide_eq_true_eq] at h
  exact ⟨h1, h⟩
/-- where a word stops -/
theorem word_cases {W T : List UInt8} {i j : Nat} (hi : i < W.length) (hj : j + i ≤ T.length) :
    (T.length ≤ j + i ∧ wordC (W.drop i) (T.drop (j + i)) = (0, false)) ∨ (∃ h : j + i < T.length, T[j + i] ≠ W[i] ∧ wordC (W.drop i) (T.drop (j + i)) = (0, false)) ∨
    ∃ h : j + i < T.length, T[j + i] = W[i] ∧ wordC (W.drop i) (T.drop (j + i)) = ((wordC (W.drop (i + 1)) (T.drop (j + (i + 1)))).1 + 1, (wordC (W.drop (i + 1)) (T.drop (j + (i + 1)))).2) := by
  rw [← List.getElem_cons_drop hi]
  by_cases h : j + i < T.length
  · rw [← List.getElem_cons_drop h, wordC]
    by_cases he : T[j + i] = W[i]
    · exact .inr (.inr ⟨h, he, by rw [if_pos he]; rfl⟩)
    · exact .inr (.inl ⟨h, he, if_neg he⟩)
  · refine .inl ⟨by omega, ?_⟩
    rw [show T.drop (j + i) = [] from List.drop_eq_nil_of_le (by omega), wordC]
/-- where a number stops -/
theorem num_cases (m : Nat) {T : List UInt8} {j n k : Nat} (hj : j + k ≤ T.length) :
    (T.length ≤ j + k ∧ numL m n k (T.drop (j + k)) = (n, decide (0 < k), k)) ∨ (∃ h : j + k < T.length, T[j + k].toNat < 48 ∧ numL m n k (T.drop (j + k)) = (n, decide (0 < k), k)) ∨
    (∃ h : j + k < T.length, 48 ≤ T[j + k].toNat ∧ 57 < T[j + k].toNat ∧ numL m n k (T.drop (j + k)) = (n, decide (0 < k), k)) ∨
    ∃ h : j + k < T.length, 48 ≤ T[j + k].toNat ∧ T[j + k].toNat ≤ 57 ∧ dg T[j + k] < 10 ∧ numL m n k (T.drop (j + k)) = if (0 < k ∧ n = 0) ∨ (m - dg T[j + k]) / 10 < n then (0, false, k) else numL m (10 * n + dg T[j + k]) (k + 1) (T.drop (j + (k + 1))) := by
  by_cases h : j + k < T.length
  · rw [← List.getElem_cons_drop h, numL]
    by_cases h1 : T[j + k].toNat < 48
    · exact .inr (.inl ⟨h, h1, by rw [if_neg (by simp [isD]; omega)]⟩)
    by_cases h2 : 57 < T[j + k].toNat
    · exact .inr (.inr (.inl ⟨h, by omega, h2, by rw [if_neg (by simp [isD]; omega)]⟩))
    · have hd : isD T[j + k] = true := by simp [isD]; omega
      exact .inr (.inr (.inr ⟨h, by omega, by omega, (isD_lt hd).1, by rw [if_pos hd]; rfl⟩))
  · refine .inl ⟨by omega, ?_⟩
    rw [List.drop_eq_nil_of_le (by omega), numL]
structure RdM (w : World) (B g : Nat) (T : List UInt8) (j : Nat) (nv : Value) (N : List Nd) (sv : Value) (S : List Nat) : Prop where
  cell : w.heap[g]? = some (.cells #[st T, .int .i64 (j : Int), nv, sv] 111 (0, 0))
  nod : w.ownsRow B 69 3 nv N.length (nds N)
  stk : w.ownsRow B 3 1 sv S.length (ints S)
  hb : B ≤ g
theorem RdM.offn {w : World} {B g j : Nat} {T : List UInt8} {nv sv : Value} {N : List Nd} {S : List Nat} (h : RdM w B g T j nv N sv S) : ¬ nv.ownBlock = some g := own_off h.nod h.cell (by decide)
theorem RdM.offs {w : World} {B g j : Nat} {T : List UInt8} {nv sv : Value} {N : List Nd} {S : List Nat} (h : RdM w B g T j nv N sv S) : ¬ sv.ownBlock = some g := own_off h.stk h.cell (by decide)
theorem RdM.sz {w : World} {B g j : Nat} {T : List UInt8} {nv sv : Value} {N : List Nd} {S : List Nat} (h : RdM w B g T j nv N sv S) : B ≤ w.heap.size := by
  have := (Array.getElem?_eq_some_iff.1 h.cell).1
  have := h.hb
  omega
theorem RdM.ext {w w' : World} {B g j : Nat} {T : List UInt8} {nv sv : Value} {N : List Nd} {S : List Nat} (h : RdM w B g T j nv N sv S) (ho : Ext w w') : RdM w' B g T j nv N sv S := ⟨ho.blk h.cell (fun h => h), own_ext h.nod ho, own_ext h.stk ho, h.hb⟩
theorem RdM.move {w w' : World} {B g j j2 : Nat} {T : List UInt8} {nv sv : Value} {N : List Nd} {S : List Nat} (h : RdM w B g T j nv N sv S) (hc : w'.heap[g]? = some (.cells #[st T, .int .i64 (j2 : Int), nv, sv] 111 (0, 0))) (ho : Only (fun k => k = g) w w') : RdM w' B g T j2 nv N sv S :=
  ⟨hc, own_only h.nod ho (fun k hk he => by subst he; exact h.offn hk), own_only h.stk ho (fun k hk he => by subst he; exact h.offs hk), h.hb⟩
theorem oneG {B g : Nat} {w w' : World} (h : Only (fun k => k = g) w w') (hb : B ≤ g) : Only (fun k => B ≤ k) w w' := h.mono (fun k _ he => by subst he; exact hb)

set_option maxHeartbeats 2000000 in
theorem vword_spec (B g : Nat) (T : List UInt8) (j : Nat) (nv : Value) (N : List Nd) (sv : Value) (S : List Nat) (ws : List UInt8) (w0 : World) (h : RdM w0 B g T j nv N sv S) (hj : j ≤ T.length) (hT : T.length ≤ 1048576) (hW : ws.length ≤ 1000) : Ca Tryd.prog 48 #[.pointer (some ⟨g, 0, none⟩), st ws] w0 (fun r w' => r = .bool (wordC ws (T.drop j)).2 ∧ RdM w' B g T (j + (wordC ws (T.drop j)).1) nv N sv S ∧ Only (fun k => k = g) w0 w') := by
  have ho : Only (fun k => k = g) w0 w0 := Only.refl _ _
  refine Ca.of Tryd.func48 Tryd.ntmps48 rfl rfl ?_
  refine W.seq ?_
  refine W.region ?_
  refine WL.c rfl (o_ash (show _ = Value.bool _ from rfl) ?_)
  refine WL.nil ?_
  refine W.seq ?_
  refine W.seq ?_
  refine W.region ?_
  refine WL.c rfl (o_mvh (show _ = Value.string _ from rfl) ?_)
  refine WL.c rfl (o_lenT TI9 rfl ?_)
  refine WL.c rfl (o_mvh (show _ = Value.int _ _ from rfl) ?_)
  refine WL.nil ?_
  refine W.block ?_
  refine W.loop (fun e w => ∃ i : Nat, i ≤ ws.length ∧ e 0 = .pointer (some ⟨g, 0, none⟩) ∧ e 1 = st ws ∧ e 7 = .int .i64 (ws.length : Int) ∧ e 8 = .int .i64 (i : Int) ∧ RdM w B g T (j + i) nv N sv S ∧ j + i ≤ T.length ∧ wordC ws (T.drop j) = (i + (wordC (ws.drop i) (T.drop (j + i))).1, (wordC (ws.drop i) (T.drop (j + i))).2) ∧ Only (fun k => k = g) w0 w) (fun e w => ws.length - (intOf (e 8)).toNat) ?_ ?_
  · exact ⟨0, Nat.zero_le _, rfl, rfl, rfl, rfl, h, hj, by simp, ho⟩
  rintro e w ⟨i, hi, h0, h1, h7, h8, h, hji, hwc, ho⟩
  have hm8 := h8
  refine W.seq ?_
  refine W.region ?_
  refine WL.c rfl (o_lt h8 h7 ?_)
  refine WL.nil ?_
  refine W.seq ?_
  refine W.cond rfl (fun c9 => ?_) (fun c9 => ?_)
  · try simp only [decide_eq_true_eq, decide_eq_false_iff_not, Bool.not_eq_true', Bool.not_eq_false', Bool.and_eq_true, Bool.or_eq_true, Bool.and_eq_false_iff, Bool.or_eq_false_iff] at c9
    have hi1 : i < ws.length := by omega
    refine W.skip ?_
    refine W.seq ?_
    refine W.block ?_
    refine W.seq ?_
    refine W.region ?_
    refine WL.c rfl (o_mvh h8 ?_)
    refine WL.c rfl (o_ash (show _ = Value.int _ _ from rfl) ?_)
    refine WL.nil ?_
    refine W.seq ?_
    refine W.seq ?_
    rcases word_cases hi1 hji with ⟨hA, hw2⟩ | ⟨hA, hne, hw2⟩ | ⟨hA, heq, hw2⟩
    · skip
      refine W.quiet rfl (by kernel_rfl) ?_
      refine WQ.c rfl ((QO.o rfl fun _ => o_mvh h0 ⟨rfl, rfl⟩)) ?_
      refine WQ.c rfl ((QO.r fun _ => r_nil rfl)) ?_
      refine WQ.c rfl ((QO.o rfl fun _ => o_fa 1 TI111 rfl TI3 rfl rfl ⟨rfl, rfl⟩)) ?_
      refine WQ.c rfl ((QO.o rfl fun _ => o_ld TI3 rfl rfl (cell_of h.cell rfl) ⟨rfl, rfl⟩)) ?_
      refine WQ.c rfl ((QO.o rfl fun _ => o_mvh h0 ⟨rfl, rfl⟩)) ?_
      refine WQ.c rfl ((QO.r fun _ => r_nil rfl)) ?_
      refine WQ.c rfl ((QO.o rfl fun _ => o_fa 0 TI111 rfl TI9 rfl rfl ⟨rfl, rfl⟩)) ?_
      refine WQ.c rfl ((QO.o rfl fun _ => o_ld TI9 rfl rfl (cell_of h.cell rfl) ⟨rfl, rfl⟩)) ?_
      refine WQ.c rfl ((QO.r fun _ => r_lenT TI9 rfl)) ?_
      refine WQ.c rfl ((QO.o rfl fun _ => o_ge rfl rfl ⟨rfl, rfl⟩)) ?_
      refine WQ.c rfl ((QO.o rfl fun _ => o_mvh (show _ = Value.bool _ from rfl) ⟨rfl, rfl⟩)) ?_
      refine WQ.s rfl (by simp; omega) rfl ?_
      refine WQ.s rfl (by simp; omega) rfl ?_
      refine WQ.s rfl (by simp; omega) rfl ?_
      refine WQ.s rfl (by simp; omega) rfl ?_
      refine WQ.s rfl (by simp; omega) rfl ?_
      refine WQ.s rfl (by simp; omega) rfl ?_
      refine WQ.s rfl (by simp; omega) rfl ?_
      refine WQ.s rfl (by simp; omega) rfl ?_
      refine WQ.s rfl (by simp; omega) rfl ?_
      refine WQ.s rfl (by simp; omega) rfl ?_
      refine WQ.s rfl (by simp; omega) rfl ?_
      refine WQ.s rfl (by simp; omega) rfl ?_
      refine WQ.s rfl (by simp; omega) rfl ?_
      refine WQ.c rfl ((QO.r fun _ => r_pickT rfl (by simp; omega))) ?_
      refine WQ.nil ?_
      intro nq
      have hq := Only.drewN w nq
      replace h := h.ext hq
      replace ho := ho.trans' hq (fun _ h => h) (fun _ _ h => h.elim)
      generalize World.drewN w nq = wq4 at *
      clear hq
      refine W.condT' rfl (rfl) ?_
      refine W.seq ?_
      refine W.region ?_
      refine WL.c rfl (o_ash (show _ = Value.bool _ from rfl) ?_)
      refine WL.nil ?_
      refine W.ret ?_
      refine ret1v rfl (show _ = Value.bool _ from rfl) ?_
      exact ⟨by rw [hwc, hw2], by rw [hwc, hw2]; exact h, ho⟩
    · skip
      refine W.quiet rfl (by kernel_rfl) ?_
      refine WQ.c rfl ((QO.o rfl fun _ => o_mvh h0 ⟨rfl, rfl⟩)) ?_
      refine WQ.c rfl ((QO.r fun _ => r_nil rfl)) ?_
      refine WQ.c rfl ((QO.o rfl fun _ => o_fa 1 TI111 rfl TI3 rfl rfl ⟨rfl, rfl⟩)) ?_
      refine WQ.c rfl ((QO.o rfl fun _ => o_ld TI3 rfl rfl (cell_of h.cell rfl) ⟨rfl, rfl⟩)) ?_
      refine WQ.c rfl ((QO.o rfl fun _ => o_mvh h0 ⟨rfl, rfl⟩)) ?_
      refine WQ.c rfl ((QO.r fun _ => r_nil rfl)) ?_
      refine WQ.c rfl ((QO.o rfl fun _ => o_fa 0 TI111 rfl TI9 rfl rfl ⟨rfl, rfl⟩)) ?_
      refine WQ.c rfl ((QO.o rfl fun _ => o_ld TI9 rfl rfl (cell_of h.cell rfl) ⟨rfl, rfl⟩)) ?_
      refine WQ.c rfl ((QO.r fun _ => r_lenT TI9 rfl)) ?_
      refine WQ.c rfl ((QO.o rfl fun _ => o_ge rfl rfl ⟨rfl, rfl⟩)) ?_
      refine WQ.c rfl ((QO.o rfl fun _ => o_mvh (show _ = Value.bool _ from rfl) ⟨rfl, rfl⟩)) ?_
      refine WQ.g rfl (by simp; omega) rfl ((QO.o rfl fun _ => o_mvh h0 ⟨rfl, rfl⟩)) ?_
      refine WQ.g rfl (by simp; omega) rfl ((QO.r fun _ => r_nil rfl)) ?_
      refine WQ.g rfl (by simp; omega) rfl ((QO.o rfl fun _ => o_fa 0 TI111 rfl TI9 rfl rfl ⟨rfl, rfl⟩)) ?_
      refine WQ.g rfl (by simp; omega) rfl ((QO.o rfl fun _ => o_ld TI9 rfl rfl (cell_of h.cell rfl) ⟨rfl, rfl⟩)) ?_
      refine WQ.g rfl (by simp; omega) rfl ((QO.o rfl fun _ => o_mvh h0 ⟨rfl, rfl⟩)) ?_
      refine WQ.g rfl (by simp; omega) rfl ((QO.r fun _ => r_nil rfl)) ?_
      refine WQ.g rfl (by simp; omega) rfl ((QO.o rfl fun _ => o_fa 1 TI111 rfl TI3 rfl rfl ⟨rfl, rfl⟩)) ?_
      refine WQ.g rfl (by simp; omega) rfl ((QO.o rfl fun _ => o_ld TI3 rfl rfl (cell_of h.cell rfl) ⟨rfl, rfl⟩)) ?_
      refine WQ.g rfl (by simp; omega) rfl ((QO.o rfl fun _ => o_idT TI9 rfl rfl (by omega) ⟨rfl, rfl⟩)) ?_
      refine WQ.g rfl (by simp; omega) rfl ((QO.o rfl fun _ => o_mvh h1 ⟨rfl, rfl⟩)) ?_
      refine WQ.g rfl (by simp; omega) rfl ((QO.o rfl fun _ => o_mvh (show _ = Value.int _ _ from rfl) ⟨rfl, rfl⟩)) ?_
      refine WQ.g rfl (by simp; omega) rfl ((QO.o rfl fun _ => o_idT TI9 rfl rfl (by omega) ⟨rfl, rfl⟩)) ?_
      refine WQ.g rfl (by simp; omega) rfl ((QO.o rfl fun _ => o_ne rfl rfl ⟨rfl, rfl⟩)) ?_
      refine WQ.c rfl ((QO.r fun _ => r_pickO rfl rfl)) ?_
      refine WQ.nil ?_
      intro nq
      have hq := Only.drewN w nq
      replace h := h.ext hq
      replace ho := ho.trans' hq (fun _ h => h) (fun _ _ h => h.elim)
      generalize World.drewN w nq = wq4 at *
      clear hq
      refine W.condT' rfl (by simp; exact .inr (fun he => hne (UInt8.toNat_inj.1 (by omega)))) ?_
      refine W.seq ?_
      refine W.region ?_
      refine WL.c rfl (o_ash (show _ = Value.bool _ from rfl) ?_)
      refine WL.nil ?_
      refine W.ret ?_
      refine ret1v rfl (show _ = Value.bool _ from rfl) ?_
      exact ⟨by rw [hwc, hw2], by rw [hwc, hw2]; exact h, ho⟩
    · skip
      refine W.quiet rfl (by kernel_rfl) ?_
      refine WQ.c rfl ((QO.o rfl fun _ => o_mvh h0 ⟨rfl, rfl⟩)) ?_
      refine WQ.c rfl ((QO.r fun _ => r_nil rfl)) ?_
      refine WQ.c rfl ((QO.o rfl fun _ => o_fa 1 TI111 rfl TI3 rfl rfl ⟨rfl, rfl⟩)) ?_
      refine WQ.c rfl ((QO.o rfl fun _ => o_ld TI3 rfl rfl (cell_of h.cell rfl) ⟨rfl, rfl⟩)) ?_
      refine WQ.c rfl ((QO.o rfl fun _ => o_mvh h0 ⟨rfl, rfl⟩)) ?_
      refine WQ.c rfl ((QO.r fun _ => r_nil rfl)) ?_
      refine WQ.c rfl ((QO.o rfl fun _ => o_fa 0 TI111 rfl TI9 rfl rfl ⟨rfl, rfl⟩)) ?_
      refine WQ.c rfl ((QO.o rfl fun _ => o_ld TI9 rfl rfl (cell_of h.cell rfl) ⟨rfl, rfl⟩)) ?_
      refine WQ.c rfl ((QO.r fun _ => r_lenT TI9 rfl)) ?_
      refine WQ.c rfl ((QO.o rfl fun _ => o_ge rfl rfl ⟨rfl, rfl⟩)) ?_
      refine WQ.c rfl ((QO.o rfl fun _ => o_mvh (show _ = Value.bool _ from rfl) ⟨rfl, rfl⟩)) ?_
      refine WQ.g rfl (by simp; omega) rfl ((QO.o rfl fun _ => o_mvh h0 ⟨rfl, rfl⟩)) ?_
      refine WQ.g rfl (by simp; omega) rfl ((QO.r fun _ => r_nil rfl)) ?_
      refine WQ.g rfl (by simp; omega) rfl ((QO.o rfl fun _ => o_fa 0 TI111 rfl TI9 rfl rfl ⟨rfl, rfl⟩)) ?_
      refine WQ.g rfl (by simp; omega) rfl ((QO.o rfl fun _ => o_ld TI9 rfl rfl (cell_of h.cell rfl) ⟨rfl, rfl⟩)) ?_
      refine WQ.g rfl (by simp; omega) rfl ((QO.o rfl fun _ => o_mvh h0 ⟨rfl, rfl⟩)) ?_
      refine WQ.g rfl (by simp; omega) rfl ((QO.r fun _ => r_nil rfl)) ?_
      refine WQ.g rfl (by simp; omega) rfl ((QO.o rfl fun _ => o_fa 1 TI111 rfl TI3 rfl rfl ⟨rfl, rfl⟩)) ?_
      refine WQ.g rfl (by simp; omega) rfl ((QO.o rfl fun _ => o_ld TI3 rfl rfl (cell_of h.cell rfl) ⟨rfl, rfl⟩)) ?_
      refine WQ.g rfl (by simp; omega) rfl ((QO.o rfl fun _ => o_idT TI9 rfl rfl (by omega) ⟨rfl, rfl⟩)) ?_
      refine WQ.g rfl (by simp; omega) rfl ((QO.o rfl fun _ => o_mvh h1 ⟨rfl, rfl⟩)) ?_
      refine WQ.g rfl (by simp; omega) rfl ((QO.o rfl fun _ => o_mvh (show _ = Value.int _ _ from rfl) ⟨rfl, rfl⟩)) ?_
      refine WQ.g rfl (by simp; omega) rfl ((QO.o rfl fun _ => o_idT TI9 rfl rfl (by omega) ⟨rfl, rfl⟩)) ?_
      refine WQ.g rfl (by simp; omega) rfl ((QO.o rfl fun _ => o_ne rfl rfl ⟨rfl, rfl⟩)) ?_
      refine WQ.c rfl ((QO.r fun _ => r_pickO rfl rfl)) ?_
      refine WQ.nil ?_
      intro nq
      have hq := Only.drewN w nq
      replace h := h.ext hq
      replace ho := ho.trans' hq (fun _ h => h) (fun _ _ h => h.elim)
      generalize World.drewN w nq = wq4 at *
      clear hq
      refine W.condF' rfl (by simp; exact ⟨by omega, by rw [heq]⟩) ?_
      refine W.skip ?_
      refine W.region ?_
      refine WL.c rfl (o_mvh h0 ?_)
      refine WL.c rfl (o_nil rfl ?_)
      refine WL.c rfl (o_fa 1 TI111 rfl TI3 rfl rfl ?_)
      refine WL.c rfl (o_ld TI3 rfl rfl (cell_of h.cell rfl) ?_)
      refine WL.c rfl (o_addi rfl rfl (by omega) ?_)
      refine WL.c rfl (o_nil rfl ?_)
      refine WL.c rfl (o_fa 1 TI111 rfl TI3 rfl rfl ?_)
      refine WL.u (o_stB TI3 rfl (show _ = Value.int _ _ from rfl) rfl h.cell (show 1 < 4 by decide) ?_)
      intro w42 hB42 ho42 hs42
      replace h := h.move (j2 := j + (i + 1)) hB42 ho42
      replace ho := ho.trans' ho42 (fun _ h => h) (fun _ _ h => h)
      clear hB42 ho42 hs42
      refine WL.nil ?_
      refine W.region ?_
      refine WL.c rfl (o_addi h8 rfl (by omega) ?_)
      refine WL.c rfl (o_mvh (show _ = Value.int _ _ from rfl) ?_)
      refine WL.nil ?_
      refine ⟨⟨i + 1, by omega, h0, h1, h7, rfl, h, by omega, ?_, ho⟩, ?_⟩
      · rw [hwc, hw2]; simp only [Prod.mk.injEq]; exact ⟨by omega, trivial⟩
      · show ws.length - ((i : Int) + 1).toNat < _
        rw [hm8]; simp [intOf]; omega
  · try simp only [decide_eq_true_eq, decide_eq_false_iff_not, Bool.not_eq_true', Bool.not_eq_false', Bool.and_eq_true, Bool.or_eq_true, Bool.and_eq_false_iff, Bool.or_eq_false_iff] at c9
    have hi1 : i = ws.length := by omega
    refine W.exit ?_
    refine W.seq ?_
    refine W.region ?_
    refine WL.c rfl (o_ash (show _ = Value.bool _ from rfl) ?_)
    refine WL.nil ?_
    refine W.ret ?_
    refine ret1v rfl (show _ = Value.bool _ from rfl) ?_
    exact ⟨by rw [hwc, hi1, List.drop_length]; rfl, by rw [hwc, hi1, List.drop_length]; rw [hi1] at h; exact h, ho⟩
set_option maxHeartbeats 4000000 in
theorem vnumber_spec (B g : Nat) (T : List UInt8) (j : Nat) (nv : Value) (N : List Nd) (sv : Value) (S : List Nat) (m : Nat) (w0 : World) (h : RdM w0 B g T j nv N sv S) (hj : j ≤ T.length) (hT : T.length ≤ 1048576) (hm : 9 ≤ m) (hm2 : m < 18446744073709551616) : Ca Tryd.prog 65 #[.pointer (some ⟨g, 0, none⟩), .int .u64 (m : Int)] w0 (fun r w' => r = .tuple #[.int .u64 ((numL m 0 0 (T.drop j)).1 : Int), .bool (numL m 0 0 (T.drop j)).2.1] ∧ RdM w' B g T (j + (numL m 0 0 (T.drop j)).2.2) nv N sv S ∧ Only (fun k => k = g) w0 w') := by
  have ho : Only (fun k => k = g) w0 w0 := Only.refl _ _
  refine Ca.of Tryd.func65 Tryd.ntmps65 rfl rfl ?_
  refine W.seq ?_
  refine W.region ?_
  refine WL.c rfl (o_ash (show _ = Value.int _ _ from rfl) ?_)
  refine WL.c rfl (o_ash (show _ = Value.bool _ from rfl) ?_)
  refine WL.nil ?_
  refine W.seq ?_
  refine W.quiet rfl (by kernel_rfl) ?_
  refine WQ.c rfl ((QO.o rfl fun _ => o_mvh (by first | exact (show _ = Value.pointer _ from rfl) | exact rfl) ⟨rfl, rfl⟩)) ?_
  refine WQ.c rfl ((QO.r fun _ => r_nil rfl)) ?_
  refine WQ.c rfl ((QO.o rfl fun _ => o_fa 1 TI111 rfl TI3 rfl rfl ⟨rfl, rfl⟩)) ?_
  refine WQ.c rfl ((QO.o rfl fun _ => o_ld TI3 rfl rfl (cell_of h.cell rfl) ⟨rfl, rfl⟩)) ?_
  refine WQ.c rfl ((QO.o rfl fun _ => o_ash (show _ = Value.int _ _ from rfl) ⟨rfl, rfl⟩)) ?_
  refine WQ.c rfl ((QO.o rfl fun _ => o_ash (show _ = Value.int _ _ from rfl) ⟨rfl, rfl⟩)) ?_
  refine WQ.nil ?_
  intro nq
  have hq := Only.drewN w0 nq
  replace h := h.ext hq
  replace ho := ho.trans' hq (fun _ h => h) (fun _ _ h => h.elim)
  generalize World.drewN w0 nq = wq1 at *
  clear hq
  refine W.seq ?_
  refine W.block ?_
  refine W.loopN (fun c e w => ∃ n k : Nat, c = T.length - k ∧ n ≤ m ∧ e 0 = .pointer (some ⟨g, 0, none⟩) ∧ e 1 = .int .u64 (m : Int) ∧ e 6 = .int .u64 (n : Int) ∧ e 7 = .int .i64 (j : Int) ∧ RdM w B g T (j + k) nv N sv S ∧ j + k ≤ T.length ∧ numL m 0 0 (T.drop j) = numL m n k (T.drop (j + k)) ∧ Only (fun k => k = g) w0 w) ?_ ?_
  · exact ⟨_, 0, 0, rfl, Nat.zero_le _, rfl, rfl, rfl, rfl, h, hj, rfl, ho⟩
  rintro c e w ⟨n, k, hc, hnm, h0, h1, h6, h7, h, hjk, hn, ho⟩
  refine W.seq ?_
  refine W.seq ?_
  rcases num_cases m (n := n) hjk with ⟨hA, hnx⟩ | ⟨hA, hd1, hnx⟩ | ⟨hA, hd1, hd2, hnx⟩ | ⟨hA, hd1, hd2, hd3, hnx⟩
  · skip
    refine W.quiet rfl (by kernel_rfl) ?_
    refine WQ.c rfl ((QO.o rfl fun _ => o_mvh h0 ⟨rfl, rfl⟩)) ?_
    refine WQ.c rfl ((QO.r fun _ => r_nil rfl)) ?_
    refine WQ.c rfl ((QO.o rfl fun _ => o_fa 1 TI111 rfl TI3 rfl rfl ⟨rfl, rfl⟩)) ?_
    refine WQ.c rfl ((QO.o rfl fun _ => o_ld TI3 rfl rfl (cell_of h.cell rfl) ⟨rfl, rfl⟩)) ?_
    refine WQ.c rfl ((QO.o rfl fun _ => o_mvh h0 ⟨rfl, rfl⟩)) ?_
    refine WQ.c rfl ((QO.r fun _ => r_nil rfl)) ?_
    refine WQ.c rfl ((QO.o rfl fun _ => o_fa 0 TI111 rfl TI9 rfl rfl ⟨rfl, rfl⟩)) ?_
    refine WQ.c rfl ((QO.o rfl fun _ => o_ld TI9 rfl rfl (cell_of h.cell rfl) ⟨rfl, rfl⟩)) ?_
    refine WQ.c rfl ((QO.r fun _ => r_lenT TI9 rfl)) ?_
    refine WQ.c rfl ((QO.o rfl fun _ => o_lt rfl rfl ⟨rfl, rfl⟩)) ?_
    refine WQ.c rfl ((QO.o rfl fun _ => o_mvh (show _ = Value.bool _ from rfl) ⟨rfl, rfl⟩)) ?_
    refine WQ.s rfl (by simp; omega) rfl ?_
    refine WQ.s rfl (by simp; omega) rfl ?_
    refine WQ.s rfl (by simp; omega) rfl ?_
    refine WQ.s rfl (by simp; omega) rfl ?_
    refine WQ.s rfl (by simp; omega) rfl ?_
    refine WQ.s rfl (by simp; omega) rfl ?_
    refine WQ.s rfl (by simp; omega) rfl ?_
    refine WQ.s rfl (by simp; omega) rfl ?_
    refine WQ.s rfl (by simp; omega) rfl ?_
    refine WQ.s rfl (by simp; omega) rfl ?_
    refine WQ.c rfl ((QO.r fun _ => r_pickF rfl (by simp; omega))) ?_
    refine WQ.c rfl ((QO.o rfl fun _ => o_mvh (show _ = Value.bool _ from rfl) ⟨rfl, rfl⟩)) ?_
    refine WQ.s rfl (rfl) rfl ?_
    refine WQ.s rfl (rfl) rfl ?_
    refine WQ.s rfl (rfl) rfl ?_
    refine WQ.s rfl (rfl) rfl ?_
    refine WQ.s rfl (rfl) rfl ?_
    refine WQ.s rfl (rfl) rfl ?_
    refine WQ.s rfl (rfl) rfl ?_
    refine WQ.s rfl (rfl) rfl ?_
    refine WQ.s rfl (rfl) rfl ?_
    refine WQ.s rfl (rfl) rfl ?_
    refine WQ.c rfl ((QO.r fun _ => r_pickF rfl (rfl))) ?_
    refine WQ.nil ?_
    intro nq
    have hq := Only.drewN w nq
    replace h := h.ext hq
    replace ho := ho.trans' hq (fun _ h => h) (fun _ _ h => h.elim)
    generalize World.drewN w nq = wq2 at *
    clear hq
    refine W.condF' rfl (rfl) ?_
    refine W.exit ?_
    refine W.seq ?_
    refine W.quiet rfl (by kernel_rfl) ?_
    refine WQ.c rfl ((QO.o rfl fun _ => o_mvh h6 ⟨rfl, rfl⟩)) ?_
    refine WQ.c rfl ((QO.o rfl fun _ => o_mvh h0 ⟨rfl, rfl⟩)) ?_
    refine WQ.c rfl ((QO.r fun _ => r_nil rfl)) ?_
    refine WQ.c rfl ((QO.o rfl fun _ => o_fa 1 TI111 rfl TI3 rfl rfl ⟨rfl, rfl⟩)) ?_
    refine WQ.c rfl ((QO.o rfl fun _ => o_ld TI3 rfl rfl (cell_of h.cell rfl) ⟨rfl, rfl⟩)) ?_
    refine WQ.c rfl ((QO.o rfl fun _ => o_mvh h7 ⟨rfl, rfl⟩)) ?_
    refine WQ.c rfl ((QO.o rfl fun _ => o_gt rfl rfl ⟨rfl, rfl⟩)) ?_
    refine WQ.c rfl ((QO.o rfl fun _ => o_ash (show _ = Value.int _ _ from rfl) ⟨rfl, rfl⟩)) ?_
    refine WQ.c rfl ((QO.o rfl fun _ => o_ash (show _ = Value.bool _ from rfl) ⟨rfl, rfl⟩)) ?_
    refine WQ.nil ?_
    intro nq
    refine W.ret ?_
    refine ret2v rfl (show _ = Value.int _ _ from rfl) (show _ = Value.bool _ from rfl) ?_
    exact ⟨by rw [hn, hnx]; congr 2; simp; omega, by rw [hn, hnx]; exact h.ext (Only.drewN _ _), ho.trans' (Only.drewN _ _) (fun _ h => h) (fun _ _ h => h.elim)⟩
  · skip
    refine W.quiet rfl (by kernel_rfl) ?_
    refine WQ.c rfl ((QO.o rfl fun _ => o_mvh h0 ⟨rfl, rfl⟩)) ?_
    refine WQ.c rfl ((QO.r fun _ => r_nil rfl)) ?_
    refine WQ.c rfl ((QO.o rfl fun _ => o_fa 1 TI111 rfl TI3 rfl rfl ⟨rfl, rfl⟩)) ?_
    refine WQ.c rfl ((QO.o rfl fun _ => o_ld TI3 rfl rfl (cell_of h.cell rfl) ⟨rfl, rfl⟩)) ?_
    refine WQ.c rfl ((QO.o rfl fun _ => o_mvh h0 ⟨rfl, rfl⟩)) ?_
    refine WQ.c rfl ((QO.r fun _ => r_nil rfl)) ?_
    refine WQ.c rfl ((QO.o rfl fun _ => o_fa 0 TI111 rfl TI9 rfl rfl ⟨rfl, rfl⟩)) ?_
    refine WQ.c rfl ((QO.o rfl fun _ => o_ld TI9 rfl rfl (cell_of h.cell rfl) ⟨rfl, rfl⟩)) ?_
    refine WQ.c rfl ((QO.r fun _ => r_lenT TI9 rfl)) ?_
    refine WQ.c rfl ((QO.o rfl fun _ => o_lt rfl rfl ⟨rfl, rfl⟩)) ?_
    refine WQ.c rfl ((QO.o rfl fun _ => o_mvh (show _ = Value.bool _ from rfl) ⟨rfl, rfl⟩)) ?_
    refine WQ.g rfl (by simp; omega) rfl ((QO.o rfl fun _ => o_mvh h0 ⟨rfl, rfl⟩)) ?_
    refine WQ.g rfl (by simp; omega) rfl ((QO.r fun _ => r_nil rfl)) ?_
    refine WQ.g rfl (by simp; omega) rfl ((QO.o rfl fun _ => o_fa 0 TI111 rfl TI9 rfl rfl ⟨rfl, rfl⟩)) ?_
    refine WQ.g rfl (by simp; omega) rfl ((QO.o rfl fun _ => o_ld TI9 rfl rfl (cell_of h.cell rfl) ⟨rfl, rfl⟩)) ?_
    refine WQ.g rfl (by simp; omega) rfl ((QO.o rfl fun _ => o_mvh h0 ⟨rfl, rfl⟩)) ?_
    refine WQ.g rfl (by simp; omega) rfl ((QO.r fun _ => r_nil rfl)) ?_
    refine WQ.g rfl (by simp; omega) rfl ((QO.o rfl fun _ => o_fa 1 TI111 rfl TI3 rfl rfl ⟨rfl, rfl⟩)) ?_
    refine WQ.g rfl (by simp; omega) rfl ((QO.o rfl fun _ => o_ld TI3 rfl rfl (cell_of h.cell rfl) ⟨rfl, rfl⟩)) ?_
    refine WQ.g rfl (by simp; omega) rfl ((QO.o rfl fun _ => o_idT TI9 rfl rfl (by omega) ⟨rfl, rfl⟩)) ?_
    refine WQ.g rfl (by simp; omega) rfl ((QO.o rfl fun _ => o_ge rfl rfl ⟨rfl, rfl⟩)) ?_
    refine WQ.c rfl ((QO.r fun _ => r_pickA rfl rfl)) ?_
    refine WQ.c rfl ((QO.o rfl fun _ => o_mvh (show _ = Value.bool _ from rfl) ⟨rfl, rfl⟩)) ?_
    refine WQ.s rfl (by simp; omega) rfl ?_
    refine WQ.s rfl (by simp; omega) rfl ?_
    refine WQ.s rfl (by simp; omega) rfl ?_
    refine WQ.s rfl (by simp; omega) rfl ?_
    refine WQ.s rfl (by simp; omega) rfl ?_
    refine WQ.s rfl (by simp; omega) rfl ?_
    refine WQ.s rfl (by simp; omega) rfl ?_
    refine WQ.s rfl (by simp; omega) rfl ?_
    refine WQ.s rfl (by simp; omega) rfl ?_
    refine WQ.s rfl (by simp; omega) rfl ?_
    refine WQ.c rfl ((QO.r fun _ => r_pickF rfl (by simp; omega))) ?_
    refine WQ.nil ?_
    intro nq
    have hq := Only.drewN w nq
    replace h := h.ext hq
    replace ho := ho.trans' hq (fun _ h => h) (fun _ _ h => h.elim)
    generalize World.drewN w nq = wq2 at *
    clear hq
    refine W.condF' rfl (rfl) ?_
    refine W.exit ?_
    refine W.seq ?_
    refine W.quiet rfl (by kernel_rfl) ?_
    refine WQ.c rfl ((QO.o rfl fun _ => o_mvh h6 ⟨rfl, rfl⟩)) ?_
    refine WQ.c rfl ((QO.o rfl fun _ => o_mvh h0 ⟨rfl, rfl⟩)) ?_
    refine WQ.c rfl ((QO.r fun _ => r_nil rfl)) ?_
    refine WQ.c rfl ((QO.o rfl fun _ => o_fa 1 TI111 rfl TI3 rfl rfl ⟨rfl, rfl⟩)) ?_
    refine WQ.c rfl ((QO.o rfl fun _ => o_ld TI3 rfl rfl (cell_of h.cell rfl) ⟨rfl, rfl⟩)) ?_
    refine WQ.c rfl ((QO.o rfl fun _ => o_mvh h7 ⟨rfl, rfl⟩)) ?_
    refine WQ.c rfl ((QO.o rfl fun _ => o_gt rfl rfl ⟨rfl, rfl⟩)) ?_
    refine WQ.c rfl ((QO.o rfl fun _ => o_ash (show _ = Value.int _ _ from rfl) ⟨rfl, rfl⟩)) ?_
    refine WQ.c rfl ((QO.o rfl fun _ => o_ash (show _ = Value.bool _ from rfl) ⟨rfl, rfl⟩)) ?_
    refine WQ.nil ?_
    intro nq
    refine W.ret ?_
    refine ret2v rfl (show _ = Value.int _ _ from rfl) (show _ = Value.bool _ from rfl) ?_
    exact ⟨by rw [hn, hnx]; congr 2; simp; omega, by rw [hn, hnx]; exact h.ext (Only.drewN _ _), ho.trans' (Only.drewN _ _) (fun _ h => h) (fun _ _ h => h.elim)⟩
  · skip
    refine W.quiet rfl (by kernel_rfl) ?_
    refine WQ.c rfl ((QO.o rfl fun _ => o_mvh h0 ⟨rfl, rfl⟩)) ?_
    refine WQ.c rfl ((QO.r fun _ => r_nil rfl)) ?_
    refine WQ.c rfl ((QO.o rfl fun _ => o_fa 1 TI111 rfl TI3 rfl rfl ⟨rfl, rfl⟩)) ?_
    refine WQ.c rfl ((QO.o rfl fun _ => o_ld TI3 rfl rfl (cell_of h.cell rfl) ⟨rfl, rfl⟩)) ?_
    refine WQ.c rfl ((QO.o rfl fun _ => o_mvh h0 ⟨rfl, rfl⟩)) ?_
    refine WQ.c rfl ((QO.r fun _ => r_nil rfl)) ?_
    refine WQ.c rfl ((QO.o rfl fun _ => o_fa 0 TI111 rfl TI9 rfl rfl ⟨rfl, rfl⟩)) ?_
    refine WQ.c rfl ((QO.o rfl fun _ => o_ld TI9 rfl rfl (cell_of h.cell rfl) ⟨rfl, rfl⟩)) ?_
    refine WQ.c rfl ((QO.r fun _ => r_lenT TI9 rfl)) ?_
    refine WQ.c rfl ((QO.o rfl fun _ => o_lt rfl rfl ⟨rfl, rfl⟩)) ?_
    refine WQ.c rfl ((QO.o rfl fun _ => o_mvh (show _ = Value.bool _ from rfl) ⟨rfl, rfl⟩)) ?_
    refine WQ.g rfl (by simp; omega) rfl ((QO.o rfl fun _ => o_mvh h0 ⟨rfl, rfl⟩)) ?_
    refine WQ.g rfl (by simp; omega) rfl ((QO.r fun _ => r_nil rfl)) ?_
    refine WQ.g rfl (by simp; omega) rfl ((QO.o rfl fun _ => o_fa 0 TI111 rfl TI9 rfl rfl ⟨rfl, rfl⟩)) ?_
    refine WQ.g rfl (by simp; omega) rfl ((QO.o rfl fun _ => o_ld TI9 rfl rfl (cell_of h.cell rfl) ⟨rfl, rfl⟩)) ?_
    refine WQ.g rfl (by simp; omega) rfl ((QO.o rfl fun _ => o_mvh h0 ⟨rfl, rfl⟩)) ?_
    refine WQ.g rfl (by simp; omega) rfl ((QO.r fun _ => r_nil rfl)) ?_
    refine WQ.g rfl (by simp; omega) rfl ((QO.o rfl fun _ => o_fa 1 TI111 rfl TI3 rfl rfl ⟨rfl, rfl⟩)) ?_
    refine WQ.g rfl (by simp; omega) rfl ((QO.o rfl fun _ => o_ld TI3 rfl rfl (cell_of h.cell rfl) ⟨rfl, rfl⟩)) ?_
    refine WQ.g rfl (by simp; omega) rfl ((QO.o rfl fun _ => o_idT TI9 rfl rfl (by omega) ⟨rfl, rfl⟩)) ?_
    refine WQ.g rfl (by simp; omega) rfl ((QO.o rfl fun _ => o_ge rfl rfl ⟨rfl, rfl⟩)) ?_
    refine WQ.c rfl ((QO.r fun _ => r_pickA rfl rfl)) ?_
    refine WQ.c rfl ((QO.o rfl fun _ => o_mvh (show _ = Value.bool _ from rfl) ⟨rfl, rfl⟩)) ?_
    refine WQ.g rfl (by simp; omega) rfl ((QO.o rfl fun _ => o_mvh h0 ⟨rfl, rfl⟩)) ?_
    refine WQ.g rfl (by simp; omega) rfl ((QO.r fun _ => r_nil rfl)) ?_
    refine WQ.g rfl (by simp; omega) rfl ((QO.o rfl fun _ => o_fa 0 TI111 rfl TI9 rfl rfl ⟨rfl, rfl⟩)) ?_
    refine WQ.g rfl (by simp; omega) rfl ((QO.o rfl fun _ => o_ld TI9 rfl rfl (cell_of h.cell rfl) ⟨rfl, rfl⟩)) ?_
    refine WQ.g rfl (by simp; omega) rfl ((QO.o rfl fun _ => o_mvh h0 ⟨rfl, rfl⟩)) ?_
    refine WQ.g rfl (by simp; omega) rfl ((QO.r fun _ => r_nil rfl)) ?_
    refine WQ.g rfl (by simp; omega) rfl ((QO.o rfl fun _ => o_fa 1 TI111 rfl TI3 rfl rfl ⟨rfl, rfl⟩)) ?_
    refine WQ.g rfl (by simp; omega) rfl ((QO.o rfl fun _ => o_ld TI3 rfl rfl (cell_of h.cell rfl) ⟨rfl, rfl⟩)) ?_
    refine WQ.g rfl (by simp; omega) rfl ((QO.o rfl fun _ => o_idT TI9 rfl rfl (by omega) ⟨rfl, rfl⟩)) ?_
    refine WQ.g rfl (by simp; omega) rfl ((QO.o rfl fun _ => o_le rfl rfl ⟨rfl, rfl⟩)) ?_
    refine WQ.c rfl ((QO.r fun _ => r_pickA rfl rfl)) ?_
    refine WQ.nil ?_
    intro nq
    have hq := Only.drewN w nq
    replace h := h.ext hq
    replace ho := ho.trans' hq (fun _ h => h) (fun _ _ h => h.elim)
    generalize World.drewN w nq = wq2 at *
    clear hq
    refine W.condF' rfl (by simp; omega) ?_
    refine W.exit ?_
    refine W.seq ?_
    refine W.quiet rfl (by kernel_rfl) ?_
    refine WQ.c rfl ((QO.o rfl fun _ => o_mvh h6 ⟨rfl, rfl⟩)) ?_
    refine WQ.c rfl ((QO.o rfl fun _ => o_mvh h0 ⟨rfl, rfl⟩)) ?_
    refine WQ.c rfl ((QO.r fun _ => r_nil rfl)) ?_
    refine WQ.c rfl ((QO.o rfl fun _ => o_fa 1 TI111 rfl TI3 rfl rfl ⟨rfl, rfl⟩)) ?_
    refine WQ.c rfl ((QO.o rfl fun _ => o_ld TI3 rfl rfl (cell_of h.cell rfl) ⟨rfl, rfl⟩)) ?_
    refine WQ.c rfl ((QO.o rfl fun _ => o_mvh h7 ⟨rfl, rfl⟩)) ?_
    refine WQ.c rfl ((QO.o rfl fun _ => o_gt rfl rfl ⟨rfl, rfl⟩)) ?_
    refine WQ.c rfl ((QO.o rfl fun _ => o_ash (show _ = Value.int _ _ from rfl) ⟨rfl, rfl⟩)) ?_
    refine WQ.c rfl ((QO.o rfl fun _ => o_ash (show _ = Value.bool _ from rfl) ⟨rfl, rfl⟩)) ?_
    refine WQ.nil ?_
    intro nq
    refine W.ret ?_
    refine ret2v rfl (show _ = Value.int _ _ from rfl) (show _ = Value.bool _ from rfl) ?_
    exact ⟨by rw [hn, hnx]; congr 2; simp; omega, by rw [hn, hnx]; exact h.ext (Only.drewN _ _), ho.trans' (Only.drewN _ _) (fun _ h => h) (fun _ _ h => h.elim)⟩
  · skip
    refine W.quiet rfl (by kernel_rfl) ?_
    refine WQ.c rfl ((QO.o rfl fun _ => o_mvh h0 ⟨rfl, rfl⟩)) ?_
    refine WQ.c rfl ((QO.r fun _ => r_nil rfl)) ?_
    refine WQ.c rfl ((QO.o rfl fun _ => o_fa 1 TI111 rfl TI3 rfl rfl ⟨rfl, rfl⟩)) ?_
    refine WQ.c rfl ((QO.o rfl fun _ => o_ld TI3 rfl rfl (cell_of h.cell rfl) ⟨rfl, rfl⟩)) ?_
    refine WQ.c rfl ((QO.o rfl fun _ => o_mvh h0 ⟨rfl, rfl⟩)) ?_
    refine WQ.c rfl ((QO.r fun _ => r_nil rfl)) ?_
    refine WQ.c rfl ((QO.o rfl fun _ => o_fa 0 TI111 rfl TI9 rfl rfl ⟨rfl, rfl⟩)) ?_
    refine WQ.c rfl ((QO.o rfl fun _ => o_ld TI9 rfl rfl (cell_of h.cell rfl) ⟨rfl, rfl⟩)) ?_
    refine WQ.c rfl ((QO.r fun _ => r_lenT TI9 rfl)) ?_
    refine WQ.c rfl ((QO.o rfl fun _ => o_lt rfl rfl ⟨rfl, rfl⟩)) ?_
    refine WQ.c rfl ((QO.o rfl fun _ => o_mvh (show _ = Value.bool _ from rfl) ⟨rfl, rfl⟩)) ?_
    refine WQ.g rfl (by simp; omega) rfl ((QO.o rfl fun _ => o_mvh h0 ⟨rfl, rfl⟩)) ?_
    refine WQ.g rfl (by simp; omega) rfl ((QO.r fun _ => r_nil rfl)) ?_
    refine WQ.g rfl (by simp; omega) rfl ((QO.o rfl fun _ => o_fa 0 TI111 rfl TI9 rfl rfl ⟨rfl, rfl⟩)) ?_
    refine WQ.g rfl (by simp; omega) rfl ((QO.o rfl fun _ => o_ld TI9 rfl rfl (cell_of h.cell rfl) ⟨rfl, rfl⟩)) ?_
    refine WQ.g rfl (by simp; omega) rfl ((QO.o rfl fun _ => o_mvh h0 ⟨rfl, rfl⟩)) ?_
    refine WQ.g rfl (by simp; omega) rfl ((QO.r fun _ => r_nil rfl)) ?_
    refine WQ.g rfl (by simp; omega) rfl ((QO.o rfl fun _ => o_fa 1 TI111 rfl TI3 rfl rfl ⟨rfl, rfl⟩)) ?_
    refine WQ.g rfl (by simp; omega) rfl ((QO.o rfl fun _ => o_ld TI3 rfl rfl (cell_of h.cell rfl) ⟨rfl, rfl⟩)) ?_
    refine WQ.g rfl (by simp; omega) rfl ((QO.o rfl fun _ => o_idT TI9 rfl rfl (by omega) ⟨rfl, rfl⟩)) ?_
    refine WQ.g rfl (by simp; omega) rfl ((QO.o rfl fun _ => o_ge rfl rfl ⟨rfl, rfl⟩)) ?_
    refine WQ.c rfl ((QO.r fun _ => r_pickA rfl rfl)) ?_
    refine WQ.c rfl ((QO.o rfl fun _ => o_mvh (show _ = Value.bool _ from rfl) ⟨rfl, rfl⟩)) ?_
    refine WQ.g rfl (by simp; omega) rfl ((QO.o rfl fun _ => o_mvh h0 ⟨rfl, rfl⟩)) ?_
    refine WQ.g rfl (by simp; omega) rfl ((QO.r fun _ => r_nil rfl)) ?_
    refine WQ.g rfl (by simp; omega) rfl ((QO.o rfl fun _ => o_fa 0 TI111 rfl TI9 rfl rfl ⟨rfl, rfl⟩)) ?_
    refine WQ.g rfl (by simp; omega) rfl ((QO.o rfl fun _ => o_ld TI9 rfl rfl (cell_of h.cell rfl) ⟨rfl, rfl⟩)) ?_
    refine WQ.g rfl (by simp; omega) rfl ((QO.o rfl fun _ => o_mvh h0 ⟨rfl, rfl⟩)) ?_
    refine WQ.g rfl (by simp; omega) rfl ((QO.r fun _ => r_nil rfl)) ?_
    refine WQ.g rfl (by simp; omega) rfl ((QO.o rfl fun _ => o_fa 1 TI111 rfl TI3 rfl rfl ⟨rfl, rfl⟩)) ?_
    refine WQ.g rfl (by simp; omega) rfl ((QO.o rfl fun _ => o_ld TI3 rfl rfl (cell_of h.cell rfl) ⟨rfl, rfl⟩)) ?_
    refine WQ.g rfl (by simp; omega) rfl ((QO.o rfl fun _ => o_idT TI9 rfl rfl (by omega) ⟨rfl, rfl⟩)) ?_
    refine WQ.g rfl (by simp; omega) rfl ((QO.o rfl fun _ => o_le rfl rfl ⟨rfl, rfl⟩)) ?_
    refine WQ.c rfl ((QO.r fun _ => r_pickA rfl rfl)) ?_
    refine WQ.nil ?_
    intro nq
    have hq := Only.drewN w nq
    replace h := h.ext hq
    replace ho := ho.trans' hq (fun _ h => h) (fun _ _ h => h.elim)
    generalize World.drewN w nq = wq2 at *
    clear hq
    refine W.condT' rfl (by simp; omega) ?_
    refine W.skip ?_
    refine W.block ?_
    refine W.seq ?_
    refine W.quiet rfl (by kernel_rfl) ?_
    refine WQ.c rfl ((QO.o rfl fun _ => o_mvh h0 ⟨rfl, rfl⟩)) ?_
    refine WQ.c rfl ((QO.r fun _ => r_nil rfl)) ?_
    refine WQ.c rfl ((QO.o rfl fun _ => o_fa 0 TI111 rfl TI9 rfl rfl ⟨rfl, rfl⟩)) ?_
    refine WQ.c rfl ((QO.o rfl fun _ => o_ld TI9 rfl rfl (cell_of h.cell rfl) ⟨rfl, rfl⟩)) ?_
    refine WQ.c rfl ((QO.o rfl fun _ => o_mvh h0 ⟨rfl, rfl⟩)) ?_
    refine WQ.c rfl ((QO.r fun _ => r_nil rfl)) ?_
    refine WQ.c rfl ((QO.o rfl fun _ => o_fa 1 TI111 rfl TI3 rfl rfl ⟨rfl, rfl⟩)) ?_
    refine WQ.c rfl ((QO.o rfl fun _ => o_ld TI3 rfl rfl (cell_of h.cell rfl) ⟨rfl, rfl⟩)) ?_
    refine WQ.c rfl ((QO.o rfl fun _ => o_idT TI9 rfl rfl (by omega) ⟨rfl, rfl⟩)) ?_
    refine WQ.c rfl ((QO.o rfl fun _ => o_subU (a := T[j + k].toNat) (b := 48) 256 rfl (by decide) rfl rfl hd1 (by omega) ⟨rfl, rfl⟩)) ?_
    refine WQ.c rfl ((QO.o rfl fun _ => n_cvI 18446744073709551616 rfl TI5 TI43 (by decide) rfl ⟨rfl, rfl⟩)) ?_
    refine WQ.c rfl ((QO.o rfl fun _ => o_ash (show _ = Value.int _ _ from rfl) ⟨rfl, rfl⟩)) ?_
    refine WQ.nil ?_
    intro nq
    have hq := Only.drewN wq2 nq
    replace h := h.ext hq
    replace ho := ho.trans' hq (fun _ h => h) (fun _ _ h => h.elim)
    generalize World.drewN wq2 nq = wq3 at *
    clear hq
    refine W.seq ?_
    refine W.seq ?_
    by_cases hz : 0 < k ∧ n = 0
    · skip
      skip
      have hdg : (T[j + k].toNat - 48) % 18446744073709551616 = dg T[j + k] := by unfold dg; omega
      refine W.region ?_
      refine WL.c rfl (o_mvh h0 ?_)
      refine WL.c rfl (o_nil rfl ?_)
      refine WL.c rfl (o_fa 1 TI111 rfl TI3 rfl rfl ?_)
      refine WL.c rfl (o_ld TI3 rfl rfl (cell_of h.cell rfl) ?_)
      refine WL.c rfl (o_mvh h7 ?_)
      refine WL.c rfl (o_gt rfl rfl ?_)
      refine WL.c rfl (o_mvh (show _ = Value.bool _ from rfl) ?_)
      refine WL.g rfl (by simp; omega) rfl (o_mvh h6 ?_)
      refine WL.g rfl (by simp; omega) rfl (o_eq rfl rfl ?_)
      refine WL.c rfl (o_pickA rfl rfl ?_)
      refine WL.c rfl (o_mvh (show _ = Value.bool _ from rfl) ?_)
      refine WL.s rfl (by simp; omega) rfl ?_
      refine WL.s rfl (by simp; omega) rfl ?_
      refine WL.s rfl (by simp; omega) rfl ?_
      refine WL.c rfl (o_pickT rfl (by simp; omega) ?_)
      refine WL.c rfl (o_mvh (show _ = Value.bool _ from rfl) ?_)
      refine WL.s rfl (rfl) rfl ?_
      refine WL.s rfl (rfl) rfl ?_
      refine WL.s rfl (rfl) rfl ?_
      refine WL.s rfl (rfl) rfl ?_
      refine WL.s rfl (rfl) rfl ?_
      refine WL.s rfl (rfl) rfl ?_
      refine WL.c rfl (o_pickT rfl (rfl) ?_)
      refine WL.nil ?_
      refine W.condT' rfl (rfl) ?_
      refine W.seq ?_
      refine W.region ?_
      refine WL.c rfl (o_ash (show _ = Value.int _ _ from rfl) ?_)
      refine WL.c rfl (o_ash (show _ = Value.bool _ from rfl) ?_)
      refine WL.nil ?_
      refine W.ret ?_
      refine ret2v rfl (show _ = Value.int _ _ from rfl) (show _ = Value.bool _ from rfl) ?_
      exact ⟨by rw [hn, hnx, if_pos (Or.inl hz)]; rfl, by rw [hn, hnx, if_pos (Or.inl hz)]; exact h, ho⟩
    · skip
      skip
      have hdg : (T[j + k].toNat - 48) % 18446744073709551616 = dg T[j + k] := by unfold dg; omega
      refine W.region ?_
      refine WL.c rfl (o_mvh h0 ?_)
      refine WL.c rfl (o_nil rfl ?_)
      refine WL.c rfl (o_fa 1 TI111 rfl TI3 rfl rfl ?_)
      refine WL.c rfl (o_ld TI3 rfl rfl (cell_of h.cell rfl) ?_)
      refine WL.c rfl (o_mvh h7 ?_)
      refine WL.c rfl (o_gt rfl rfl ?_)
      refine WL.c rfl (o_mvh (show _ = Value.bool _ from rfl) ?_)
      refine WL.sp 6 rfl (fun g64 => ?_) (fun g64 => ?_)
      · skip
        refine WL.g rfl (g64) rfl (o_mvh h6 ?_)
        refine WL.g rfl (g64) rfl (o_eq rfl rfl ?_)
        refine WL.c rfl (o_pickA rfl rfl ?_)
        refine WL.c rfl (o_mvh (show _ = Value.bool _ from rfl) ?_)
        refine WL.g rfl (by simp; omega) rfl (o_mvh (show _ = Value.int _ _ from rfl) ?_)
        refine WL.g rfl (by simp; omega) rfl (o_mvh h1 ?_)
        refine WL.g rfl (by simp; omega) rfl (o_gt rfl rfl ?_)
        refine WL.c rfl (o_pickO rfl rfl ?_)
        refine WL.c rfl (o_mvh (show _ = Value.bool _ from rfl) ?_)
        refine WL.g rfl (by simp; omega) rfl (o_mvh h6 ?_)
        refine WL.g rfl (by simp; omega) rfl (o_mvh h1 ?_)
        refine WL.g rfl (by simp; omega) rfl (o_mvh (show _ = Value.int _ _ from rfl) ?_)
        refine WL.g rfl (by simp; omega) rfl (o_subU (a := m) 18446744073709551616 rfl (by decide) rfl rfl (by omega) hm2 ?_)
        refine WL.g rfl (by simp; omega) rfl (n_quo (b := 10) 18446744073709551616 rfl (by decide) rfl rfl (by omega) (by decide) ?_)
        refine WL.g rfl (by simp; omega) rfl (o_gt rfl rfl ?_)
        refine WL.c rfl (o_pickO rfl rfl ?_)
        refine WL.nil ?_
        refine W.cond rfl (fun c80 => ?_) (fun c80 => ?_)
        · try simp only [decide_eq_true_eq, decide_eq_false_iff_not, Bool.not_eq_true', Bool.not_eq_false', Bool.and_eq_true, Bool.or_eq_true, Bool.and_eq_false_iff, Bool.or_eq_false_iff] at c80
          rw [hdg] at c80
          have hbad : (m - dg T[j + k]) / 10 < n := by
            rcases c80 with (⟨h1, h2⟩ | h1) | h1 <;> first | omega | exact absurd ⟨by omega, by omega⟩ hz
          refine W.seq ?_
          refine W.region ?_
          refine WL.c rfl (o_ash (show _ = Value.int _ _ from rfl) ?_)
          refine WL.c rfl (o_ash (show _ = Value.bool _ from rfl) ?_)
          refine WL.nil ?_
          refine W.ret ?_
          refine ret2v rfl (show _ = Value.int _ _ from rfl) (show _ = Value.bool _ from rfl) ?_
          exact ⟨by rw [hn, hnx, if_pos (Or.inr hbad)]; rfl, by rw [hn, hnx, if_pos (Or.inr hbad)]; exact h, ho⟩
        · try simp only [decide_eq_true_eq, decide_eq_false_iff_not, Bool.not_eq_true', Bool.not_eq_false', Bool.and_eq_true, Bool.or_eq_true, Bool.and_eq_false_iff, Bool.or_eq_false_iff] at c80
          rw [hdg] at c80
          have hok : ¬ ((0 < k ∧ n = 0) ∨ (m - dg T[j + k]) / 10 < n) := fun h => h.elim hz (fun h => by omega)
          refine W.skip ?_
          refine W.seq ?_
          refine W.region ?_
          refine WL.c rfl (o_mvh h6 ?_)
          refine WL.c rfl (n_mul (a := 10) 18446744073709551616 rfl (by decide) rfl rfl ?_)
          refine WL.c rfl (o_mvh (show _ = Value.int _ _ from rfl) ?_)
          refine WL.c rfl (n_add 18446744073709551616 rfl (by decide) rfl rfl ?_)
          refine WL.c rfl (o_ash (show _ = Value.int _ _ from rfl) ?_)
          refine WL.nil ?_
          refine W.region ?_
          refine WL.c rfl (o_mvh h0 ?_)
          refine WL.c rfl (o_nil rfl ?_)
          refine WL.c rfl (o_fa 1 TI111 rfl TI3 rfl rfl ?_)
          refine WL.c rfl (o_ld TI3 rfl rfl (cell_of h.cell rfl) ?_)
          refine WL.c rfl (o_addi rfl rfl (by omega) ?_)
          refine WL.c rfl (o_nil rfl ?_)
          refine WL.c rfl (o_fa 1 TI111 rfl TI3 rfl rfl ?_)
          refine WL.u (o_stB TI3 rfl (show _ = Value.int _ _ from rfl) rfl h.cell (show 1 < 4 by decide) ?_)
          intro w91 hB91 ho91 hs91
          replace h := h.move (j2 := j + (k + 1)) hB91 ho91
          replace ho := ho.trans' ho91 (fun _ h => h) (fun _ _ h => h)
          clear hB91 ho91 hs91
          refine WL.nil ?_
          have hnm2 : 10 * n + dg T[j + k] ≤ m := by omega
          have hmod : (10 * n % 18446744073709551616 + (T[j + k].toNat - 48) % 18446744073709551616) % 18446744073709551616 = 10 * n + dg T[j + k] := by omega
          exact ⟨T.length - (k + 1), by omega, 10 * n + dg T[j + k], k + 1, rfl, hnm2, h0, h1, by show Value.int _ _ = _; rw [hmod], h7, h, by omega, by rw [hn, hnx, if_neg hok], ho⟩
      · skip
        refine WL.s rfl (g64) rfl ?_
        refine WL.s rfl (g64) rfl ?_
        refine WL.c rfl (o_pickF rfl (g64) ?_)
        refine WL.c rfl (o_mvh (show _ = Value.bool _ from rfl) ?_)
        refine WL.g rfl (rfl) rfl (o_mvh (show _ = Value.int _ _ from rfl) ?_)
        refine WL.g rfl (rfl) rfl (o_mvh h1 ?_)
        refine WL.g rfl (rfl) rfl (o_gt rfl rfl ?_)
        refine WL.c rfl (o_pickO rfl rfl ?_)
        refine WL.c rfl (o_mvh (show _ = Value.bool _ from rfl) ?_)
        refine WL.g rfl (by simp; omega) rfl (o_mvh h6 ?_)
        refine WL.g rfl (by simp; omega) rfl (o_mvh h1 ?_)
        refine WL.g rfl (by simp; omega) rfl (o_mvh (show _ = Value.int _ _ from rfl) ?_)
        refine WL.g rfl (by simp; omega) rfl (o_subU (a := m) 18446744073709551616 rfl (by decide) rfl rfl (by omega) hm2 ?_)
        refine WL.g rfl (by simp; omega) rfl (n_quo (b := 10) 18446744073709551616 rfl (by decide) rfl rfl (by omega) (by decide) ?_)
        refine WL.g rfl (by simp; omega) rfl (o_gt rfl rfl ?_)
        refine WL.c rfl (o_pickO rfl rfl ?_)
        refine WL.nil ?_
        refine W.cond rfl (fun c80 => ?_) (fun c80 => ?_)
        · try simp only [decide_eq_true_eq, decide_eq_false_iff_not, Bool.not_eq_true', Bool.not_eq_false', Bool.and_eq_true, Bool.or_eq_true, Bool.and_eq_false_iff, Bool.or_eq_false_iff] at c80
          rw [hdg] at c80
          have hbad : (m - dg T[j + k]) / 10 < n := by
            rcases c80 with (⟨h1, h2⟩ | h1) | h1 <;> first | omega | exact absurd ⟨by omega, by omega⟩ hz
          refine W.seq ?_
          refine W.region ?_
          refine WL.c rfl (o_ash (show _ = Value.int _ _ from rfl) ?_)
          refine WL.c rfl (o_ash (show _ = Value.bool _ from rfl) ?_)
          refine WL.nil ?_
          refine W.ret ?_
          refine ret2v rfl (show _ = Value.int _ _ from rfl) (show _ = Value.bool _ from rfl) ?_
          exact ⟨by rw [hn, hnx, if_pos (Or.inr hbad)]; rfl, by rw [hn, hnx, if_pos (Or.inr hbad)]; exact h, ho⟩
        · try simp only [decide_eq_true_eq, decide_eq_false_iff_not, Bool.not_eq_true', Bool.not_eq_false', Bool.and_eq_true, Bool.or_eq_true, Bool.and_eq_false_iff, Bool.or_eq_false_iff] at c80
          rw [hdg] at c80
          have hok : ¬ ((0 < k ∧ n = 0) ∨ (m - dg T[j + k]) / 10 < n) := fun h => h.elim hz (fun h => by omega)
          refine W.skip ?_
          refine W.seq ?_
          refine W.region ?_
          refine WL.c rfl (o_mvh h6 ?_)
          refine WL.c rfl (n_mul (a := 10) 18446744073709551616 rfl (by decide) rfl rfl ?_)
          refine WL.c rfl (o_mvh (show _ = Value.int _ _ from rfl) ?_)
          refine WL.c rfl (n_add 18446744073709551616 rfl (by decide) rfl rfl ?_)
          refine WL.c rfl (o_ash (show _ = Value.int _ _ from rfl) ?_)
          refine WL.nil ?_
          refine W.region ?_
          refine WL.c rfl (o_mvh h0 ?_)
          refine WL.c rfl (o_nil rfl ?_)
          refine WL.c rfl (o_fa 1 TI111 rfl TI3 rfl rfl ?_)
          refine WL.c rfl (o_ld TI3 rfl rfl (cell_of h.cell rfl) ?_)
          refine WL.c rfl (o_addi rfl rfl (by omega) ?_)
          refine WL.c rfl (o_nil rfl ?_)
          refine WL.c rfl (o_fa 1 TI111 rfl TI3 rfl rfl ?_)
          refine WL.u (o_stB TI3 rfl (show _ = Value.int _ _ from rfl) rfl h.cell (show 1 < 4 by decide) ?_)
          intro w91 hB91 ho91 hs91
          replace h := h.move (j2 := j + (k + 1)) hB91 ho91
          replace ho := ho.trans' ho91 (fun _ h => h) (fun _ _ h => h)
          clear hB91 ho91 hs91
          refine WL.nil ?_
          have hnm2 : 10 * n + dg T[j + k] ≤ m := by omega
          have hmod : (10 * n % 18446744073709551616 + (T[j + k].toNat - 48) % 18446744073709551616) % 18446744073709551616 = 10 * n + dg T[j + k] := by omega
          exact ⟨T.length - (k + 1), by omega, 10 * n + dg T[j + k], k + 1, rfl, hnm2, h0, h1, by show Value.int _ _ = _; rw [hmod], h7, h, by omega, by rw [hn, hnx, if_neg hok], ho⟩
end Go.Proofs.YtgmjfcekeglhjaaDoor
