/-
  Walks and lemmas. Written by program out of specs of mine.
-/
import Derived.WalkKit
import Derived.WalkSpells
import Derived.WalkLawsBesides
import Derived.Deep.Quiet
import Derived.StillTail
import Derived.StringKeys
import Derived.Laws.StructEq
import Derived.Laws.Externs
import Derived.Laws.Tables
import Derived.Scope
import Derived.Test.YtpbflfgigfdohaaProg
import Derived.Laws.AppendOwn
import Derived.Maps.AppendAt
import Derived.Recover
import Derived.Lib.Bytealg
import Derived.SizedLaws
import Derived.ChangeArms
import Derived.ChangeSlices
import Derived.Maps.OwnSet
import Derived.Test.YtpbflfgigfdohaaRows
import Derived.ProofKit
import Derived.OpenShut
import Derived.ShutString
import Derived.ChangeOld
import Derived.Below
import Derived.Test.YtpbflfgigfdohaaKc1
set_option linter.unusedSimpArgs false
set_option linter.unusedVariables false
set_option maxRecDepth 100000
set_option linter.unusedSimpArgs false
set_option linter.unusedVariables false
set_option maxRecDepth 100000
namespace Go.Proofs.Ytpbflfgigfdohaa
open Go Go.Vc Go.RowKit Go.Proofs

def hdB (xs : List UInt8) : Bool := decide (xs = []) || decide (32 < xs.length) || !(xs.head?.any letB) || wordB xs
theorem nameB_hd (xs : List UInt8) : nameB xs = (!hdB xs && xs.all goeB) := by
  rw [Bool.eq_iff_iff]
  simp [nameB, hdB]
  constructor
  · rintro ⟨⟨⟨⟨h1, h2⟩, h3⟩, h4⟩, h5⟩; exact ⟨⟨⟨⟨h1, h2⟩, h3⟩, h5⟩, h4⟩
  rintro ⟨⟨⟨⟨h1, h2⟩, h3⟩, h5⟩, h4⟩; exact ⟨⟨⟨⟨h1, h2⟩, h3⟩, h4⟩, h5⟩
theorem all_bad {p : UInt8 → Bool} {xs : List UInt8} {k : Nat} (hk : k < xs.length) (hp : p xs[k] = false) : xs.all p = false :=
  List.all_eq_false.2 ⟨xs[k], List.getElem_mem hk, by simp [hp]⟩
theorem all_more {p : UInt8 → Bool} {xs : List UInt8} {k : Nat} (hk : k < xs.length) (hp : p xs[k] = true) (h : (xs.take k).all p = true) : (xs.take (k + 1)).all p = true := by
  rw [List.take_succ_eq_append_getElem hk, List.all_append, h]; simp [hp]

theorem rword_spec (xs : List UInt8) (w0 : World) : Ca Try.prog 72 #[st xs] w0 (fun v w' => v = .bool (wordB xs) ∧ w' = w0) := by
  refine Ca.of Try.func72 Try.ntmps72 rfl rfl ?_
  refine W.seq ?_
  refine W.region ?_
  refine WL.c rfl (o_as ?_)
  refine WL.nil ?_
  refine W.seq ?_
  refine W.seq ?_
  refine W.region ?_
  refine WL.c rfl (o_mv ?_)
  refine WL.nil ?_
  refine W.block ?_
  refine W.seq ?_
  refine W.seq ?_
  refine W.region ?_
  refine WL.c rfl (o_eqT rfl rfl ?_)
  refine WL.c rfl (o_as ?_)
  refine WL.nil ?_
  refine W.cond rfl (fun c4 => ?_) (fun c4 => ?_)
  · try simp only [cs8] at c4
    refine W.skip ?_
    refine W.cond rfl (fun c4 => ?_) (fun c4 => ?_)
    · try simp only [cs8] at c4
      refine W.seq ?_
      refine W.region ?_
      refine WL.c rfl (o_as ?_)
      refine WL.nil ?_
      refine W.ret ?_
      refine ret1v rfl (show _ = Value.bool _ from rfl) ?_
      exact ⟨congrArg Value.bool (by simp_all [wordB, words]), rfl⟩
    try simp only [cs8] at c4
    refine W.skip ?_
    refine W.seq ?_
    refine W.region ?_
    refine WL.c rfl (o_as ?_)
    refine WL.nil ?_
    refine W.ret ?_
    refine ret1v rfl (show _ = Value.bool _ from rfl) ?_
    exact ⟨congrArg Value.bool (by simp_all [wordB, words]), rfl⟩
  try simp only [cs8] at c4
  refine W.seq ?_
  refine W.region ?_
  refine WL.c rfl (o_eqT rfl rfl ?_)
  refine WL.c rfl (o_as ?_)
  refine WL.nil ?_
  refine W.cond rfl (fun c4 => ?_) (fun c4 => ?_)
  · try simp only [cs8] at c4
    refine W.skip ?_
    refine W.cond rfl (fun c4 => ?_) (fun c4 => ?_)
    · try simp only [cs8] at c4
      refine W.seq ?_
      refine W.region ?_
      refine WL.c rfl (o_as ?_)
      refine WL.nil ?_
      refine W.ret ?_
      refine ret1v rfl (show _ = Value.bool _ from rfl) ?_
      exact ⟨congrArg Value.bool (by simp_all [wordB, words]), rfl⟩
    try simp only [cs8] at c4
    refine W.skip ?_
    refine W.seq ?_
    refine W.region ?_
    refine WL.c rfl (o_as ?_)
    refine WL.nil ?_
    refine W.ret ?_
    refine ret1v rfl (show _ = Value.bool _ from rfl) ?_
    exact ⟨congrArg Value.bool (by simp_all [wordB, words]), rfl⟩
  try simp only [cs8] at c4
  refine W.seq ?_
  refine W.region ?_
  refine WL.c rfl (o_eqT rfl rfl ?_)
  refine WL.c rfl (o_as ?_)
  refine WL.nil ?_
  refine W.cond rfl (fun c4 => ?_) (fun c4 => ?_)
  · try simp only [cs8] at c4
    refine W.skip ?_
    refine W.cond rfl (fun c4 => ?_) (fun c4 => ?_)
    · try simp only [cs8] at c4
      refine W.seq ?_
      refine W.region ?_
      refine WL.c rfl (o_as ?_)
      refine WL.nil ?_
      refine W.ret ?_
      refine ret1v rfl (show _ = Value.bool _ from rfl) ?_
      exact ⟨congrArg Value.bool (by simp_all [wordB, words]), rfl⟩
    try simp only [cs8] at c4
    refine W.skip ?_
    refine W.seq ?_
    refine W.region ?_
    refine WL.c rfl (o_as ?_)
    refine WL.nil ?_
    refine W.ret ?_
    refine ret1v rfl (show _ = Value.bool _ from rfl) ?_
    exact ⟨congrArg Value.bool (by simp_all [wordB, words]), rfl⟩
  try simp only [cs8] at c4
  refine W.seq ?_
  refine W.region ?_
  refine WL.c rfl (o_eqT rfl rfl ?_)
  refine WL.c rfl (o_as ?_)
  refine WL.nil ?_
  refine W.cond rfl (fun c4 => ?_) (fun c4 => ?_)
  · try simp only [cs8] at c4
    refine W.skip ?_
    refine W.cond rfl (fun c4 => ?_) (fun c4 => ?_)
    · try simp only [cs8] at c4
      refine W.seq ?_
      refine W.region ?_
      refine WL.c rfl (o_as ?_)
      refine WL.nil ?_
      refine W.ret ?_
      refine ret1v rfl (show _ = Value.bool _ from rfl) ?_
      exact ⟨congrArg Value.bool (by simp_all [wordB, words]), rfl⟩
    try simp only [cs8] at c4
    refine W.skip ?_
    refine W.seq ?_
    refine W.region ?_
    refine WL.c rfl (o_as ?_)
    refine WL.nil ?_
    refine W.ret ?_
    refine ret1v rfl (show _ = Value.bool _ from rfl) ?_
    exact ⟨congrArg Value.bool (by simp_all [wordB, words]), rfl⟩
  try simp only [cs8] at c4
  refine W.seq ?_
  refine W.region ?_
  refine WL.c rfl (o_eqT rfl rfl ?_)
  refine WL.c rfl (o_as ?_)
  refine WL.nil ?_
  refine W.cond rfl (fun c4 => ?_) (fun c4 => ?_)
  · try simp only [cs8] at c4
    refine W.skip ?_
    refine W.cond rfl (fun c4 => ?_) (fun c4 => ?_)
    · try simp only [cs8] at c4
      refine W.seq ?_
      refine W.region ?_
      refine WL.c rfl (o_as ?_)
      refine WL.nil ?_
      refine W.ret ?_
      refine ret1v rfl (show _ = Value.bool _ from rfl) ?_
      exact ⟨congrArg Value.bool (by simp_all [wordB, words]), rfl⟩
    try simp only [cs8] at c4
    refine W.skip ?_
    refine W.seq ?_
    refine W.region ?_
    refine WL.c rfl (o_as ?_)
    refine WL.nil ?_
    refine W.ret ?_
    refine ret1v rfl (show _ = Value.bool _ from rfl) ?_
    exact ⟨congrArg Value.bool (by simp_all [wordB, words]), rfl⟩
  try simp only [cs8] at c4
  refine W.seq ?_
  refine W.region ?_
  refine WL.c rfl (o_eqT rfl rfl ?_)
  refine WL.c rfl (o_as ?_)
  refine WL.nil ?_
  refine W.cond rfl (fun c4 => ?_) (fun c4 => ?_)
  · try simp only [cs8] at c4
    refine W.skip ?_
    refine W.cond rfl (fun c4 => ?_) (fun c4 => ?_)
    · try simp only [cs8] at c4
      refine W.seq ?_
      refine W.region ?_
      refine WL.c rfl (o_as ?_)
      refine WL.nil ?_
      refine W.ret ?_
      refine ret1v rfl (show _ = Value.bool _ from rfl) ?_
      exact ⟨congrArg Value.bool (by simp_all [wordB, words]), rfl⟩
    try simp only [cs8] at c4
    refine W.skip ?_
    refine W.seq ?_
    refine W.region ?_
    refine WL.c rfl (o_as ?_)
    refine WL.nil ?_
    refine W.ret ?_
    refine ret1v rfl (show _ = Value.bool _ from rfl) ?_
    exact ⟨congrArg Value.bool (by simp_all [wordB, words]), rfl⟩
  try simp only [cs8] at c4
  refine W.seq ?_
  refine W.region ?_
  refine WL.c rfl (o_eqT rfl rfl ?_)
  refine WL.c rfl (o_as ?_)
  refine WL.nil ?_
  refine W.cond rfl (fun c4 => ?_) (fun c4 => ?_)
  · try simp only [cs8] at c4
    refine W.skip ?_
    refine W.cond rfl (fun c4 => ?_) (fun c4 => ?_)
    · try simp only [cs8] at c4
      refine W.seq ?_
      refine W.region ?_
      refine WL.c rfl (o_as ?_)
      refine WL.nil ?_
      refine W.ret ?_
      refine ret1v rfl (show _ = Value.bool _ from rfl) ?_
      exact ⟨congrArg Value.bool (by simp_all [wordB, words]), rfl⟩
    try simp only [cs8] at c4
    refine W.skip ?_
    refine W.seq ?_
    refine W.region ?_
    refine WL.c rfl (o_as ?_)
    refine WL.nil ?_
    refine W.ret ?_
    refine ret1v rfl (show _ = Value.bool _ from rfl) ?_
    exact ⟨congrArg Value.bool (by simp_all [wordB, words]), rfl⟩
  try simp only [cs8] at c4
  refine W.seq ?_
  refine W.region ?_
  refine WL.c rfl (o_eqT rfl rfl ?_)
  refine WL.c rfl (o_as ?_)
  refine WL.nil ?_
  refine W.cond rfl (fun c4 => ?_) (fun c4 => ?_)
  · try simp only [cs8] at c4
    refine W.skip ?_
    refine W.cond rfl (fun c4 => ?_) (fun c4 => ?_)
    · try simp only [cs8] at c4
      refine W.seq ?_
      refine W.region ?_
      refine WL.c rfl (o_as ?_)
      refine WL.nil ?_
      refine W.ret ?_
      refine ret1v rfl (show _ = Value.bool _ from rfl) ?_
      exact ⟨congrArg Value.bool (by simp_all [wordB, words]), rfl⟩
    try simp only [cs8] at c4
    refine W.skip ?_
    refine W.seq ?_
    refine W.region ?_
    refine WL.c rfl (o_as ?_)
    refine WL.nil ?_
    refine W.ret ?_
    refine ret1v rfl (show _ = Value.bool _ from rfl) ?_
    exact ⟨congrArg Value.bool (by simp_all [wordB, words]), rfl⟩
  try simp only [cs8] at c4
  refine W.seq ?_
  refine W.region ?_
  refine WL.c rfl (o_eqT rfl rfl ?_)
  refine WL.c rfl (o_as ?_)
  refine WL.nil ?_
  refine W.cond rfl (fun c4 => ?_) (fun c4 => ?_)
  · try simp only [cs8] at c4
    refine W.skip ?_
    refine W.cond rfl (fun c4 => ?_) (fun c4 => ?_)
    · try simp only [cs8] at c4
      refine W.seq ?_
      refine W.region ?_
      refine WL.c rfl (o_as ?_)
      refine WL.nil ?_
      refine W.ret ?_
      refine ret1v rfl (show _ = Value.bool _ from rfl) ?_
      exact ⟨congrArg Value.bool (by simp_all [wordB, words]), rfl⟩
    try simp only [cs8] at c4
    refine W.skip ?_
    refine W.seq ?_
    refine W.region ?_
    refine WL.c rfl (o_as ?_)
    refine WL.nil ?_
    refine W.ret ?_
    refine ret1v rfl (show _ = Value.bool _ from rfl) ?_
    exact ⟨congrArg Value.bool (by simp_all [wordB, words]), rfl⟩
  try simp only [cs8] at c4
  refine W.seq ?_
  refine W.region ?_
  refine WL.c rfl (o_eqT rfl rfl ?_)
  refine WL.c rfl (o_as ?_)
  refine WL.nil ?_
  refine W.cond rfl (fun c4 => ?_) (fun c4 => ?_)
  · try simp only [cs8] at c4
    refine W.skip ?_
    refine W.cond rfl (fun c4 => ?_) (fun c4 => ?_)
    · try simp only [cs8] at c4
      refine W.seq ?_
      refine W.region ?_
      refine WL.c rfl (o_as ?_)
      refine WL.nil ?_
      refine W.ret ?_
      refine ret1v rfl (show _ = Value.bool _ from rfl) ?_
      exact ⟨congrArg Value.bool (by simp_all [wordB, words]), rfl⟩
    try simp only [cs8] at c4
    refine W.skip ?_
    refine W.seq ?_
    refine W.region ?_
    refine WL.c rfl (o_as ?_)
    refine WL.nil ?_
    refine W.ret ?_
    refine ret1v rfl (show _ = Value.bool _ from rfl) ?_
    exact ⟨congrArg Value.bool (by simp_all [wordB, words]), rfl⟩
  try simp only [cs8] at c4
  refine W.seq ?_
  refine W.region ?_
  refine WL.c rfl (o_eqT rfl rfl ?_)
  refine WL.c rfl (o_as ?_)
  refine WL.nil ?_
  refine W.cond rfl (fun c4 => ?_) (fun c4 => ?_)
  · try simp only [cs8] at c4
    refine W.skip ?_
    refine W.cond rfl (fun c4 => ?_) (fun c4 => ?_)
    · try simp only [cs8] at c4
      refine W.seq ?_
      refine W.region ?_
      refine WL.c rfl (o_as ?_)
      refine WL.nil ?_
      refine W.ret ?_
      refine ret1v rfl (show _ = Value.bool _ from rfl) ?_
      exact ⟨congrArg Value.bool (by simp_all [wordB, words]), rfl⟩
    try simp only [cs8] at c4
    refine W.skip ?_
    refine W.seq ?_
    refine W.region ?_
    refine WL.c rfl (o_as ?_)
    refine WL.nil ?_
    refine W.ret ?_
    refine ret1v rfl (show _ = Value.bool _ from rfl) ?_
    exact ⟨congrArg Value.bool (by simp_all [wordB, words]), rfl⟩
  try simp only [cs8] at c4
  refine W.region ?_
  refine WL.c rfl (o_eqT rfl rfl ?_)
  refine WL.c rfl (o_as ?_)
  refine WL.nil ?_
  refine W.cond rfl (fun c4 => ?_) (fun c4 => ?_)
  · try simp only [cs8] at c4
    refine W.seq ?_
    refine W.region ?_
    refine WL.c rfl (o_as ?_)
    refine WL.nil ?_
    refine W.ret ?_
    refine ret1v rfl (show _ = Value.bool _ from rfl) ?_
    exact ⟨congrArg Value.bool (by simp_all [wordB, words]), rfl⟩
  try simp only [cs8] at c4
  refine W.skip ?_
  refine W.seq ?_
  refine W.region ?_
  refine WL.c rfl (o_as ?_)
  refine WL.nil ?_
  refine W.ret ?_
  refine ret1v rfl (show _ = Value.bool _ from rfl) ?_
  exact ⟨congrArg Value.bool (by simp_all [wordB, words]), rfl⟩
theorem rletter_spec (c : UInt8) (w0 : World) : Ca Try.prog 71 #[bv c] w0 (fun v w' => v = .bool (letB c) ∧ w' = w0) := by
  refine Ca.of Try.func71 Try.ntmps71 rfl rfl ?_
  refine W.seq ?_
  refine W.region ?_
  refine WL.c rfl (o_as ?_)
  refine WL.nil ?_
  refine W.seq ?_
  refine W.region ?_
  refine WL.c rfl (o_mv ?_)
  refine WL.c rfl (o_ge rfl rfl ?_)
  refine WL.c rfl (o_mv ?_)
  refine WL.sp 2 rfl (fun g5 => ?_) (fun g5 => ?_)
  · skip
    refine WL.g rfl (g5) rfl (o_mv ?_)
    refine WL.g rfl (g5) rfl (o_le rfl rfl ?_)
    refine WL.c rfl (o_pickA rfl rfl ?_)
    refine WL.c rfl (o_as ?_)
    refine WL.nil ?_
    refine W.ret ?_
    refine ret1v rfl (show _ = Value.bool _ from rfl) ?_
    exact ⟨congrArg Value.bool (by rw [Bool.eq_iff_iff]; simp_all [letB] <;> omega), rfl⟩
  skip
  refine WL.s rfl (g5) rfl ?_
  refine WL.s rfl (g5) rfl ?_
  refine WL.c rfl (o_pickF rfl (g5) ?_)
  refine WL.c rfl (o_as ?_)
  refine WL.nil ?_
  refine W.ret ?_
  refine ret1v rfl (show _ = Value.bool _ from rfl) ?_
  exact ⟨congrArg Value.bool (by rw [Bool.eq_iff_iff]; simp_all [letB] <;> omega), rfl⟩
theorem rdigit_spec (c : UInt8) (w0 : World) : Ca Try.prog 92 #[bv c] w0 (fun v w' => v = .bool (digB c) ∧ w' = w0) := by
  refine Ca.of Try.func92 Try.ntmps92 rfl rfl ?_
  refine W.seq ?_
  refine W.region ?_
  refine WL.c rfl (o_as ?_)
  refine WL.nil ?_
  refine W.seq ?_
  refine W.region ?_
  refine WL.c rfl (o_mv ?_)
  refine WL.c rfl (o_ge rfl rfl ?_)
  refine WL.c rfl (o_mv ?_)
  refine WL.sp 2 rfl (fun g5 => ?_) (fun g5 => ?_)
  · skip
    refine WL.g rfl (g5) rfl (o_mv ?_)
    refine WL.g rfl (g5) rfl (o_le rfl rfl ?_)
    refine WL.c rfl (o_pickA rfl rfl ?_)
    refine WL.c rfl (o_as ?_)
    refine WL.nil ?_
    refine W.ret ?_
    refine ret1v rfl (show _ = Value.bool _ from rfl) ?_
    exact ⟨congrArg Value.bool (by rw [Bool.eq_iff_iff]; simp_all [digB] <;> omega), rfl⟩
  skip
  refine WL.s rfl (g5) rfl ?_
  refine WL.s rfl (g5) rfl ?_
  refine WL.c rfl (o_pickF rfl (g5) ?_)
  refine WL.c rfl (o_as ?_)
  refine WL.nil ?_
  refine W.ret ?_
  refine ret1v rfl (show _ = Value.bool _ from rfl) ?_
  exact ⟨congrArg Value.bool (by rw [Bool.eq_iff_iff]; simp_all [digB] <;> omega), rfl⟩
theorem rgoes_spec (c : UInt8) (w0 : World) : Ca Try.prog 73 #[bv c] w0 (fun v w' => v = .bool (goeB c) ∧ w' = w0) := by
  refine Ca.of Try.func73 Try.ntmps73 rfl rfl ?_
  refine W.seq ?_
  refine W.region ?_
  refine WL.c rfl (o_as ?_)
  refine WL.nil ?_
  refine W.seq ?_
  refine W.region ?_
  refine WL.c rfl (o_mv ?_)
  refine WL.c rfl (o_call Try.call71 (lc rfl ln) ((rletter_spec c _).mono ?_))
  rintro v4 w4 ⟨rfl, rfl⟩
  refine WL.c rfl (o_mv ?_)
  refine WL.sp 2 rfl (fun g5 => ?_) (fun g5 => ?_)
  · skip
    refine WL.s rfl (g5) rfl ?_
    refine WL.s rfl (g5) rfl ?_
    refine WL.c rfl (o_pickT rfl (g5) ?_)
    refine WL.c rfl (o_mv ?_)
    refine WL.s rfl (rfl) rfl ?_
    refine WL.s rfl (rfl) rfl ?_
    refine WL.c rfl (o_pickT rfl (rfl) ?_)
    refine WL.c rfl (o_as ?_)
    refine WL.nil ?_
    refine W.ret ?_
    refine ret1v rfl (show _ = Value.bool _ from rfl) ?_
    exact ⟨congrArg Value.bool (by rw [Bool.eq_iff_iff]; simp_all [goeB] <;> omega), rfl⟩
  skip
  refine WL.g rfl (g5) rfl (o_mv ?_)
  refine WL.g rfl (g5) rfl (o_call Try.call92 (lc rfl ln) ((rdigit_spec c _).mono ?_))
  rintro v7 w7 ⟨rfl, rfl⟩
  refine WL.c rfl (o_pickO rfl rfl ?_)
  refine WL.c rfl (o_mv ?_)
  refine WL.sp 6 rfl (fun g9 => ?_) (fun g9 => ?_)
  · skip
    refine WL.s rfl (g9) rfl ?_
    refine WL.s rfl (g9) rfl ?_
    refine WL.c rfl (o_pickT rfl (g9) ?_)
    refine WL.c rfl (o_as ?_)
    refine WL.nil ?_
    refine W.ret ?_
    refine ret1v rfl (show _ = Value.bool _ from rfl) ?_
    exact ⟨congrArg Value.bool (by rw [Bool.eq_iff_iff]; simp_all [goeB] <;> omega), rfl⟩
  skip
  refine WL.g rfl (g9) rfl (o_mv ?_)
  refine WL.g rfl (g9) rfl (o_eq rfl rfl ?_)
  refine WL.c rfl (o_pickO rfl rfl ?_)
  refine WL.c rfl (o_as ?_)
  refine WL.nil ?_
  refine W.ret ?_
  refine ret1v rfl (show _ = Value.bool _ from rfl) ?_
  exact ⟨congrArg Value.bool (by rw [Bool.eq_iff_iff]; simp_all [goeB] <;> omega), rfl⟩
theorem rname_spec (xs : List UInt8) (w0 : World) (hlen : xs.length ≤ 9223372036854775807) : Ca Try.prog 41 #[st xs] w0 (fun v w' => v = .bool (nameB xs) ∧ w' = w0) := by
  refine Ca.of Try.func41 Try.ntmps41 rfl rfl ?_
  refine W.seq ?_
  refine W.region ?_
  refine WL.c rfl (o_as ?_)
  refine WL.nil ?_
  refine W.seq ?_
  refine W.seq ?_
  refine W.region ?_
  refine WL.cut (fun e1 w1 => e1 20 = .bool (hdB xs) ∧ e1 0 = st xs ∧ w1 = w0) ?_ ?_
  · -- region 1
    refine WL.c rfl (o_mv ?_)
    refine WL.c rfl (o_eqT rfl rfl ?_)
    refine WL.c rfl (o_mv ?_)
    refine WL.sp 2 rfl (fun g6 => ?_) (fun g6 => ?_)
    · skip
      refine WL.s rfl (g6) rfl ?_
      refine WL.s rfl (g6) rfl ?_
      refine WL.s rfl (g6) rfl ?_
      refine WL.c rfl (o_pickT rfl (g6) ?_)
      refine WL.c rfl (o_mv ?_)
      try (have hne : xs ≠ [] := by simpa using g6)
      try (have h0 := List.length_pos_iff.2 hne)
      try (have hh := head_any letB h0)
      refine WL.s rfl (rfl) rfl ?_
      refine WL.s rfl (rfl) rfl ?_
      refine WL.s rfl (rfl) rfl ?_
      refine WL.s rfl (rfl) rfl ?_
      refine WL.c rfl (o_pickT rfl (rfl) ?_)
      refine WL.c rfl (o_mv ?_)
      refine WL.s rfl (rfl) rfl ?_
      refine WL.s rfl (rfl) rfl ?_
      refine WL.c rfl (o_pickT rfl (rfl) ?_)
      exact WL.nil (⟨congrArg Value.bool (by rw [Bool.eq_iff_iff]; simp_all [hdB] <;> first | omega | grind), rfl, rfl⟩)
    skip
    refine WL.g rfl (g6) rfl (o_mv ?_)
    refine WL.g rfl (g6) rfl (o_lenT TI9 rfl ?_)
    refine WL.g rfl (g6) rfl (o_gt rfl rfl ?_)
    refine WL.c rfl (o_pickO rfl rfl ?_)
    refine WL.c rfl (o_mv ?_)
    try (have hne : xs ≠ [] := by simpa using g6)
    try (have h0 := List.length_pos_iff.2 hne)
    try (have hh := head_any letB h0)
    refine WL.sp 7 rfl (fun g11 => ?_) (fun g11 => ?_)
    · skip
      try (have hne : xs ≠ [] := by simpa using g6)
      try (have h0 := List.length_pos_iff.2 hne)
      try (have hh := head_any letB h0)
      refine WL.s rfl (g11) rfl ?_
      refine WL.s rfl (g11) rfl ?_
      refine WL.s rfl (g11) rfl ?_
      refine WL.s rfl (g11) rfl ?_
      refine WL.c rfl (o_pickT rfl (g11) ?_)
      refine WL.c rfl (o_mv ?_)
      refine WL.s rfl (rfl) rfl ?_
      refine WL.s rfl (rfl) rfl ?_
      refine WL.c rfl (o_pickT rfl (rfl) ?_)
      exact WL.nil (⟨congrArg Value.bool (by rw [Bool.eq_iff_iff]; simp_all [hdB] <;> first | omega | grind), rfl, rfl⟩)
    skip
    try (have hne : xs ≠ [] := by simpa using g6)
    try (have h0 := List.length_pos_iff.2 hne)
    try (have hh := head_any letB h0)
    refine WL.g rfl (g11) rfl (o_mv ?_)
    refine WL.g rfl (g11) rfl (o_idT (i := 0) TI9 rfl rfl (by omega) ?_)
    refine WL.g rfl (g11) rfl (o_call Try.call71 (lc rfl ln) ((rletter_spec xs[0] _).mono ?_))
    rintro v14 w14 ⟨rfl, rfl⟩
    refine WL.g rfl (g11) rfl (o_not' rfl ?_)
    refine WL.c rfl (o_pickO rfl rfl ?_)
    refine WL.c rfl (o_mv ?_)
    refine WL.sp 13 rfl (fun g17 => ?_) (fun g17 => ?_)
    · skip
      refine WL.s rfl (g17) rfl ?_
      refine WL.s rfl (g17) rfl ?_
      refine WL.c rfl (o_pickT rfl (g17) ?_)
      exact WL.nil (⟨congrArg Value.bool (by rw [Bool.eq_iff_iff]; simp_all [hdB] <;> first | omega | grind), rfl, rfl⟩)
    skip
    refine WL.g rfl (g17) rfl (o_mv ?_)
    refine WL.g rfl (g17) rfl (o_call Try.call72 (lc rfl ln) ((rword_spec xs _).mono ?_))
    rintro v19 w19 ⟨rfl, rfl⟩
    refine WL.c rfl (o_pickO rfl rfl ?_)
    exact WL.nil (⟨congrArg Value.bool (by rw [Bool.eq_iff_iff]; simp_all [hdB] <;> first | omega | grind), rfl, rfl⟩)
  rintro e w ⟨h20, h0, hw⟩
  refine W.cond h20 (fun c20 => ?_) (fun c20 => ?_)
  · try simp only [cs8] at c20
    refine W.seq ?_
    refine W.region ?_
    refine WL.c rfl (o_as ?_)
    refine WL.nil ?_
    refine W.ret ?_
    refine ret1v rfl (show _ = Value.bool _ from rfl) ?_
    exact ⟨by rw [nameB_hd, c20]; rfl, hw⟩
  try simp only [cs8] at c20
  refine W.skip ?_
  refine W.seq ?_
  refine W.seq ?_
  refine W.region ?_
  refine WL.c rfl (o_as ?_)
  refine WL.nil ?_
  refine W.block ?_
  refine W.loop (fun e w => ∃ k : Nat, k ≤ xs.length ∧ e 0 = st xs ∧ e 3 = .int .i64 (k : Int) ∧ (xs.take k).all goeB = true ∧ w = w0) (fun e w => xs.length - (intOf (e 3)).toNat) ?_ ?_
  · exact ⟨0, Nat.zero_le _, h0, rfl, by simp, hw⟩
  rintro e w ⟨k, hk, h0, h3, hall, rfl⟩
  refine W.seq ?_
  refine W.seq ?_
  refine W.region ?_
  refine WL.c rfl (o_mvh h3 ?_)
  refine WL.c rfl (o_mvh h0 ?_)
  refine WL.c rfl (o_lenT TI9 rfl ?_)
  refine WL.c rfl (o_lt rfl rfl ?_)
  refine WL.nil ?_
  refine W.cond rfl (fun c24 => ?_) (fun c24 => ?_)
  · try simp only [cs8] at c24
    refine W.skip ?_
    refine W.seq ?_
    refine W.block ?_
    refine W.seq ?_
    have hk1 : k < xs.length := by omega
    refine W.region ?_
    refine WL.c rfl (o_mvh h0 ?_)
    refine WL.c rfl (o_mvh h3 ?_)
    refine WL.c rfl (o_idT TI9 rfl rfl (by omega) ?_)
    refine WL.c rfl (o_call Try.call73 (lc rfl ln) ((rgoes_spec xs[k] _).mono ?_))
    rintro v30 w30 ⟨rfl, rfl⟩
    refine WL.c rfl (o_not' rfl ?_)
    refine WL.nil ?_
    refine W.cond rfl (fun c31 => ?_) (fun c31 => ?_)
    · try simp only [cs8] at c31
      refine W.seq ?_
      refine W.region ?_
      refine WL.c rfl (o_as ?_)
      refine WL.nil ?_
      refine W.ret ?_
      refine ret1v rfl (show _ = Value.bool _ from rfl) ?_
      exact ⟨by rw [nameB_hd, all_bad hk1 c31]; simp, rfl⟩
    try simp only [cs8] at c31
    refine W.skip ?_
    refine W.region ?_
    refine WL.c rfl (o_mvh h3 ?_)
    refine WL.c rfl (o_addi rfl rfl (by omega) ?_)
    refine WL.c rfl (o_as ?_)
    refine WL.nil ?_
    refine ⟨⟨k + 1, by omega, h0, rfl, all_more hk1 c31 hall, rfl⟩, ?_⟩
    show xs.length - ((k : Int) + 1).toNat < _
    rw [h3]; simp [intOf]; omega
  try simp only [cs8] at c24
  refine W.exit ?_
  refine W.seq ?_
  refine W.region ?_
  refine WL.c rfl (o_as ?_)
  refine WL.nil ?_
  refine W.ret ?_
  refine ret1v rfl (show _ = Value.bool _ from rfl) ?_
  have hk2 : k = xs.length := by omega
  subst hk2
  rw [List.take_length] at hall
  exact ⟨by rw [nameB_hd, c20, hall]; rfl, rfl⟩

def valF (n : Nat) (xs : List UInt8) : Nat := xs.foldl (fun n c => 10 * n + (c.toNat - 48)) n
theorem valF_cons (n : Nat) (c : UInt8) (cs : List UInt8) : valF n (c :: cs) = valF (10 * n + (c.toNat - 48)) cs := by simp only [valF, List.foldl_cons]
theorem valF_ge : ∀ (xs : List UInt8) (n : Nat), n * 10 ^ xs.length ≤ valF n xs
  | [], n => by simp [valF]
  | c :: cs, n => by
    rw [valF_cons, List.length_cons, Nat.pow_succ]
    refine Nat.le_trans ?_ (valF_ge cs _)
    rw [Nat.mul_comm (10 ^ cs.length) 10, ← Nat.mul_assoc]
    exact Nat.mul_le_mul_right _ (by omega)
theorem numF_val : ∀ (xs : List UInt8) (n : Nat), n ≤ 2147483647 → numF n xs = if valF n xs ≤ 2147483647 then (valF n xs, 0) else (0, 51)
  | [], n, h => by simp [numF, valF, h]
  | c :: cs, n, h => by
    rw [valF_cons, numF]
    by_cases hh : 2147483647 < 10 * n + (c.toNat - 48)
    · rw [if_pos hh, if_neg]
      have := valF_ge cs (10 * n + (c.toNat - 48))
      have h1 : 1 ≤ 10 ^ cs.length := Nat.one_le_pow _ _ (by omega)
      have h2 := Nat.mul_le_mul_left (10 * n + (c.toNat - 48)) h1
      omega
    rw [if_neg hh]; exact numF_val cs _ (by omega)
theorem numL_val (xs : List UInt8) (hl : lead xs = false) : numL xs = if valF 0 xs ≤ 2147483647 then (valF 0 xs, 0) else (0, 51) := by
  unfold numL
  rw [hl]; exact numF_val xs 0 (by omega)
end Go.Proofs.Ytpbflfgigfdohaa

set_option linter.unusedSimpArgs false
set_option linter.unusedVariables false
set_option maxRecDepth 100000
namespace Go.Proofs.Ytpbflfgigfdohaa
open Go Go.Vc Go.RowKit Go.Proofs

structure Ex where
  kind : Int
  n : Int
  name : List UInt8
  label : List UInt8
  tag : Int
  kids : Int
  at_ : Int
deriving instance DecidableEq for Ex
def exV (x : Ex) : List Value := [.int .i64 x.kind, .int .i64 x.n, st x.name, st x.label, .int .i64 x.tag, .int .i64 x.kids, .int .i64 x.at_]
def ex0 : Ex := ⟨0, 0, [], [], 0, 0, 0⟩
def exM : Ex := ⟨0, 0, [], [], 0, 0, -1⟩
inductive Pr (α : Type) where
  | ok (a : α) (i : Nat)
  | bad (e i : Nat)
def Pr.bind {α β : Type} (r : Pr α) (f : α → Nat → Pr β) : Pr β := match r with
  | .ok a i => f a i
  | .bad e i => .bad e i
def tk0 : Tk := ⟨0, [], 0, 0, 0⟩
def tkA (T : List Tk) (i : Nat) : Tk := T.getD i tk0
def isT (t : Tk) (k : Nat) (s : List UInt8) : Bool := decide (t.kind = k) && decide (t.text = s)
def wantT (T : List Tk) (i k : Nat) (s : List UInt8) : Pr Unit := if isT (tkA T i) k s = true then .ok () (i + 1) else .bad 60 i
def nmT (t : Tk) : Bool := decide (t.kind = 1) && nameB t.text
def nameT (T : List Tk) (i : Nat) : Pr (List UInt8) := if nmT (tkA T i) = true then .ok (tkA T i).text (i + 1) else .bad 60 i
def numT (T : List Tk) (i : Nat) : Pr Nat := if (tkA T i).kind = 2 then .ok (tkA T i).n (i + 1) else .bad 60 i
def leafE (s : List UInt8) : Option (Int × Int) := if s = [117, 56] then some (1, 1) else if s = [117, 49, 54] then some (1, 2) else if s = [117, 51, 50] then some (1, 4) else if s = [117, 54, 52] then some (1, 8) else if s = [98, 111, 111, 108] then some (2, 0) else if s = [118, 97, 114, 105, 110, 116] then some (3, 0) else none
def bgnT (t : Tk) : Bool := decide (t.kind = 1) && (decide (t.text = [118, 101, 99, 116, 111, 114]) || decide (t.text = [108, 105, 115, 116]) || decide (t.text = [111, 112, 116, 105, 111, 110]) || decide (t.text = [117, 110, 105, 111, 110]) || decide (t.text = [115, 116, 114, 117, 99, 116]) || (leafE t.text).isSome || nameB t.text)
/-- what stands ahead of the colon; full: there are asx many asx may be -/
def headT (T : List Tk) (u full : Bool) (i : Nat) (x : Ex) : Pr Ex :=
  if u then (if full = true ∧ (tkA T i).kind = 2 then .bad 5 i else (numT T i).bind fun n i => .ok { x with tag := n } i)
  else (if full = true ∧ nmT (tkA T i) = true then .bad 5 i else (nameT T i).bind fun s i => .ok { x with label := s } i)
/-- fields or arms, behind the bracket -/
def rowsT (E : Nat → Ex → Pr (List Ex)) (T : List Tk) (u : Bool) : Nat → Nat → Nat → Pr (List Ex × Nat)
  | 0, i, _ => .bad 0 i
  | g + 1, i, k => (headT T u (decide (k = 64)) i { ex0 with at_ := i }).bind fun x i => (wantT T i 3 [58]).bind fun _ i => (E i x).bind fun N i =>
    if isT (tkA T i) 3 [44] = true then (rowsT E T u g (i + 1) (k + 1)).bind fun r i => .ok (N ++ r.1, r.2) i
    else (wantT T i 3 [125]).bind fun _ i => .ok (N, k + 1) i
def atE (i : Nat) (x : Ex) : Ex := if x.at_ < 0 then { x with at_ := i } else x
def Ex.lf (x : Ex) (k n : Int) : Ex := { x with kind := k, n := n }
def Ex.vec (x : Ex) (b : Bool) (n : Int) : Ex := { x with kind := if b then 5 else 4, kids := 1, n := n }
def Ex.opt (x : Ex) : Ex := { x with kind := 6, kids := 1 }
def Ex.br (x : Ex) (u : Bool) (k : Int) : Ex := { x with kind := if u then 7 else 8, kids := k }
def Ex.nm (x : Ex) (s : List UInt8) : Ex := { x with kind := 9, name := s }
/-- a type: its nodes; their places are tokens' numbers -/
def exprT (T : List Tk) : Nat → Nat → Ex → Nat → Pr (List Ex)
  | 0, i, _, _ => .bad 0 i
  | f + 1, i, x, deep =>
    if bgnT (tkA T i) = false then .bad 60 i
    else if 16 < deep then .bad 61 i
    else match leafE (tkA T i).text with
    | some kn => .ok [(atE i x).lf kn.1 kn.2] (i + 1)
    | none =>
      if (tkA T i).text = [118, 101, 99, 116, 111, 114] ∨ (tkA T i).text = [108, 105, 115, 116] then
        (wantT T (i + 1) 3 [60]).bind fun _ j => (exprT T f j exM (deep + 1)).bind fun N j => (wantT T j 3 [44]).bind fun _ j => (numT T j).bind fun n j => (wantT T j 3 [62]).bind fun _ j =>
          .ok ((atE i x).vec (decide ((tkA T i).text = [108, 105, 115, 116])) n :: N) j
      else if (tkA T i).text = [111, 112, 116, 105, 111, 110] then
        (wantT T (i + 1) 3 [60]).bind fun _ j => (exprT T f j exM (deep + 1)).bind fun N j => (wantT T j 3 [62]).bind fun _ j => .ok ((atE i x).opt :: N) j
      else if (tkA T i).text = [117, 110, 105, 111, 110] then
        ((wantT T (i + 1) 3 [123]).bind fun _ j => rowsT (fun i x => exprT T f i x (deep + 1)) T true f j 0).bind fun r j => .ok ((atE i x).br true (r.2 : Nat) :: r.1) j
      else if (tkA T i).text = [115, 116, 114, 117, 99, 116] then
        ((wantT T (i + 1) 3 [123]).bind fun _ j => rowsT (fun i x => exprT T f i x (deep + 1)) T false f j 0).bind fun r j => .ok ((atE i x).br false (r.2 : Nat) :: r.1) j
      else .ok [(atE i x).nm (tkA T i).text] (i + 1)
structure Df where
  name : List UInt8
  at_ : Int
  ty : List Ex
deriving instance DecidableEq for Df
/-- the definitions from a token on; k there are -/
def defsT (T : List Tk) : Nat → Nat → Nat → Pr (List Df)
  | 0, i, _ => .bad 0 i
  | g + 1, i, k => if T.length ≤ i then .ok [] i
    else if k = 256 ∧ isT (tkA T i) 1 [116, 121, 112, 101] = true then .bad 5 i
    else (wantT T i 1 [116, 121, 112, 101]).bind fun _ i => (nameT T i).bind fun s j => (wantT T j 3 [61]).bind fun _ j => (exprT T (T.length + 2) j exM 0).bind fun N j => (wantT T j 3 [59]).bind fun _ j =>
      (defsT T g j (k + 1)).bind fun D j => .ok (⟨s, i, N⟩ :: D) j
/-- a node at its token's place -/
def plE (T : List Tk) (x : Ex) : Ex := if x.at_ < 0 then x else { x with at_ := (tkA T x.at_.toNat).at_ }
/-- the parser -/
structure Psr (w : World) (B0 p : Nat) (lv : Value) (T : List Tk) (fin at_ : Nat) : Prop where
  cell : w.heap[p]? = some (.cells #[lv, .int .i64 (at_ : Int), .int .i64 (fin : Int)] 69 (0, 0))
  toks : Sl w 5 lv T.length (flat T)
  off : ∀ b, lv.ownBlock = some b → b < p
  hp : p < B0
  le : at_ ≤ T.length
  small : T.length ≤ 1000000
  b0 : B0 ≤ w.heap.size
theorem Psr.keep {w w' : World} {F : Nat → Prop} {B0 p fin at_ : Nat} {lv : Value} {T : List Tk} (h : Psr w B0 p lv T fin at_) (ho : Only F w w') (hF : ∀ k, F k → p < k) : Psr w' B0 p lv T fin at_ :=
  ⟨ho.blk h.cell (fun hp => by have := hF p hp; omega), h.toks.only ho (fun b hb hk => by have := hF b hk; have := h.off b hb; omega), h.off, h.hp, h.le, h.small, Nat.le_trans h.b0 ho.size⟩
theorem Psr.ext {w w' : World} {B0 p fin at_ : Nat} {lv : Value} {T : List Tk} (h : Psr w B0 p lv T fin at_) (ho : Ext w w') : Psr w' B0 p lv T fin at_ := h.keep ho (fun _ h => h.elim)
theorem Psr.move {w w' : World} {B0 p fin at_ a2 : Nat} {lv : Value} {T : List Tk} (h : Psr w B0 p lv T fin at_) (hc : w'.heap[p]? = some (.cells #[lv, .int .i64 (a2 : Int), .int .i64 (fin : Int)] 69 (0, 0))) (ho : Only (fun k => k = p) w w') (hle : a2 ≤ T.length) : Psr w' B0 p lv T fin a2 :=
  ⟨hc, h.toks.only ho (fun b hb hk => by have := h.off b hb; omega), h.off, h.hp, hle, h.small, Nat.le_trans h.b0 ho.size⟩
theorem tkA_lt {T : List Tk} {i : Nat} (h : i < T.length) : tkA T i = T[i] := by simp [tkA, List.getD_eq_getElem?_getD, h]
theorem tkA_ge {T : List Tk} {i : Nat} (h : T.length ≤ i) : tkA T i = tk0 := by simp [tkA, List.getD_eq_getElem?_getD, h]
theorem tkA_kind {T : List Tk} {i k : Nat} (hk : 1 ≤ k) (h : (tkA T i).kind = k) : i < T.length := Nat.lt_of_not_le (fun h1 => by rw [tkA_ge h1] at h; simp only [tk0] at h; omega)
theorem isT_lt {T : List Tk} {i k : Nat} {s : List UInt8} (hk : 1 ≤ k) (h : isT (tkA T i) k s = true) : i < T.length := by
  simp only [isT, Bool.and_eq_true, decide_eq_true_eq] at h
  exact tkA_kind hk h.1
theorem flat_at (ts : List Tk) : ∀ (k : Nat) (hk : k < ts.length), ((flat ts).drop (k * 5)).take 5 = (tokV ts[k]).toList := by
  induction ts with
  | nil => intro k hk; simp at hk
  | cons t ts ih =>
    intro k hk
    have h5 : (tokV t).toList.length = 5 := rfl
    cases k with
    | zero => rw [Nat.zero_mul, List.drop_zero, flat, List.flatMap_cons]; exact List.take_left' h5
    | succ k =>
      have h1 : (k + 1) * 5 - (tokV t).toList.length = k * 5 := by rw [h5]; omega
      have := ih k (by simpa using hk)
      rw [flat, List.flatMap_cons, List.drop_append, List.drop_eq_nil_of_le (by rw [h5]; omega), List.nil_append, h1]
      exact this
theorem Sl.tok {w : World} {v : Value} {ts : List Tk} (h : Sl w 5 v ts.length (flat ts)) {k : Nat} (hk : k < ts.length) : ∃ b o c, v = .slice (some ⟨b, o, none⟩) ts.length c ∧ Cells w b (o + k * 5) (tokV (tkA ts k)).toList := by
  rw [tkA_lt hk]
  rcases h.val with ⟨hz, h0⟩ | ⟨b, o, c, rfl, hnc, hc⟩
  · omega
  exact ⟨b, o, c, rfl, by rw [← flat_at ts k hk]; exact hc.sub _ _⟩

end Go.Proofs.Ytpbflfgigfdohaa

set_option linter.unusedSimpArgs false
set_option linter.unusedVariables false
set_option maxRecDepth 100000
namespace Go.Proofs.Ytpbflfgigfdohaa
open Go Go.Vc Go.RowKit Go.Proofs

theorem headT_u {T : List Tk} {full : Bool} {i : Nat} {x : Ex} : headT T true full i x = if full = true ∧ (tkA T i).kind = 2 then .bad 5 i else (numT T i).bind fun n i => .ok { x with tag := n } i := rfl
theorem headT_s {T : List Tk} {full : Bool} {i : Nat} {x : Ex} : headT T false full i x = if full = true ∧ nmT (tkA T i) = true then .bad 5 i else (nameT T i).bind fun s i => .ok { x with label := s } i := rfl
theorem cells_exV {x : Ex} : (exV x).length = 7 := rfl
def exs (L : List Ex) : List Value := L.flatMap exV
theorem exs_len (L : List Ex) : (exs L).length = L.length * 7 := by
  induction L with
  | nil => rfl
  | cons a l ih => rw [exs, List.flatMap_cons, List.length_append, cells_exV]; show 7 + (exs l).length = _; rw [ih, List.length_cons]; omega
theorem exs_snoc (L : List Ex) (x : Ex) : exs (L ++ [x]) = exs L ++ exV x := by simp [exs]
end Go.Proofs.Ytpbflfgigfdohaa

set_option linter.unusedSimpArgs false
set_option linter.unusedVariables false
set_option maxRecDepth 100000
namespace Go.Proofs.Ytpbflfgigfdohaa
open Go Go.Vc Go.RowKit Go.Proofs

theorem ob {g n c k : Nat} (h : (Value.slice (some ⟨g, 0, none⟩) n c).ownBlock = some k) : g = k := by simpa [Value.ownBlock] using h
def Ex.wn (x : Ex) (z : Int) : Ex := { x with n := z }
abbrev RowE (w : World) (B0 : Nat) (v : Value) (L : List Ex) : Prop := w.ownsRow B0 41 7 v L.length (exs L)
theorem rowsT_s {E : Nat → Ex → Pr (List Ex)} {T : List Tk} {u : Bool} {g i k : Nat} : rowsT E T u (g + 1) i k = ((headT T u (decide (k = 64)) i { ex0 with at_ := i }).bind fun x i => (wantT T i 3 [58]).bind fun _ i => (E i x).bind fun N i =>
    if isT (tkA T i) 3 [44] = true then (rowsT E T u g (i + 1) (k + 1)).bind fun r i => .ok (N ++ r.1, r.2) i
    else (wantT T i 3 [125]).bind fun _ i => .ok (N, k + 1) i) := rfl
theorem Pr.bind_ok {α β : Type} {a : α} {i : Nat} {f : α → Nat → Pr β} : (Pr.ok a i).bind f = f a i := rfl
end Go.Proofs.Ytpbflfgigfdohaa

set_option linter.unusedSimpArgs false
set_option linter.unusedVariables false
set_option maxRecDepth 100000
namespace Go.Proofs.Ytpbflfgigfdohaa
open Go Go.Vc Go.RowKit Go.Proofs

theorem own_new1 {w : World} {v : Value} {el : TypeId} {s : Nat} (hv : v.cells.size = s) : (w.alloc (.cells v.cells el)).ownsRow w.heap.size el s (.slice (some ⟨w.heap.size, 0, none⟩) 1 1) 1 v.cells.toList :=
  ⟨by simp [hv], .inr ⟨w.heap.size, 1, v.cells, rfl, Nat.le_refl _, heap_alloc_new w _, Nat.le_refl _, by rw [maxLen_eq]; omega, by rw [hv]; omega, by rw [Nat.one_mul]; exact List.take_of_length_le (by simp [hv])⟩⟩
theorem RowE.snoc {w : World} {B0 : Nat} {v : Value} {L : List Ex} {y : Ex} (h : w.ownsRow B0 41 7 v (L.length + 1) (exs L ++ (Value.agg (exV y).toArray).cells.toList)) : RowE w B0 v (L ++ [y]) := by
  show World.ownsRow _ _ _ _ _ (L ++ [y]).length _
  rw [exs_snoc, List.length_append]
  exact h
theorem exprT_s {T : List Tk} {f i : Nat} {x : Ex} {deep : Nat} : exprT T (f + 1) i x deep =
    (if bgnT (tkA T i) = false then .bad 60 i
    else if 16 < deep then .bad 61 i
    else match leafE (tkA T i).text with
    | some kn => .ok [(atE i x).lf kn.1 kn.2] (i + 1)
    | none =>
      if (tkA T i).text = [118, 101, 99, 116, 111, 114] ∨ (tkA T i).text = [108, 105, 115, 116] then
        (wantT T (i + 1) 3 [60]).bind fun _ j => (exprT T f j exM (deep + 1)).bind fun N j => (wantT T j 3 [44]).bind fun _ j => (numT T j).bind fun n j => (wantT T j 3 [62]).bind fun _ j =>
          .ok ((atE i x).vec (decide ((tkA T i).text = [108, 105, 115, 116])) n :: N) j
      else if (tkA T i).text = [111, 112, 116, 105, 111, 110] then
        (wantT T (i + 1) 3 [60]).bind fun _ j => (exprT T f j exM (deep + 1)).bind fun N j => (wantT T j 3 [62]).bind fun _ j => .ok ((atE i x).opt :: N) j
      else if (tkA T i).text = [117, 110, 105, 111, 110] then
        ((wantT T (i + 1) 3 [123]).bind fun _ j => rowsT (fun i x => exprT T f i x (deep + 1)) T true f j 0).bind fun r j => .ok ((atE i x).br true (r.2 : Nat) :: r.1) j
      else if (tkA T i).text = [115, 116, 114, 117, 99, 116] then
        ((wantT T (i + 1) 3 [123]).bind fun _ j => rowsT (fun i x => exprT T f i x (deep + 1)) T false f j 0).bind fun r j => .ok ((atE i x).br false (r.2 : Nat) :: r.1) j
      else .ok [(atE i x).nm (tkA T i).text] (i + 1)) := rfl
end Go.Proofs.Ytpbflfgigfdohaa

set_option linter.unusedSimpArgs false
set_option linter.unusedVariables false
set_option maxRecDepth 100000
namespace Go.Proofs.Ytpbflfgigfdohaa
open Go Go.Vc Go.RowKit Go.Proofs

def df0 : Df := ⟨[], 0, []⟩
def dcell (d : Df) (v : Value) : List Value := [st d.name, .int .i64 d.at_, v]
def tyD (D : List Df) (j : Nat) : List Ex := (D.getD j df0).ty
def drows (D : List Df) (V : Nat → Value) : List Value := (List.range D.length).flatMap fun j => dcell (D.getD j df0) (V j)
theorem dfm_congr {α : Type} {f g : Nat → List α} {l : List Nat} (h : ∀ j ∈ l, f j = g j) : l.flatMap f = l.flatMap g := by
  induction l with
  | nil => rfl
  | cons a l ih => rw [List.flatMap_cons, List.flatMap_cons, h a (List.mem_cons_self ..), ih (fun j hj => h j (List.mem_cons_of_mem _ hj))]
theorem drows_snoc (D : List Df) (V : Nat → Value) (d : Df) (v : Value) : drows (D ++ [d]) (fun j => if j = D.length then v else V j) = drows D V ++ dcell d v := by
  rw [drows, List.length_append, List.length_singleton, List.range_succ, List.flatMap_append, List.flatMap_singleton, if_pos rfl]
  congr 1
  · refine dfm_congr fun j hj => ?_
    have hj := List.mem_range.1 hj
    rw [if_neg (by omega)]
    congr 1
    simp [List.getD_eq_getElem?_getD, List.getElem?_append_left hj]
  congr 1
  simp [List.getD_eq_getElem?_getD]
theorem dcell_len (d : Df) (v : Value) : (dcell d v).length = 3 := rfl
/-- definitions in a row of our own, each type in a block of its own -/
structure Defs (w : World) (H : Nat) (D : List Df) (dv : Value) (V : Nat → Value) : Prop where
  row : w.ownsRow H 39 3 dv D.length (drows D V)
  tys : Many w H 41 7 D.length V (fun j => (tyD D j).length) (fun j => exs (tyD D j))
/-- the blocks that these lie in -/
def DF (dv : Value) (V : Nat → Value) (n : Nat) (k : Nat) : Prop := dv.ownBlock = some k ∨ ∃ j, j < n ∧ (V j).ownBlock = some k
theorem Defs.only {w w' : World} {H : Nat} {D : List Df} {dv : Value} {V : Nat → Value} {F : Nat → Prop} (h : Defs w H D dv V) (ho : Only F w w') (hn : ∀ k, DF dv V D.length k → ¬ F k) : Defs w' H D dv V :=
  ⟨own_only h.row ho (fun k hk => hn k (.inl hk)), h.tys.only ho (fun j hj k hk => hn k (.inr ⟨j, hj, hk⟩))⟩
theorem Defs.ext {w w' : World} {H : Nat} {D : List Df} {dv : Value} {V : Nat → Value} (h : Defs w H D dv V) (ho : Ext w w') : Defs w' H D dv V := h.only ho (fun _ _ h => h)
theorem Defs.lt {w : World} {H : Nat} {D : List Df} {dv : Value} {V : Nat → Value} (h : Defs w H D dv V) : ∀ k, DF dv V D.length k → H ≤ k ∧ k < w.heap.size := fun k hk => by
  rcases hk with hk | ⟨j, hj, hk⟩
  · exact h.row.lt k hk
  exact h.tys.lt hj hk
theorem Defs.nil (w : World) (H : Nat) (V : Nat → Value) : Defs w H [] (.slice none 0 0) V := ⟨World.ownsRow_nil _ _ _ _, Many.zero⟩
theorem Defs.mono {w : World} {H H' : Nat} {D : List Df} {dv : Value} {V : Nat → Value} (h : Defs w H D dv V) (hH : H' ≤ H) : Defs w H' D dv V := ⟨own_mono h.row hH, fun j hj => own_mono (h.tys.row j hj) hH, h.tys.off⟩
theorem Defs.snoc {w : World} {H B : Nat} {D : List Df} {d : Df} {V : Nat → Value} {dv v : Value} (hr : w.ownsRow H 39 3 dv (D.length + 1) (drows D V ++ dcell d v)) (ht : Many w H 41 7 D.length V (fun j => (tyD D j).length) (fun j => exs (tyD D j)))
    (hf : RowE w B v d.ty) (hB : H ≤ B) (hlt : ∀ j, j < D.length → ∀ k, (V j).ownBlock = some k → k < B) : Defs w H (D ++ [d]) dv (fun j => if j = D.length then v else V j) := by
  have e1 : ∀ j, j < D.length → tyD (D ++ [d]) j = tyD D j := fun j hj => by simp [tyD, List.getD_eq_getElem?_getD, List.getElem?_append_left hj]
  have e2 : tyD (D ++ [d]) D.length = d.ty := by simp [tyD, List.getD_eq_getElem?_getD]
  refine ⟨by rw [List.length_append, List.length_singleton, drows_snoc]; exact hr, ?_⟩
  rw [List.length_append, List.length_singleton]
  exact Many.snocG (ht.congr (fun _ _ => rfl) (fun j hj => by rw [e1 j hj]) (fun j hj => by rw [e1 j hj])) hf hB hlt (by rw [e2]) (by rw [e2])
theorem retAA {fn : Func} {P : Program} {e : Env} {w : World} {R : Value → World → Prop} {a1 a2 : Tmp} {T1 T2 : TypeId} {d1 d2 : TypeDesc} {s1 bs1 s bs b1 b2 o1 o2 : Nat} {z1 z : Value} {ys xs : List Value} (hr : fn.results = #[.cell a1 T1, .cell a2 T2]) (ht1 : Ty P T1 d1 s1 bs1 z1) (hd1 : isAggD d1 = true) (ht : Ty P T2 d2 s bs z) (hd : isAggD d2 = true)
    (h1 : e a1 = .pointer (some ⟨b1, o1, none⟩)) (h2 : e a2 = .pointer (some ⟨b2, o2, none⟩)) (hc1 : Cells w b1 o1 ys) (hl1 : ys.length = s1) (hc : Cells w b2 o2 xs) (hl : xs.length = s) (h : R (.tuple #[.agg ys.toArray, .agg xs.toArray]) w) : Rt fn P R e w :=
  ⟨fun _ ac ha => ⟨.tuple #[.agg ys.toArray, .agg xs.toArray], by
    have g1 : ac.tmps.getD a1 undef = .pointer (some ⟨b1, o1, none⟩) := by rw [ha.get]; exact h1
    have g2 : ac.tmps.getD a2 undef = .pointer (some ⟨b2, o2, none⟩) := by rw [ha.get]; exact h2
    simp only [Array.getD_eq_getD_getElem?] at g1 g2
    simp [results, hr, asAddr, g1, g2, run_loadA ht1 hd1 hc1 hl1, run_loadA ht hd hc hl], h⟩⟩

end Go.Proofs.Ytpbflfgigfdohaa

set_option linter.unusedSimpArgs false
set_option linter.unusedVariables false
set_option maxRecDepth 100000
namespace Go.Proofs.Ytpbflfgigfdohaa
open Go Go.Vc Go.RowKit Go.Proofs

theorem Many.sn {w : World} {B : Nat} {D : List Df} {V : Nat → Value} (h : Many w B 41 7 D.length V (fun j => (tyD D j).length) (fun j => exs (tyD D j))) {F : Nat → Prop} {w' : World} (ho : Only F w w') (hn : ∀ k, F k → k < B) : Many w' B 41 7 D.length V (fun j => (tyD D j).length) (fun j => exs (tyD D j)) :=
  h.only ho (fun j hj k hk hF => by have := (h.lt hj hk).1; have := hn k hF; omega)
theorem defsT_s {T : List Tk} {g i k : Nat} : defsT T (g + 1) i k = (if T.length ≤ i then .ok [] i
    else if k = 256 ∧ isT (tkA T i) 1 [116, 121, 112, 101] = true then .bad 5 i
    else (wantT T i 1 [116, 121, 112, 101]).bind fun _ i => (nameT T i).bind fun s j => (wantT T j 3 [61]).bind fun _ j => (exprT T (T.length + 2) j exM 0).bind fun N j => (wantT T j 3 [59]).bind fun _ j =>
      (defsT T g j (k + 1)).bind fun D j => .ok (⟨s, i, N⟩ :: D) j) := rfl
end Go.Proofs.Ytpbflfgigfdohaa

set_option linter.unusedSimpArgs false
set_option linter.unusedVariables false
set_option maxRecDepth 100000
namespace Go.Proofs.Ytpbflfgigfdohaa
open Go Go.Vc Go.RowKit Go.Proofs

def hdOk (T : List Tk) (u : Bool) (i : Nat) : Prop := if u then (tkA T i).kind = 2 else nmT (tkA T i) = true
def hdE (T : List Tk) (u : Bool) (i : Nat) : Ex := if u then { ex0 with at_ := i, tag := (tkA T i).n } else { ex0 with at_ := i, label := (tkA T i).text }
/-- a type (none) or rows behind their bracket, of which k were ahead -/
inductive PX (T : List Tk) : Option (Bool × Nat) → Nat → Nat → Ex → List Ex → Nat → Nat → Prop
  | leaf {deep i : Nat} {x : Ex} {kn : Int × Int} (hb : bgnT (tkA T i) = true) (hd : deep ≤ 16) (hl : leafE (tkA T i).text = some kn) : PX T none deep i x [(atE i x).lf kn.1 kn.2] 0 (i + 1)
  | nm {deep i : Nat} {x : Ex} (hb : bgnT (tkA T i) = true) (hd : deep ≤ 16) (hl : leafE (tkA T i).text = none) (hv : ¬ ((tkA T i).text = [118, 101, 99, 116, 111, 114] ∨ (tkA T i).text = [108, 105, 115, 116])) (ho : ¬ (tkA T i).text = [111, 112, 116, 105, 111, 110]) (hu : ¬ (tkA T i).text = [117, 110, 105, 111, 110]) (hs : ¬ (tkA T i).text = [115, 116, 114, 117, 99, 116]) : PX T none deep i x [(atE i x).nm (tkA T i).text] 0 (i + 1)
  | vec {deep i : Nat} {x : Ex} {N : List Ex} {j : Nat} (hb : bgnT (tkA T i) = true) (hd : deep ≤ 16) (hl : leafE (tkA T i).text = none) (hv : (tkA T i).text = [118, 101, 99, 116, 111, 114] ∨ (tkA T i).text = [108, 105, 115, 116]) (h1 : isT (tkA T (i + 1)) 3 [60] = true) (hN : PX T none (deep + 1) (i + 2) exM N 0 j) (h2 : isT (tkA T j) 3 [44] = true) (h3 : (tkA T (j + 1)).kind = 2) (h4 : isT (tkA T (j + 2)) 3 [62] = true) : PX T none deep i x ((atE i x).vec (decide ((tkA T i).text = [108, 105, 115, 116])) (tkA T (j + 1)).n :: N) 0 (j + 3)
  | opt {deep i : Nat} {x : Ex} {N : List Ex} {j : Nat} (hb : bgnT (tkA T i) = true) (hd : deep ≤ 16) (hl : leafE (tkA T i).text = none) (ho : (tkA T i).text = [111, 112, 116, 105, 111, 110]) (h1 : isT (tkA T (i + 1)) 3 [60] = true) (hN : PX T none (deep + 1) (i + 2) exM N 0 j) (h2 : isT (tkA T j) 3 [62] = true) : PX T none deep i x ((atE i x).opt :: N) 0 (j + 1)
  | br {deep i : Nat} {x : Ex} (u : Bool) {M : List Ex} {n j : Nat} (hb : bgnT (tkA T i) = true) (hd : deep ≤ 16) (hl : leafE (tkA T i).text = none) (hw : (tkA T i).text = if u then [117, 110, 105, 111, 110] else [115, 116, 114, 117, 99, 116]) (h1 : isT (tkA T (i + 1)) 3 [123] = true) (hM : PX T (some (u, 0)) deep (i + 2) ex0 M n j) : PX T none deep i x ((atE i x).br u (n : Nat) :: M) 0 j
  | last {deep i : Nat} {u : Bool} {k : Nat} {N : List Ex} {j : Nat} (hk : k < 64) (hh : hdOk T u i) (hc : isT (tkA T (i + 1)) 3 [58] = true) (hN : PX T none (deep + 1) (i + 2) (hdE T u i) N 0 j) (hm : isT (tkA T j) 3 [44] = false) (hr : isT (tkA T j) 3 [125] = true) : PX T (some (u, k)) deep i ex0 N (k + 1) (j + 1)
  | more {deep i : Nat} {u : Bool} {k : Nat} {N M : List Ex} {j n e : Nat} (hk : k < 64) (hh : hdOk T u i) (hc : isT (tkA T (i + 1)) 3 [58] = true) (hN : PX T none (deep + 1) (i + 2) (hdE T u i) N 0 j) (hm : isT (tkA T j) 3 [44] = true) (hR : PX T (some (u, k + 1)) deep (j + 1) ex0 M n e) : PX T (some (u, k)) deep i ex0 (N ++ M) n e
theorem bind_ok {α β : Type} {r : Pr α} {f : α → Nat → Pr β} {b : β} {j : Nat} (h : r.bind f = .ok b j) : ∃ a i, r = .ok a i ∧ f a i = .ok b j := by
  cases r with
  | ok a i => exact ⟨a, i, rfl, h⟩
  | bad e i => cases h
theorem wantT_ok {T : List Tk} {i k j : Nat} {s : List UInt8} {a : Unit} (h : wantT T i k s = .ok a j) : isT (tkA T i) k s = true ∧ j = i + 1 := by
  unfold wantT at h
  split at h
  · rename_i h1; cases h; exact ⟨h1, rfl⟩
  cases h
theorem numT_ok {T : List Tk} {i j n : Nat} (h : numT T i = .ok n j) : (tkA T i).kind = 2 ∧ n = (tkA T i).n ∧ j = i + 1 := by
  unfold numT at h
  split at h
  · rename_i h1; cases h; exact ⟨h1, rfl, rfl⟩
  cases h
theorem nameT_ok {T : List Tk} {i j : Nat} {s : List UInt8} (h : nameT T i = .ok s j) : nmT (tkA T i) = true ∧ s = (tkA T i).text ∧ j = i + 1 := by
  unfold nameT at h
  split at h
  · rename_i h1; cases h; exact ⟨h1, rfl, rfl⟩
  cases h
theorem headT_ok {T : List Tk} {u full : Bool} {i j : Nat} {y : Ex} (h : headT T u full i { ex0 with at_ := i } = .ok y j) : hdOk T u i ∧ y = hdE T u i ∧ j = i + 1 ∧ full = false := by
  cases u
  · rw [headT_s] at h
    split at h
    · cases h
    rename_i hn
    obtain ⟨s, i2, h1, h2⟩ := bind_ok h
    obtain ⟨g1, rfl, rfl⟩ := nameT_ok h1
    cases h2
    refine ⟨g1, rfl, rfl, ?_⟩
    cases full
    · rfl
    exact absurd ⟨rfl, g1⟩ hn
  rw [headT_u] at h
  split at h
  · cases h
  rename_i hn
  obtain ⟨s, i2, h1, h2⟩ := bind_ok h
  obtain ⟨g1, rfl, rfl⟩ := numT_ok h1
  cases h2
  refine ⟨g1, rfl, rfl, ?_⟩
  cases full
  · rfl
  exact absurd ⟨rfl, g1⟩ hn
theorem rows_px {T : List Tk} {E : Nat → Ex → Pr (List Ex)} {u : Bool} {deep : Nat} (hE : ∀ i x N j, E i x = .ok N j → PX T none (deep + 1) i x N 0 j) : ∀ (g i k : Nat) (M : List Ex) (n e : Nat), k ≤ 64 → rowsT E T u g i k = .ok (M, n) e → PX T (some (u, k)) deep i ex0 M n e
  | 0, i, k, M, n, e, hk, h => by cases h
  | g + 1, i, k, M, n, e, hk, h => by
    rw [rowsT_s] at h
    obtain ⟨y, i1, h1, h⟩ := bind_ok h
    obtain ⟨hh, rfl, rfl, hf⟩ := headT_ok h1
    obtain ⟨_, i2, h2, h⟩ := bind_ok h
    obtain ⟨hc, rfl⟩ := wantT_ok h2
    obtain ⟨N, j, h3, h⟩ := bind_ok h
    have hk2 : k < 64 := by simp at hf; omega
    split at h
    · rename_i hm
      obtain ⟨⟨M', n'⟩, e', h4, h⟩ := bind_ok h
      cases h
      exact .more hk2 hh hc (hE _ _ _ _ h3) hm (rows_px hE g _ _ _ _ _ (by omega) h4)
    rename_i hm
    obtain ⟨_, e', h4, h⟩ := bind_ok h
    obtain ⟨hr, rfl⟩ := wantT_ok h4
    cases h
    exact .last hk2 hh hc (hE _ _ _ _ h3) (by simpa using hm) hr
theorem expr_px {T : List Tk} : ∀ (f i : Nat) (x : Ex) (deep : Nat) (N : List Ex) (j : Nat), exprT T f i x deep = .ok N j → PX T none deep i x N 0 j
  | 0, i, x, deep, N, j, h => by cases h
  | f + 1, i, x, deep, N, j, h => by
    rw [exprT_s] at h
    split at h
    · cases h
    rename_i hb
    have hb : bgnT (tkA T i) = true := by simpa using hb
    split at h
    · cases h
    rename_i hd
    have hd : deep ≤ 16 := by omega
    split at h
    · rename_i kn hl
      cases h
      exact .leaf hb hd hl
    rename_i hl
    split at h
    · rename_i hv
      obtain ⟨_, i1, h1, h⟩ := bind_ok h
      obtain ⟨g1, rfl⟩ := wantT_ok h1
      obtain ⟨M, j1, h2, h⟩ := bind_ok h
      obtain ⟨_, j2, h3, h⟩ := bind_ok h
      obtain ⟨g3, rfl⟩ := wantT_ok h3
      obtain ⟨n, j3, h4, h⟩ := bind_ok h
      obtain ⟨g4, rfl, rfl⟩ := numT_ok h4
      obtain ⟨_, j4, h5, h⟩ := bind_ok h
      obtain ⟨g5, rfl⟩ := wantT_ok h5
      cases h
      exact .vec hb hd hl hv g1 (expr_px f _ _ _ _ _ h2) g3 g4 g5
    rename_i hv
    split at h
    · rename_i ho
      obtain ⟨_, i1, h1, h⟩ := bind_ok h
      obtain ⟨g1, rfl⟩ := wantT_ok h1
      obtain ⟨M, j1, h2, h⟩ := bind_ok h
      obtain ⟨_, j2, h3, h⟩ := bind_ok h
      obtain ⟨g3, rfl⟩ := wantT_ok h3
      cases h
      exact .opt hb hd hl ho g1 (expr_px f _ _ _ _ _ h2) g3
    rename_i ho
    split at h
    · rename_i hu
      obtain ⟨⟨M, n⟩, j1, h2, h⟩ := bind_ok h
      obtain ⟨_, i1, h1, h2⟩ := bind_ok h2
      obtain ⟨g1, rfl⟩ := wantT_ok h1
      cases h
      exact .br true hb hd hl hu g1 (rows_px (fun i x N j hh => expr_px f i x _ N j hh) _ _ _ _ _ _ (by omega) h2)
    rename_i hu
    split at h
    · rename_i hs
      obtain ⟨⟨M, n⟩, j1, h2, h⟩ := bind_ok h
      obtain ⟨_, i1, h1, h2⟩ := bind_ok h2
      obtain ⟨g1, rfl⟩ := wantT_ok h1
      cases h
      exact .br false hb hd hl hs g1 (rows_px (fun i x N j hh => expr_px f i x _ N j hh) _ _ _ _ _ _ (by omega) h2)
    rename_i hs
    cases h
    exact .nm hb hd hl hv ho hu hs

end Go.Proofs.Ytpbflfgigfdohaa

set_option linter.unusedSimpArgs false
set_option linter.unusedVariables false
set_option maxRecDepth 100000
namespace Go.Proofs.Ytpbflfgigfdohaa
open Go Go.Vc Go.RowKit Go.Proofs

def okB (x : Ex) : Bool :=
  if x.kind = 1 then (decide (x.n = 1) || decide (x.n = 2) || decide (x.n = 4) || decide (x.n = 8)) && decide (x.kids = 0)
  else if x.kind = 2 ∨ x.kind = 3 ∨ x.kind = 9 then decide (x.n = 0) && decide (x.kids = 0)
  else if x.kind = 4 ∨ x.kind = 5 then decide (0 ≤ x.n) && decide (x.n ≤ 2147483647) && decide (x.kids = 1)
  else if x.kind = 6 then decide (x.n = 0) && decide (x.kids = 1)
  else if x.kind = 7 ∨ x.kind = 8 then decide (x.n = 0) && decide (1 ≤ x.kids)
  else false
def namB (x : Ex) : Bool := if x.kind = 9 then nameB x.name else decide (x.name = [])
def labB (x : Ex) (above : Int) : Bool := if above = 8 then nameB x.label else decide (x.label = [])
def tagB (x : Ex) (above : Int) : Bool := decide (x.tag = 0) || (decide (above = 7) && decide (0 < x.tag) && decide (x.tag ≤ 2147483647))
def rightB (x : Ex) (above : Int) : Bool := okB x && namB x && labB x above && tagB x above
set_option maxHeartbeats 2000000 in
theorem right_spec (x : Ex) (above : Int) (w0 : World) (hn : x.name.length ≤ 9223372036854775807) (hl : x.label.length ≤ 9223372036854775807) : Ca Try.prog 77 #[.agg (exV x).toArray, .int .i64 above] w0 (fun v w' => v = .bool (rightB x above) ∧ Ext w0 w') := by
  refine Ca.of Try.func77 Try.ntmps77 rfl rfl ?_
  refine W.seq ?_
  refine W.region ?_
  refine WL.c rfl (o_boxB rfl ?_)
  intro w2 hC2 hx2 hs2
  obtain ⟨c2, hc2⟩ : ∃ c, c = w0.heap.size := ⟨_, rfl⟩
  rw [← hc2] at hC2 ⊢
  replace hC2 : w2.heap[c2]? = some (.cells (exV x).toArray 41 (0, 0)) := hC2
  refine WL.c rfl (o_ash (show _ = Value.bool _ from rfl) ?_)
  refine WL.nil ?_
  refine W.seq ?_
  refine W.region ?_
  refine WL.c rfl (o_ash (show _ = Value.bool _ from rfl) ?_)
  refine WL.nil ?_
  refine W.seq ?_
  refine W.seq ?_
  refine W.region ?_
  refine WL.c rfl (o_fa 0 TI41 rfl TI3 rfl rfl ?_)
  refine WL.c rfl (o_ld TI3 rfl rfl (cell_of hC2 rfl) ?_)
  refine WL.nil ?_
  refine W.block ?_
  refine W.seq ?_
  refine W.region ?_
  refine WL.c rfl (o_eq rfl rfl ?_)
  refine WL.c rfl (o_ash (show _ = Value.bool _ from rfl) ?_)
  refine WL.nil ?_
  refine W.cut (fun e1 w1 => e1 1 = .int .i64 above ∧ e1 2 = .pointer (some ⟨c2, 0, none⟩) ∧ e1 5 = .bool (okB x) ∧ w1 = w2) ?_ ?_
  · -- both ways
    refine W.cond rfl (fun c11 => ?_) (fun c11 => ?_)
    · try simp only [cs8] at c11
      refine W.region ?_
      refine WL.c rfl (o_fa 1 TI41 rfl TI3 rfl rfl ?_)
      refine WL.c rfl (o_ld TI3 rfl rfl (cell_of hC2 rfl) ?_)
      refine WL.c rfl (o_eq rfl rfl ?_)
      refine WL.c rfl (o_mvh (show _ = Value.bool _ from rfl) ?_)
      refine WL.sp 3 rfl (fun g16 => ?_) (fun g16 => ?_)
      · skip
        refine WL.s rfl (g16) rfl ?_
        refine WL.s rfl (g16) rfl ?_
        refine WL.s rfl (g16) rfl ?_
        refine WL.c rfl (o_pickT rfl (g16) ?_)
        refine WL.c rfl (o_mvh (show _ = Value.bool _ from rfl) ?_)
        refine WL.s rfl (rfl) rfl ?_
        refine WL.s rfl (rfl) rfl ?_
        refine WL.s rfl (rfl) rfl ?_
        refine WL.c rfl (o_pickT rfl (rfl) ?_)
        refine WL.c rfl (o_mvh (show _ = Value.bool _ from rfl) ?_)
        refine WL.s rfl (rfl) rfl ?_
        refine WL.s rfl (rfl) rfl ?_
        refine WL.s rfl (rfl) rfl ?_
        refine WL.c rfl (o_pickT rfl (rfl) ?_)
        refine WL.c rfl (o_mvh (show _ = Value.bool _ from rfl) ?_)
        refine WL.g rfl (rfl) rfl (o_fa 5 TI41 rfl TI3 rfl rfl ?_)
        refine WL.g rfl (rfl) rfl (o_ld TI3 rfl rfl (cell_of hC2 rfl) ?_)
        refine WL.g rfl (rfl) rfl (o_eq rfl rfl ?_)
        refine WL.c rfl (o_pickA rfl rfl ?_)
        refine WL.c rfl (o_ash (show _ = Value.bool _ from rfl) ?_)
        refine WL.nil ?_
        exact ⟨rfl, rfl, congrArg Value.bool (by rw [Bool.eq_iff_iff]; simp_all [okB] <;> omega), rfl⟩
      skip
      refine WL.g rfl (g16) rfl (o_fa 1 TI41 rfl TI3 rfl rfl ?_)
      refine WL.g rfl (g16) rfl (o_ld TI3 rfl rfl (cell_of hC2 rfl) ?_)
      refine WL.g rfl (g16) rfl (o_eq rfl rfl ?_)
      refine WL.c rfl (o_pickO rfl rfl ?_)
      refine WL.c rfl (o_mvh (show _ = Value.bool _ from rfl) ?_)
      refine WL.sp 8 rfl (fun g21 => ?_) (fun g21 => ?_)
      · skip
        refine WL.s rfl (g21) rfl ?_
        refine WL.s rfl (g21) rfl ?_
        refine WL.s rfl (g21) rfl ?_
        refine WL.c rfl (o_pickT rfl (g21) ?_)
        refine WL.c rfl (o_mvh (show _ = Value.bool _ from rfl) ?_)
        refine WL.s rfl (rfl) rfl ?_
        refine WL.s rfl (rfl) rfl ?_
        refine WL.s rfl (rfl) rfl ?_
        refine WL.c rfl (o_pickT rfl (rfl) ?_)
        refine WL.c rfl (o_mvh (show _ = Value.bool _ from rfl) ?_)
        refine WL.g rfl (rfl) rfl (o_fa 5 TI41 rfl TI3 rfl rfl ?_)
        refine WL.g rfl (rfl) rfl (o_ld TI3 rfl rfl (cell_of hC2 rfl) ?_)
        refine WL.g rfl (rfl) rfl (o_eq rfl rfl ?_)
        refine WL.c rfl (o_pickA rfl rfl ?_)
        refine WL.c rfl (o_ash (show _ = Value.bool _ from rfl) ?_)
        refine WL.nil ?_
        exact ⟨rfl, rfl, congrArg Value.bool (by rw [Bool.eq_iff_iff]; simp_all [okB] <;> omega), rfl⟩
      skip
      refine WL.g rfl (g21) rfl (o_fa 1 TI41 rfl TI3 rfl rfl ?_)
      refine WL.g rfl (g21) rfl (o_ld TI3 rfl rfl (cell_of hC2 rfl) ?_)
      refine WL.g rfl (g21) rfl (o_eq rfl rfl ?_)
      refine WL.c rfl (o_pickO rfl rfl ?_)
      refine WL.c rfl (o_mvh (show _ = Value.bool _ from rfl) ?_)
      refine WL.sp 13 rfl (fun g26 => ?_) (fun g26 => ?_)
      · skip
        refine WL.s rfl (g26) rfl ?_
        refine WL.s rfl (g26) rfl ?_
        refine WL.s rfl (g26) rfl ?_
        refine WL.c rfl (o_pickT rfl (g26) ?_)
        refine WL.c rfl (o_mvh (show _ = Value.bool _ from rfl) ?_)
        refine WL.g rfl (rfl) rfl (o_fa 5 TI41 rfl TI3 rfl rfl ?_)
        refine WL.g rfl (rfl) rfl (o_ld TI3 rfl rfl (cell_of hC2 rfl) ?_)
        refine WL.g rfl (rfl) rfl (o_eq rfl rfl ?_)
        refine WL.c rfl (o_pickA rfl rfl ?_)
        refine WL.c rfl (o_ash (show _ = Value.bool _ from rfl) ?_)
        refine WL.nil ?_
        exact ⟨rfl, rfl, congrArg Value.bool (by rw [Bool.eq_iff_iff]; simp_all [okB] <;> omega), rfl⟩
      skip
      refine WL.g rfl (g26) rfl (o_fa 1 TI41 rfl TI3 rfl rfl ?_)
      refine WL.g rfl (g26) rfl (o_ld TI3 rfl rfl (cell_of hC2 rfl) ?_)
      refine WL.g rfl (g26) rfl (o_eq rfl rfl ?_)
      refine WL.c rfl (o_pickO rfl rfl ?_)
      refine WL.c rfl (o_mvh (show _ = Value.bool _ from rfl) ?_)
      refine WL.sp 18 rfl (fun g31 => ?_) (fun g31 => ?_)
      · skip
        refine WL.g rfl (g31) rfl (o_fa 5 TI41 rfl TI3 rfl rfl ?_)
        refine WL.g rfl (g31) rfl (o_ld TI3 rfl rfl (cell_of hC2 rfl) ?_)
        refine WL.g rfl (g31) rfl (o_eq rfl rfl ?_)
        refine WL.c rfl (o_pickA rfl rfl ?_)
        refine WL.c rfl (o_ash (show _ = Value.bool _ from rfl) ?_)
        refine WL.nil ?_
        exact ⟨rfl, rfl, congrArg Value.bool (by rw [Bool.eq_iff_iff]; simp_all [okB] <;> omega), rfl⟩
      skip
      refine WL.s rfl (g31) rfl ?_
      refine WL.s rfl (g31) rfl ?_
      refine WL.s rfl (g31) rfl ?_
      refine WL.c rfl (o_pickF rfl (g31) ?_)
      refine WL.c rfl (o_ash (show _ = Value.bool _ from rfl) ?_)
      refine WL.nil ?_
      exact ⟨rfl, rfl, congrArg Value.bool (by rw [Bool.eq_iff_iff]; simp_all [okB] <;> omega), rfl⟩
    try simp only [cs8] at c11
    refine W.seq ?_
    refine W.seq ?_
    refine W.region ?_
    refine WL.c rfl (o_eq rfl rfl ?_)
    refine WL.c rfl (o_ash (show _ = Value.bool _ from rfl) ?_)
    refine WL.nil ?_
    refine W.cond rfl (fun c36 => ?_) (fun c36 => ?_)
    · try simp only [cs8] at c36
      refine W.skip ?_
      refine W.cond rfl (fun c36 => ?_) (fun c36 => ?_)
      · try simp only [cs8] at c36
        refine W.region ?_
        refine WL.c rfl (o_fa 1 TI41 rfl TI3 rfl rfl ?_)
        refine WL.c rfl (o_ld TI3 rfl rfl (cell_of hC2 rfl) ?_)
        refine WL.c rfl (o_eq rfl rfl ?_)
        refine WL.c rfl (o_mvh (show _ = Value.bool _ from rfl) ?_)
        refine WL.sp 3 rfl (fun g43 => ?_) (fun g43 => ?_)
        · skip
          refine WL.g rfl (g43) rfl (o_fa 5 TI41 rfl TI3 rfl rfl ?_)
          refine WL.g rfl (g43) rfl (o_ld TI3 rfl rfl (cell_of hC2 rfl) ?_)
          refine WL.g rfl (g43) rfl (o_eq rfl rfl ?_)
          refine WL.c rfl (o_pickA rfl rfl ?_)
          refine WL.c rfl (o_ash (show _ = Value.bool _ from rfl) ?_)
          refine WL.nil ?_
          exact ⟨rfl, rfl, congrArg Value.bool (by rw [Bool.eq_iff_iff]; simp_all [okB] <;> omega), rfl⟩
        skip
        refine WL.s rfl (g43) rfl ?_
        refine WL.s rfl (g43) rfl ?_
        refine WL.s rfl (g43) rfl ?_
        refine WL.c rfl (o_pickF rfl (g43) ?_)
        refine WL.c rfl (o_ash (show _ = Value.bool _ from rfl) ?_)
        refine WL.nil ?_
        exact ⟨rfl, rfl, congrArg Value.bool (by rw [Bool.eq_iff_iff]; simp_all [okB] <;> omega), rfl⟩
      try simp only [cs8] at c36
      refine W.seq ?_
      refine W.seq ?_
      refine W.region ?_
      refine WL.c rfl (o_eq rfl rfl ?_)
      refine WL.c rfl (o_ash (show _ = Value.bool _ from rfl) ?_)
      refine WL.nil ?_
      refine W.cond rfl (fun c48 => ?_) (fun c48 => ?_)
      · try simp only [cs8] at c48
        refine W.skip ?_
        refine W.cond rfl (fun c48 => ?_) (fun c48 => ?_)
        · try simp only [cs8] at c48
          refine W.region ?_
          refine WL.c rfl (o_fa 1 TI41 rfl TI3 rfl rfl ?_)
          refine WL.c rfl (o_ld TI3 rfl rfl (cell_of hC2 rfl) ?_)
          refine WL.c rfl (o_ge rfl rfl ?_)
          refine WL.c rfl (o_mvh (show _ = Value.bool _ from rfl) ?_)
          refine WL.sp 3 rfl (fun g54 => ?_) (fun g54 => ?_)
          · skip
            refine WL.g rfl (g54) rfl (o_fa 1 TI41 rfl TI3 rfl rfl ?_)
            refine WL.g rfl (g54) rfl (o_ld TI3 rfl rfl (cell_of hC2 rfl) ?_)
            refine WL.g rfl (g54) rfl (o_le rfl rfl ?_)
            refine WL.c rfl (o_pickA rfl rfl ?_)
            refine WL.c rfl (o_mvh (show _ = Value.bool _ from rfl) ?_)
            refine WL.sp 8 rfl (fun g59 => ?_) (fun g59 => ?_)
            · skip
              refine WL.g rfl (g59) rfl (o_fa 5 TI41 rfl TI3 rfl rfl ?_)
              refine WL.g rfl (g59) rfl (o_ld TI3 rfl rfl (cell_of hC2 rfl) ?_)
              refine WL.g rfl (g59) rfl (o_eq rfl rfl ?_)
              refine WL.c rfl (o_pickA rfl rfl ?_)
              refine WL.c rfl (o_ash (show _ = Value.bool _ from rfl) ?_)
              refine WL.nil ?_
              exact ⟨rfl, rfl, congrArg Value.bool (by rw [Bool.eq_iff_iff]; simp_all [okB] <;> omega), rfl⟩
            skip
            refine WL.s rfl (g59) rfl ?_
            refine WL.s rfl (g59) rfl ?_
            refine WL.s rfl (g59) rfl ?_
            refine WL.c rfl (o_pickF rfl (g59) ?_)
            refine WL.c rfl (o_ash (show _ = Value.bool _ from rfl) ?_)
            refine WL.nil ?_
            exact ⟨rfl, rfl, congrArg Value.bool (by rw [Bool.eq_iff_iff]; simp_all [okB] <;> omega), rfl⟩
          skip
          refine WL.s rfl (g54) rfl ?_
          refine WL.s rfl (g54) rfl ?_
          refine WL.s rfl (g54) rfl ?_
          refine WL.c rfl (o_pickF rfl (g54) ?_)
          refine WL.c rfl (o_mvh (show _ = Value.bool _ from rfl) ?_)
          refine WL.s rfl (rfl) rfl ?_
          refine WL.s rfl (rfl) rfl ?_
          refine WL.s rfl (rfl) rfl ?_
          refine WL.c rfl (o_pickF rfl (rfl) ?_)
          refine WL.c rfl (o_ash (show _ = Value.bool _ from rfl) ?_)
          refine WL.nil ?_
          exact ⟨rfl, rfl, congrArg Value.bool (by rw [Bool.eq_iff_iff]; simp_all [okB] <;> omega), rfl⟩
        try simp only [cs8] at c48
        refine W.seq ?_
        refine W.region ?_
        refine WL.c rfl (o_eq rfl rfl ?_)
        refine WL.c rfl (o_ash (show _ = Value.bool _ from rfl) ?_)
        refine WL.nil ?_
        refine W.cond rfl (fun c64 => ?_) (fun c64 => ?_)
        · try simp only [cs8] at c64
          refine W.region ?_
          refine WL.c rfl (o_fa 1 TI41 rfl TI3 rfl rfl ?_)
          refine WL.c rfl (o_ld TI3 rfl rfl (cell_of hC2 rfl) ?_)
          refine WL.c rfl (o_eq rfl rfl ?_)
          refine WL.c rfl (o_mvh (show _ = Value.bool _ from rfl) ?_)
          refine WL.sp 3 rfl (fun g69 => ?_) (fun g69 => ?_)
          · skip
            refine WL.g rfl (g69) rfl (o_fa 5 TI41 rfl TI3 rfl rfl ?_)
            refine WL.g rfl (g69) rfl (o_ld TI3 rfl rfl (cell_of hC2 rfl) ?_)
            refine WL.g rfl (g69) rfl (o_eq rfl rfl ?_)
            refine WL.c rfl (o_pickA rfl rfl ?_)
            refine WL.c rfl (o_ash (show _ = Value.bool _ from rfl) ?_)
            refine WL.nil ?_
            exact ⟨rfl, rfl, congrArg Value.bool (by rw [Bool.eq_iff_iff]; simp_all [okB] <;> omega), rfl⟩
          skip
          refine WL.s rfl (g69) rfl ?_
          refine WL.s rfl (g69) rfl ?_
          refine WL.s rfl (g69) rfl ?_
          refine WL.c rfl (o_pickF rfl (g69) ?_)
          refine WL.c rfl (o_ash (show _ = Value.bool _ from rfl) ?_)
          refine WL.nil ?_
          exact ⟨rfl, rfl, congrArg Value.bool (by rw [Bool.eq_iff_iff]; simp_all [okB] <;> omega), rfl⟩
        try simp only [cs8] at c64
        refine W.seq ?_
        refine W.seq ?_
        refine W.region ?_
        refine WL.c rfl (o_eq rfl rfl ?_)
        refine WL.c rfl (o_ash (show _ = Value.bool _ from rfl) ?_)
        refine WL.nil ?_
        refine W.cond rfl (fun c74 => ?_) (fun c74 => ?_)
        · try simp only [cs8] at c74
          refine W.skip ?_
          refine W.cond rfl (fun c74 => ?_) (fun c74 => ?_)
          · try simp only [cs8] at c74
            refine W.region ?_
            refine WL.c rfl (o_fa 1 TI41 rfl TI3 rfl rfl ?_)
            refine WL.c rfl (o_ld TI3 rfl rfl (cell_of hC2 rfl) ?_)
            refine WL.c rfl (o_eq rfl rfl ?_)
            refine WL.c rfl (o_mvh (show _ = Value.bool _ from rfl) ?_)
            refine WL.sp 3 rfl (fun g80 => ?_) (fun g80 => ?_)
            · skip
              refine WL.g rfl (g80) rfl (o_fa 5 TI41 rfl TI3 rfl rfl ?_)
              refine WL.g rfl (g80) rfl (o_ld TI3 rfl rfl (cell_of hC2 rfl) ?_)
              refine WL.g rfl (g80) rfl (o_ge rfl rfl ?_)
              refine WL.c rfl (o_pickA rfl rfl ?_)
              refine WL.c rfl (o_ash (show _ = Value.bool _ from rfl) ?_)
              refine WL.nil ?_
              exact ⟨rfl, rfl, congrArg Value.bool (by rw [Bool.eq_iff_iff]; simp_all [okB] <;> omega), rfl⟩
            skip
            refine WL.s rfl (g80) rfl ?_
            refine WL.s rfl (g80) rfl ?_
            refine WL.s rfl (g80) rfl ?_
            refine WL.c rfl (o_pickF rfl (g80) ?_)
            refine WL.c rfl (o_ash (show _ = Value.bool _ from rfl) ?_)
            refine WL.nil ?_
            exact ⟨rfl, rfl, congrArg Value.bool (by rw [Bool.eq_iff_iff]; simp_all [okB] <;> omega), rfl⟩
          try simp only [cs8] at c74
          refine W.seq ?_
          refine W.region ?_
          refine WL.c rfl (o_ash (show _ = Value.bool _ from rfl) ?_)
          refine WL.nil ?_
          refine W.ret ?_
          refine ret1v rfl (show _ = Value.bool _ from rfl) ?_
          have h9 : okB x = false := by
            unfold okB
            repeat' split
            all_goals first | rfl | omega
          exact ⟨congrArg Value.bool (by rw [rightB, h9]; rfl), hx2⟩
        try simp only [cs8] at c74
        refine W.region ?_
        refine WL.c rfl (o_eq rfl rfl ?_)
        refine WL.c rfl (o_ash (show _ = Value.bool _ from rfl) ?_)
        refine WL.nil ?_
        refine W.cond rfl (fun c74 => ?_) (fun c74 => ?_)
        · try simp only [cs8] at c74
          refine W.region ?_
          refine WL.c rfl (o_fa 1 TI41 rfl TI3 rfl rfl ?_)
          refine WL.c rfl (o_ld TI3 rfl rfl (cell_of hC2 rfl) ?_)
          refine WL.c rfl (o_eq rfl rfl ?_)
          refine WL.c rfl (o_mvh (show _ = Value.bool _ from rfl) ?_)
          refine WL.sp 3 rfl (fun g80 => ?_) (fun g80 => ?_)
          · skip
            refine WL.g rfl (g80) rfl (o_fa 5 TI41 rfl TI3 rfl rfl ?_)
            refine WL.g rfl (g80) rfl (o_ld TI3 rfl rfl (cell_of hC2 rfl) ?_)
            refine WL.g rfl (g80) rfl (o_ge rfl rfl ?_)
            refine WL.c rfl (o_pickA rfl rfl ?_)
            refine WL.c rfl (o_ash (show _ = Value.bool _ from rfl) ?_)
            refine WL.nil ?_
            exact ⟨rfl, rfl, congrArg Value.bool (by rw [Bool.eq_iff_iff]; simp_all [okB] <;> omega), rfl⟩
          skip
          refine WL.s rfl (g80) rfl ?_
          refine WL.s rfl (g80) rfl ?_
          refine WL.s rfl (g80) rfl ?_
          refine WL.c rfl (o_pickF rfl (g80) ?_)
          refine WL.c rfl (o_ash (show _ = Value.bool _ from rfl) ?_)
          refine WL.nil ?_
          exact ⟨rfl, rfl, congrArg Value.bool (by rw [Bool.eq_iff_iff]; simp_all [okB] <;> omega), rfl⟩
        try simp only [cs8] at c74
        refine W.seq ?_
        refine W.region ?_
        refine WL.c rfl (o_ash (show _ = Value.bool _ from rfl) ?_)
        refine WL.nil ?_
        refine W.ret ?_
        refine ret1v rfl (show _ = Value.bool _ from rfl) ?_
        have h9 : okB x = false := by
          unfold okB
          repeat' split
          all_goals first | rfl | omega
        exact ⟨congrArg Value.bool (by rw [rightB, h9]; rfl), hx2⟩
      try simp only [cs8] at c48
      refine W.region ?_
      refine WL.c rfl (o_eq rfl rfl ?_)
      refine WL.c rfl (o_ash (show _ = Value.bool _ from rfl) ?_)
      refine WL.nil ?_
      refine W.cond rfl (fun c48 => ?_) (fun c48 => ?_)
      · try simp only [cs8] at c48
        refine W.region ?_
        refine WL.c rfl (o_fa 1 TI41 rfl TI3 rfl rfl ?_)
        refine WL.c rfl (o_ld TI3 rfl rfl (cell_of hC2 rfl) ?_)
        refine WL.c rfl (o_ge rfl rfl ?_)
        refine WL.c rfl (o_mvh (show _ = Value.bool _ from rfl) ?_)
        refine WL.sp 3 rfl (fun g54 => ?_) (fun g54 => ?_)
        · skip
          refine WL.g rfl (g54) rfl (o_fa 1 TI41 rfl TI3 rfl rfl ?_)
          refine WL.g rfl (g54) rfl (o_ld TI3 rfl rfl (cell_of hC2 rfl) ?_)
          refine WL.g rfl (g54) rfl (o_le rfl rfl ?_)
          refine WL.c rfl (o_pickA rfl rfl ?_)
          refine WL.c rfl (o_mvh (show _ = Value.bool _ from rfl) ?_)
          refine WL.sp 8 rfl (fun g59 => ?_) (fun g59 => ?_)
          · skip
            refine WL.g rfl (g59) rfl (o_fa 5 TI41 rfl TI3 rfl rfl ?_)
            refine WL.g rfl (g59) rfl (o_ld TI3 rfl rfl (cell_of hC2 rfl) ?_)
            refine WL.g rfl (g59) rfl (o_eq rfl rfl ?_)
            refine WL.c rfl (o_pickA rfl rfl ?_)
            refine WL.c rfl (o_ash (show _ = Value.bool _ from rfl) ?_)
            refine WL.nil ?_
            exact ⟨rfl, rfl, congrArg Value.bool (by rw [Bool.eq_iff_iff]; simp_all [okB] <;> omega), rfl⟩
          skip
          refine WL.s rfl (g59) rfl ?_
          refine WL.s rfl (g59) rfl ?_
          refine WL.s rfl (g59) rfl ?_
          refine WL.c rfl (o_pickF rfl (g59) ?_)
          refine WL.c rfl (o_ash (show _ = Value.bool _ from rfl) ?_)
          refine WL.nil ?_
          exact ⟨rfl, rfl, congrArg Value.bool (by rw [Bool.eq_iff_iff]; simp_all [okB] <;> omega), rfl⟩
        skip
        refine WL.s rfl (g54) rfl ?_
        refine WL.s rfl (g54) rfl ?_
        refine WL.s rfl (g54) rfl ?_
        refine WL.c rfl (o_pickF rfl (g54) ?_)
        refine WL.c rfl (o_mvh (show _ = Value.bool _ from rfl) ?_)
        refine WL.s rfl (rfl) rfl ?_
        refine WL.s rfl (rfl) rfl ?_
        refine WL.s rfl (rfl) rfl ?_
        refine WL.c rfl (o_pickF rfl (rfl) ?_)
        refine WL.c rfl (o_ash (show _ = Value.bool _ from rfl) ?_)
        refine WL.nil ?_
        exact ⟨rfl, rfl, congrArg Value.bool (by rw [Bool.eq_iff_iff]; simp_all [okB] <;> omega), rfl⟩
      try simp only [cs8] at c48
      refine W.seq ?_
      refine W.region ?_
      refine WL.c rfl (o_eq rfl rfl ?_)
      refine WL.c rfl (o_ash (show _ = Value.bool _ from rfl) ?_)
      refine WL.nil ?_
      refine W.cond rfl (fun c64 => ?_) (fun c64 => ?_)
      · try simp only [cs8] at c64
        refine W.region ?_
        refine WL.c rfl (o_fa 1 TI41 rfl TI3 rfl rfl ?_)
        refine WL.c rfl (o_ld TI3 rfl rfl (cell_of hC2 rfl) ?_)
        refine WL.c rfl (o_eq rfl rfl ?_)
        refine WL.c rfl (o_mvh (show _ = Value.bool _ from rfl) ?_)
        refine WL.sp 3 rfl (fun g69 => ?_) (fun g69 => ?_)
        · skip
          refine WL.g rfl (g69) rfl (o_fa 5 TI41 rfl TI3 rfl rfl ?_)
          refine WL.g rfl (g69) rfl (o_ld TI3 rfl rfl (cell_of hC2 rfl) ?_)
          refine WL.g rfl (g69) rfl (o_eq rfl rfl ?_)
          refine WL.c rfl (o_pickA rfl rfl ?_)
          refine WL.c rfl (o_ash (show _ = Value.bool _ from rfl) ?_)
          refine WL.nil ?_
          exact ⟨rfl, rfl, congrArg Value.bool (by rw [Bool.eq_iff_iff]; simp_all [okB] <;> omega), rfl⟩
        skip
        refine WL.s rfl (g69) rfl ?_
        refine WL.s rfl (g69) rfl ?_
        refine WL.s rfl (g69) rfl ?_
        refine WL.c rfl (o_pickF rfl (g69) ?_)
        refine WL.c rfl (o_ash (show _ = Value.bool _ from rfl) ?_)
        refine WL.nil ?_
        exact ⟨rfl, rfl, congrArg Value.bool (by rw [Bool.eq_iff_iff]; simp_all [okB] <;> omega), rfl⟩
      try simp only [cs8] at c64
      refine W.seq ?_
      refine W.seq ?_
      refine W.region ?_
      refine WL.c rfl (o_eq rfl rfl ?_)
      refine WL.c rfl (o_ash (show _ = Value.bool _ from rfl) ?_)
      refine WL.nil ?_
      refine W.cond rfl (fun c74 => ?_) (fun c74 => ?_)
      · try simp only [cs8] at c74
        refine W.skip ?_
        refine W.cond rfl (fun c74 => ?_) (fun c74 => ?_)
        · try simp only [cs8] at c74
          refine W.region ?_
          refine WL.c rfl (o_fa 1 TI41 rfl TI3 rfl rfl ?_)
          refine WL.c rfl (o_ld TI3 rfl rfl (cell_of hC2 rfl) ?_)
          refine WL.c rfl (o_eq rfl rfl ?_)
          refine WL.c rfl (o_mvh (show _ = Value.bool _ from rfl) ?_)
          refine WL.sp 3 rfl (fun g80 => ?_) (fun g80 => ?_)
          · skip
            refine WL.g rfl (g80) rfl (o_fa 5 TI41 rfl TI3 rfl rfl ?_)
            refine WL.g rfl (g80) rfl (o_ld TI3 rfl rfl (cell_of hC2 rfl) ?_)
            refine WL.g rfl (g80) rfl (o_ge rfl rfl ?_)
            refine WL.c rfl (o_pickA rfl rfl ?_)
            refine WL.c rfl (o_ash (show _ = Value.bool _ from rfl) ?_)
            refine WL.nil ?_
            exact ⟨rfl, rfl, congrArg Value.bool (by rw [Bool.eq_iff_iff]; simp_all [okB] <;> omega), rfl⟩
          skip
          refine WL.s rfl (g80) rfl ?_
          refine WL.s rfl (g80) rfl ?_
          refine WL.s rfl (g80) rfl ?_
          refine WL.c rfl (o_pickF rfl (g80) ?_)
          refine WL.c rfl (o_ash (show _ = Value.bool _ from rfl) ?_)
          refine WL.nil ?_
          exact ⟨rfl, rfl, congrArg Value.bool (by rw [Bool.eq_iff_iff]; simp_all [okB] <;> omega), rfl⟩
        try simp only [cs8] at c74
        refine W.seq ?_
        refine W.region ?_
        refine WL.c rfl (o_ash (show _ = Value.bool _ from rfl) ?_)
        refine WL.nil ?_
        refine W.ret ?_
        refine ret1v rfl (show _ = Value.bool _ from rfl) ?_
        have h9 : okB x = false := by
          unfold okB
          repeat' split
          all_goals first | rfl | omega
        exact ⟨congrArg Value.bool (by rw [rightB, h9]; rfl), hx2⟩
      try simp only [cs8] at c74
      refine W.region ?_
      refine WL.c rfl (o_eq rfl rfl ?_)
      refine WL.c rfl (o_ash (show _ = Value.bool _ from rfl) ?_)
      refine WL.nil ?_
      refine W.cond rfl (fun c74 => ?_) (fun c74 => ?_)
      · try simp only [cs8] at c74
        refine W.region ?_
        refine WL.c rfl (o_fa 1 TI41 rfl TI3 rfl rfl ?_)
        refine WL.c rfl (o_ld TI3 rfl rfl (cell_of hC2 rfl) ?_)
        refine WL.c rfl (o_eq rfl rfl ?_)
        refine WL.c rfl (o_mvh (show _ = Value.bool _ from rfl) ?_)
        refine WL.sp 3 rfl (fun g80 => ?_) (fun g80 => ?_)
        · skip
          refine WL.g rfl (g80) rfl (o_fa 5 TI41 rfl TI3 rfl rfl ?_)
          refine WL.g rfl (g80) rfl (o_ld TI3 rfl rfl (cell_of hC2 rfl) ?_)
          refine WL.g rfl (g80) rfl (o_ge rfl rfl ?_)
          refine WL.c rfl (o_pickA rfl rfl ?_)
          refine WL.c rfl (o_ash (show _ = Value.bool _ from rfl) ?_)
          refine WL.nil ?_
          exact ⟨rfl, rfl, congrArg Value.bool (by rw [Bool.eq_iff_iff]; simp_all [okB] <;> omega), rfl⟩
        skip
        refine WL.s rfl (g80) rfl ?_
        refine WL.s rfl (g80) rfl ?_
        refine WL.s rfl (g80) rfl ?_
        refine WL.c rfl (o_pickF rfl (g80) ?_)
        refine WL.c rfl (o_ash (show _ = Value.bool _ from rfl) ?_)
        refine WL.nil ?_
        exact ⟨rfl, rfl, congrArg Value.bool (by rw [Bool.eq_iff_iff]; simp_all [okB] <;> omega), rfl⟩
      try simp only [cs8] at c74
      refine W.seq ?_
      refine W.region ?_
      refine WL.c rfl (o_ash (show _ = Value.bool _ from rfl) ?_)
      refine WL.nil ?_
      refine W.ret ?_
      refine ret1v rfl (show _ = Value.bool _ from rfl) ?_
      have h9 : okB x = false := by
        unfold okB
        repeat' split
        all_goals first | rfl | omega
      exact ⟨congrArg Value.bool (by rw [rightB, h9]; rfl), hx2⟩
    try simp only [cs8] at c36
    refine W.seq ?_
    refine W.region ?_
    refine WL.c rfl (o_eq rfl rfl ?_)
    refine WL.c rfl (o_ash (show _ = Value.bool _ from rfl) ?_)
    refine WL.nil ?_
    refine W.cond rfl (fun c36 => ?_) (fun c36 => ?_)
    · try simp only [cs8] at c36
      refine W.skip ?_
      refine W.cond rfl (fun c36 => ?_) (fun c36 => ?_)
      · try simp only [cs8] at c36
        refine W.region ?_
        refine WL.c rfl (o_fa 1 TI41 rfl TI3 rfl rfl ?_)
        refine WL.c rfl (o_ld TI3 rfl rfl (cell_of hC2 rfl) ?_)
        refine WL.c rfl (o_eq rfl rfl ?_)
        refine WL.c rfl (o_mvh (show _ = Value.bool _ from rfl) ?_)
        refine WL.sp 3 rfl (fun g43 => ?_) (fun g43 => ?_)
        · skip
          refine WL.g rfl (g43) rfl (o_fa 5 TI41 rfl TI3 rfl rfl ?_)
          refine WL.g rfl (g43) rfl (o_ld TI3 rfl rfl (cell_of hC2 rfl) ?_)
          refine WL.g rfl (g43) rfl (o_eq rfl rfl ?_)
          refine WL.c rfl (o_pickA rfl rfl ?_)
          refine WL.c rfl (o_ash (show _ = Value.bool _ from rfl) ?_)
          refine WL.nil ?_
          exact ⟨rfl, rfl, congrArg Value.bool (by rw [Bool.eq_iff_iff]; simp_all [okB] <;> omega), rfl⟩
        skip
        refine WL.s rfl (g43) rfl ?_
        refine WL.s rfl (g43) rfl ?_
        refine WL.s rfl (g43) rfl ?_
        refine WL.c rfl (o_pickF rfl (g43) ?_)
        refine WL.c rfl (o_ash (show _ = Value.bool _ from rfl) ?_)
        refine WL.nil ?_
        exact ⟨rfl, rfl, congrArg Value.bool (by rw [Bool.eq_iff_iff]; simp_all [okB] <;> omega), rfl⟩
      try simp only [cs8] at c36
      refine W.seq ?_
      refine W.seq ?_
      refine W.region ?_
      refine WL.c rfl (o_eq rfl rfl ?_)
      refine WL.c rfl (o_ash (show _ = Value.bool _ from rfl) ?_)
      refine WL.nil ?_
      refine W.cond rfl (fun c48 => ?_) (fun c48 => ?_)
      · try simp only [cs8] at c48
        refine W.skip ?_
        refine W.cond rfl (fun c48 => ?_) (fun c48 => ?_)
        · try simp only [cs8] at c48
          refine W.region ?_
          refine WL.c rfl (o_fa 1 TI41 rfl TI3 rfl rfl ?_)
          refine WL.c rfl (o_ld TI3 rfl rfl (cell_of hC2 rfl) ?_)
          refine WL.c rfl (o_ge rfl rfl ?_)
          refine WL.c rfl (o_mvh (show _ = Value.bool _ from rfl) ?_)
          refine WL.sp 3 rfl (fun g54 => ?_) (fun g54 => ?_)
          · skip
            refine WL.g rfl (g54) rfl (o_fa 1 TI41 rfl TI3 rfl rfl ?_)
            refine WL.g rfl (g54) rfl (o_ld TI3 rfl rfl (cell_of hC2 rfl) ?_)
            refine WL.g rfl (g54) rfl (o_le rfl rfl ?_)
            refine WL.c rfl (o_pickA rfl rfl ?_)
            refine WL.c rfl (o_mvh (show _ = Value.bool _ from rfl) ?_)
            refine WL.sp 8 rfl (fun g59 => ?_) (fun g59 => ?_)
            · skip
              refine WL.g rfl (g59) rfl (o_fa 5 TI41 rfl TI3 rfl rfl ?_)
              refine WL.g rfl (g59) rfl (o_ld TI3 rfl rfl (cell_of hC2 rfl) ?_)
              refine WL.g rfl (g59) rfl (o_eq rfl rfl ?_)
              refine WL.c rfl (o_pickA rfl rfl ?_)
              refine WL.c rfl (o_ash (show _ = Value.bool _ from rfl) ?_)
              refine WL.nil ?_
              exact ⟨rfl, rfl, congrArg Value.bool (by rw [Bool.eq_iff_iff]; simp_all [okB] <;> omega), rfl⟩
            skip
            refine WL.s rfl (g59) rfl ?_
            refine WL.s rfl (g59) rfl ?_
            refine WL.s rfl (g59) rfl ?_
            refine WL.c rfl (o_pickF rfl (g59) ?_)
            refine WL.c rfl (o_ash (show _ = Value.bool _ from rfl) ?_)
            refine WL.nil ?_
            exact ⟨rfl, rfl, congrArg Value.bool (by rw [Bool.eq_iff_iff]; simp_all [okB] <;> omega), rfl⟩
          skip
          refine WL.s rfl (g54) rfl ?_
          refine WL.s rfl (g54) rfl ?_
          refine WL.s rfl (g54) rfl ?_
          refine WL.c rfl (o_pickF rfl (g54) ?_)
          refine WL.c rfl (o_mvh (show _ = Value.bool _ from rfl) ?_)
          refine WL.s rfl (rfl) rfl ?_
          refine WL.s rfl (rfl) rfl ?_
          refine WL.s rfl (rfl) rfl ?_
          refine WL.c rfl (o_pickF rfl (rfl) ?_)
          refine WL.c rfl (o_ash (show _ = Value.bool _ from rfl) ?_)
          refine WL.nil ?_
          exact ⟨rfl, rfl, congrArg Value.bool (by rw [Bool.eq_iff_iff]; simp_all [okB] <;> omega), rfl⟩
        try simp only [cs8] at c48
        refine W.seq ?_
        refine W.region ?_
        refine WL.c rfl (o_eq rfl rfl ?_)
        refine WL.c rfl (o_ash (show _ = Value.bool _ from rfl) ?_)
        refine WL.nil ?_
        refine W.cond rfl (fun c64 => ?_) (fun c64 => ?_)
        · try simp only [cs8] at c64
          refine W.region ?_
          refine WL.c rfl (o_fa 1 TI41 rfl TI3 rfl rfl ?_)
          refine WL.c rfl (o_ld TI3 rfl rfl (cell_of hC2 rfl) ?_)
          refine WL.c rfl (o_eq rfl rfl ?_)
          refine WL.c rfl (o_mvh (show _ = Value.bool _ from rfl) ?_)
          refine WL.sp 3 rfl (fun g69 => ?_) (fun g69 => ?_)
          · skip
            refine WL.g rfl (g69) rfl (o_fa 5 TI41 rfl TI3 rfl rfl ?_)
            refine WL.g rfl (g69) rfl (o_ld TI3 rfl rfl (cell_of hC2 rfl) ?_)
            refine WL.g rfl (g69) rfl (o_eq rfl rfl ?_)
            refine WL.c rfl (o_pickA rfl rfl ?_)
            refine WL.c rfl (o_ash (show _ = Value.bool _ from rfl) ?_)
            refine WL.nil ?_
            exact ⟨rfl, rfl, congrArg Value.bool (by rw [Bool.eq_iff_iff]; simp_all [okB] <;> omega), rfl⟩
          skip
          refine WL.s rfl (g69) rfl ?_
          refine WL.s rfl (g69) rfl ?_
          refine WL.s rfl (g69) rfl ?_
          refine WL.c rfl (o_pickF rfl (g69) ?_)
          refine WL.c rfl (o_ash (show _ = Value.bool _ from rfl) ?_)
          refine WL.nil ?_
          exact ⟨rfl, rfl, congrArg Value.bool (by rw [Bool.eq_iff_iff]; simp_all [okB] <;> omega), rfl⟩
        try simp only [cs8] at c64
        refine W.seq ?_
        refine W.seq ?_
        refine W.region ?_
        refine WL.c rfl (o_eq rfl rfl ?_)
        refine WL.c rfl (o_ash (show _ = Value.bool _ from rfl) ?_)
        refine WL.nil ?_
        refine W.cond rfl (fun c74 => ?_) (fun c74 => ?_)
        · try simp only [cs8] at c74
          refine W.skip ?_
          refine W.cond rfl (fun c74 => ?_) (fun c74 => ?_)
          · try simp only [cs8] at c74
            refine W.region ?_
            refine WL.c rfl (o_fa 1 TI41 rfl TI3 rfl rfl ?_)
            refine WL.c rfl (o_ld TI3 rfl rfl (cell_of hC2 rfl) ?_)
            refine WL.c rfl (o_eq rfl rfl ?_)
            refine WL.c rfl (o_mvh (show _ = Value.bool _ from rfl) ?_)
            refine WL.sp 3 rfl (fun g80 => ?_) (fun g80 => ?_)
            · skip
              refine WL.g rfl (g80) rfl (o_fa 5 TI41 rfl TI3 rfl rfl ?_)
              refine WL.g rfl (g80) rfl (o_ld TI3 rfl rfl (cell_of hC2 rfl) ?_)
              refine WL.g rfl (g80) rfl (o_ge rfl rfl ?_)
              refine WL.c rfl (o_pickA rfl rfl ?_)
              refine WL.c rfl (o_ash (show _ = Value.bool _ from rfl) ?_)
              refine WL.nil ?_
              exact ⟨rfl, rfl, congrArg Value.bool (by rw [Bool.eq_iff_iff]; simp_all [okB] <;> omega), rfl⟩
            skip
            refine WL.s rfl (g80) rfl ?_
            refine WL.s rfl (g80) rfl ?_
            refine WL.s rfl (g80) rfl ?_
            refine WL.c rfl (o_pickF rfl (g80) ?_)
            refine WL.c rfl (o_ash (show _ = Value.bool _ from rfl) ?_)
            refine WL.nil ?_
            exact ⟨rfl, rfl, congrArg Value.bool (by rw [Bool.eq_iff_iff]; simp_all [okB] <;> omega), rfl⟩
          try simp only [cs8] at c74
          refine W.seq ?_
          refine W.region ?_
          refine WL.c rfl (o_ash (show _ = Value.bool _ from rfl) ?_)
          refine WL.nil ?_
          refine W.ret ?_
          refine ret1v rfl (show _ = Value.bool _ from rfl) ?_
          have h9 : okB x = false := by
            unfold okB
            repeat' split
            all_goals first | rfl | omega
          exact ⟨congrArg Value.bool (by rw [rightB, h9]; rfl), hx2⟩
        try simp only [cs8] at c74
        refine W.region ?_
        refine WL.c rfl (o_eq rfl rfl ?_)
        refine WL.c rfl (o_ash (show _ = Value.bool _ from rfl) ?_)
        refine WL.nil ?_
        refine W.cond rfl (fun c74 => ?_) (fun c74 => ?_)
        · try simp only [cs8] at c74
          refine W.region ?_
          refine WL.c rfl (o_fa 1 TI41 rfl TI3 rfl rfl ?_)
          refine WL.c rfl (o_ld TI3 rfl rfl (cell_of hC2 rfl) ?_)
          refine WL.c rfl (o_eq rfl rfl ?_)
          refine WL.c rfl (o_mvh (show _ = Value.bool _ from rfl) ?_)
          refine WL.sp 3 rfl (fun g80 => ?_) (fun g80 => ?_)
          · skip
            refine WL.g rfl (g80) rfl (o_fa 5 TI41 rfl TI3 rfl rfl ?_)
            refine WL.g rfl (g80) rfl (o_ld TI3 rfl rfl (cell_of hC2 rfl) ?_)
            refine WL.g rfl (g80) rfl (o_ge rfl rfl ?_)
            refine WL.c rfl (o_pickA rfl rfl ?_)
            refine WL.c rfl (o_ash (show _ = Value.bool _ from rfl) ?_)
            refine WL.nil ?_
            exact ⟨rfl, rfl, congrArg Value.bool (by rw [Bool.eq_iff_iff]; simp_all [okB] <;> omega), rfl⟩
          skip
          refine WL.s rfl (g80) rfl ?_
          refine WL.s rfl (g80) rfl ?_
          refine WL.s rfl (g80) rfl ?_
          refine WL.c rfl (o_pickF rfl (g80) ?_)
          refine WL.c rfl (o_ash (show _ = Value.bool _ from rfl) ?_)
          refine WL.nil ?_
          exact ⟨rfl, rfl, congrArg Value.bool (by rw [Bool.eq_iff_iff]; simp_all [okB] <;> omega), rfl⟩
        try simp only [cs8] at c74
        refine W.seq ?_
        refine W.region ?_
        refine WL.c rfl (o_ash (show _ = Value.bool _ from rfl) ?_)
        refine WL.nil ?_
        refine W.ret ?_
        refine ret1v rfl (show _ = Value.bool _ from rfl) ?_
        have h9 : okB x = false := by
          unfold okB
          repeat' split
          all_goals first | rfl | omega
        exact ⟨congrArg Value.bool (by rw [rightB, h9]; rfl), hx2⟩
      try simp only [cs8] at c48
      refine W.region ?_
      refine WL.c rfl (o_eq rfl rfl ?_)
      refine WL.c rfl (o_ash (show _ = Value.bool _ from rfl) ?_)
      refine WL.nil ?_
      refine W.cond rfl (fun c48 => ?_) (fun c48 => ?_)
      · try simp only [cs8] at c48
        refine W.region ?_
        refine WL.c rfl (o_fa 1 TI41 rfl TI3 rfl rfl ?_)
        refine WL.c rfl (o_ld TI3 rfl rfl (cell_of hC2 rfl) ?_)
        refine WL.c rfl (o_ge rfl rfl ?_)
        refine WL.c rfl (o_mvh (show _ = Value.bool _ from rfl) ?_)
        refine WL.sp 3 rfl (fun g54 => ?_) (fun g54 => ?_)
        · skip
          refine WL.g rfl (g54) rfl (o_fa 1 TI41 rfl TI3 rfl rfl ?_)
          refine WL.g rfl (g54) rfl (o_ld TI3 rfl rfl (cell_of hC2 rfl) ?_)
          refine WL.g rfl (g54) rfl (o_le rfl rfl ?_)
          refine WL.c rfl (o_pickA rfl rfl ?_)
          refine WL.c rfl (o_mvh (show _ = Value.bool _ from rfl) ?_)
          refine WL.sp 8 rfl (fun g59 => ?_) (fun g59 => ?_)
          · skip
            refine WL.g rfl (g59) rfl (o_fa 5 TI41 rfl TI3 rfl rfl ?_)
            refine WL.g rfl (g59) rfl (o_ld TI3 rfl rfl (cell_of hC2 rfl) ?_)
            refine WL.g rfl (g59) rfl (o_eq rfl rfl ?_)
            refine WL.c rfl (o_pickA rfl rfl ?_)
            refine WL.c rfl (o_ash (show _ = Value.bool _ from rfl) ?_)
            refine WL.nil ?_
            exact ⟨rfl, rfl, congrArg Value.bool (by rw [Bool.eq_iff_iff]; simp_all [okB] <;> omega), rfl⟩
          skip
          refine WL.s rfl (g59) rfl ?_
          refine WL.s rfl (g59) rfl ?_
          refine WL.s rfl (g59) rfl ?_
          refine WL.c rfl (o_pickF rfl (g59) ?_)
          refine WL.c rfl (o_ash (show _ = Value.bool _ from rfl) ?_)
          refine WL.nil ?_
          exact ⟨rfl, rfl, congrArg Value.bool (by rw [Bool.eq_iff_iff]; simp_all [okB] <;> omega), rfl⟩
        skip
        refine WL.s rfl (g54) rfl ?_
        refine WL.s rfl (g54) rfl ?_
        refine WL.s rfl (g54) rfl ?_
        refine WL.c rfl (o_pickF rfl (g54) ?_)
        refine WL.c rfl (o_mvh (show _ = Value.bool _ from rfl) ?_)
        refine WL.s rfl (rfl) rfl ?_
        refine WL.s rfl (rfl) rfl ?_
        refine WL.s rfl (rfl) rfl ?_
        refine WL.c rfl (o_pickF rfl (rfl) ?_)
        refine WL.c rfl (o_ash (show _ = Value.bool _ from rfl) ?_)
        refine WL.nil ?_
        exact ⟨rfl, rfl, congrArg Value.bool (by rw [Bool.eq_iff_iff]; simp_all [okB] <;> omega), rfl⟩
      try simp only [cs8] at c48
      refine W.seq ?_
      refine W.region ?_
      refine WL.c rfl (o_eq rfl rfl ?_)
      refine WL.c rfl (o_ash (show _ = Value.bool _ from rfl) ?_)
      refine WL.nil ?_
      refine W.cond rfl (fun c64 => ?_) (fun c64 => ?_)
      · try simp only [cs8] at c64
        refine W.region ?_
        refine WL.c rfl (o_fa 1 TI41 rfl TI3 rfl rfl ?_)
        refine WL.c rfl (o_ld TI3 rfl rfl (cell_of hC2 rfl) ?_)
        refine WL.c rfl (o_eq rfl rfl ?_)
        refine WL.c rfl (o_mvh (show _ = Value.bool _ from rfl) ?_)
        refine WL.sp 3 rfl (fun g69 => ?_) (fun g69 => ?_)
        · skip
          refine WL.g rfl (g69) rfl (o_fa 5 TI41 rfl TI3 rfl rfl ?_)
          refine WL.g rfl (g69) rfl (o_ld TI3 rfl rfl (cell_of hC2 rfl) ?_)
          refine WL.g rfl (g69) rfl (o_eq rfl rfl ?_)
          refine WL.c rfl (o_pickA rfl rfl ?_)
          refine WL.c rfl (o_ash (show _ = Value.bool _ from rfl) ?_)
          refine WL.nil ?_
          exact ⟨rfl, rfl, congrArg Value.bool (by rw [Bool.eq_iff_iff]; simp_all [okB] <;> omega), rfl⟩
        skip
        refine WL.s rfl (g69) rfl ?_
        refine WL.s rfl (g69) rfl ?_
        refine WL.s rfl (g69) rfl ?_
        refine WL.c rfl (o_pickF rfl (g69) ?_)
        refine WL.c rfl (o_ash (show _ = Value.bool _ from rfl) ?_)
        refine WL.nil ?_
        exact ⟨rfl, rfl, congrArg Value.bool (by rw [Bool.eq_iff_iff]; simp_all [okB] <;> omega), rfl⟩
      try simp only [cs8] at c64
      refine W.seq ?_
      refine W.seq ?_
      refine W.region ?_
      refine WL.c rfl (o_eq rfl rfl ?_)
      refine WL.c rfl (o_ash (show _ = Value.bool _ from rfl) ?_)
      refine WL.nil ?_
      refine W.cond rfl (fun c74 => ?_) (fun c74 => ?_)
      · try simp only [cs8] at c74
        refine W.skip ?_
        refine W.cond rfl (fun c74 => ?_) (fun c74 => ?_)
        · try simp only [cs8] at c74
          refine W.region ?_
          refine WL.c rfl (o_fa 1 TI41 rfl TI3 rfl rfl ?_)
          refine WL.c rfl (o_ld TI3 rfl rfl (cell_of hC2 rfl) ?_)
          refine WL.c rfl (o_eq rfl rfl ?_)
          refine WL.c rfl (o_mvh (show _ = Value.bool _ from rfl) ?_)
          refine WL.sp 3 rfl (fun g80 => ?_) (fun g80 => ?_)
          · skip
            refine WL.g rfl (g80) rfl (o_fa 5 TI41 rfl TI3 rfl rfl ?_)
            refine WL.g rfl (g80) rfl (o_ld TI3 rfl rfl (cell_of hC2 rfl) ?_)
            refine WL.g rfl (g80) rfl (o_ge rfl rfl ?_)
            refine WL.c rfl (o_pickA rfl rfl ?_)
            refine WL.c rfl (o_ash (show _ = Value.bool _ from rfl) ?_)
            refine WL.nil ?_
            exact ⟨rfl, rfl, congrArg Value.bool (by rw [Bool.eq_iff_iff]; simp_all [okB] <;> omega), rfl⟩
          skip
          refine WL.s rfl (g80) rfl ?_
          refine WL.s rfl (g80) rfl ?_
          refine WL.s rfl (g80) rfl ?_
          refine WL.c rfl (o_pickF rfl (g80) ?_)
          refine WL.c rfl (o_ash (show _ = Value.bool _ from rfl) ?_)
          refine WL.nil ?_
          exact ⟨rfl, rfl, congrArg Value.bool (by rw [Bool.eq_iff_iff]; simp_all [okB] <;> omega), rfl⟩
        try simp only [cs8] at c74
        refine W.seq ?_
        refine W.region ?_
        refine WL.c rfl (o_ash (show _ = Value.bool _ from rfl) ?_)
        refine WL.nil ?_
        refine W.ret ?_
        refine ret1v rfl (show _ = Value.bool _ from rfl) ?_
        have h9 : okB x = false := by
          unfold okB
          repeat' split
          all_goals first | rfl | omega
        exact ⟨congrArg Value.bool (by rw [rightB, h9]; rfl), hx2⟩
      try simp only [cs8] at c74
      refine W.region ?_
      refine WL.c rfl (o_eq rfl rfl ?_)
      refine WL.c rfl (o_ash (show _ = Value.bool _ from rfl) ?_)
      refine WL.nil ?_
      refine W.cond rfl (fun c74 => ?_) (fun c74 => ?_)
      · try simp only [cs8] at c74
        refine W.region ?_
        refine WL.c rfl (o_fa 1 TI41 rfl TI3 rfl rfl ?_)
        refine WL.c rfl (o_ld TI3 rfl rfl (cell_of hC2 rfl) ?_)
        refine WL.c rfl (o_eq rfl rfl ?_)
        refine WL.c rfl (o_mvh (show _ = Value.bool _ from rfl) ?_)
        refine WL.sp 3 rfl (fun g80 => ?_) (fun g80 => ?_)
        · skip
          refine WL.g rfl (g80) rfl (o_fa 5 TI41 rfl TI3 rfl rfl ?_)
          refine WL.g rfl (g80) rfl (o_ld TI3 rfl rfl (cell_of hC2 rfl) ?_)
          refine WL.g rfl (g80) rfl (o_ge rfl rfl ?_)
          refine WL.c rfl (o_pickA rfl rfl ?_)
          refine WL.c rfl (o_ash (show _ = Value.bool _ from rfl) ?_)
          refine WL.nil ?_
          exact ⟨rfl, rfl, congrArg Value.bool (by rw [Bool.eq_iff_iff]; simp_all [okB] <;> omega), rfl⟩
        skip
        refine WL.s rfl (g80) rfl ?_
        refine WL.s rfl (g80) rfl ?_
        refine WL.s rfl (g80) rfl ?_
        refine WL.c rfl (o_pickF rfl (g80) ?_)
        refine WL.c rfl (o_ash (show _ = Value.bool _ from rfl) ?_)
        refine WL.nil ?_
        exact ⟨rfl, rfl, congrArg Value.bool (by rw [Bool.eq_iff_iff]; simp_all [okB] <;> omega), rfl⟩
      try simp only [cs8] at c74
      refine W.seq ?_
      refine W.region ?_
      refine WL.c rfl (o_ash (show _ = Value.bool _ from rfl) ?_)
      refine WL.nil ?_
      refine W.ret ?_
      refine ret1v rfl (show _ = Value.bool _ from rfl) ?_
      have h9 : okB x = false := by
        unfold okB
        repeat' split
        all_goals first | rfl | omega
      exact ⟨congrArg Value.bool (by rw [rightB, h9]; rfl), hx2⟩
    try simp only [cs8] at c36
    refine W.region ?_
    refine WL.c rfl (o_eq rfl rfl ?_)
    refine WL.c rfl (o_ash (show _ = Value.bool _ from rfl) ?_)
    refine WL.nil ?_
    refine W.cond rfl (fun c36 => ?_) (fun c36 => ?_)
    · try simp only [cs8] at c36
      refine W.region ?_
      refine WL.c rfl (o_fa 1 TI41 rfl TI3 rfl rfl ?_)
      refine WL.c rfl (o_ld TI3 rfl rfl (cell_of hC2 rfl) ?_)
      refine WL.c rfl (o_eq rfl rfl ?_)
      refine WL.c rfl (o_mvh (show _ = Value.bool _ from rfl) ?_)
      refine WL.sp 3 rfl (fun g43 => ?_) (fun g43 => ?_)
      · skip
        refine WL.g rfl (g43) rfl (o_fa 5 TI41 rfl TI3 rfl rfl ?_)
        refine WL.g rfl (g43) rfl (o_ld TI3 rfl rfl (cell_of hC2 rfl) ?_)
        refine WL.g rfl (g43) rfl (o_eq rfl rfl ?_)
        refine WL.c rfl (o_pickA rfl rfl ?_)
        refine WL.c rfl (o_ash (show _ = Value.bool _ from rfl) ?_)
        refine WL.nil ?_
        exact ⟨rfl, rfl, congrArg Value.bool (by rw [Bool.eq_iff_iff]; simp_all [okB] <;> omega), rfl⟩
      skip
      refine WL.s rfl (g43) rfl ?_
      refine WL.s rfl (g43) rfl ?_
      refine WL.s rfl (g43) rfl ?_
      refine WL.c rfl (o_pickF rfl (g43) ?_)
      refine WL.c rfl (o_ash (show _ = Value.bool _ from rfl) ?_)
      refine WL.nil ?_
      exact ⟨rfl, rfl, congrArg Value.bool (by rw [Bool.eq_iff_iff]; simp_all [okB] <;> omega), rfl⟩
    try simp only [cs8] at c36
    refine W.seq ?_
    refine W.seq ?_
    refine W.region ?_
    refine WL.c rfl (o_eq rfl rfl ?_)
    refine WL.c rfl (o_ash (show _ = Value.bool _ from rfl) ?_)
    refine WL.nil ?_
    refine W.cond rfl (fun c48 => ?_) (fun c48 => ?_)
    · try simp only [cs8] at c48
      refine W.skip ?_
      refine W.cond rfl (fun c48 => ?_) (fun c48 => ?_)
      · try simp only [cs8] at c48
        refine W.region ?_
        refine WL.c rfl (o_fa 1 TI41 rfl TI3 rfl rfl ?_)
        refine WL.c rfl (o_ld TI3 rfl rfl (cell_of hC2 rfl) ?_)
        refine WL.c rfl (o_ge rfl rfl ?_)
        refine WL.c rfl (o_mvh (show _ = Value.bool _ from rfl) ?_)
        refine WL.sp 3 rfl (fun g54 => ?_) (fun g54 => ?_)
        · skip
          refine WL.g rfl (g54) rfl (o_fa 1 TI41 rfl TI3 rfl rfl ?_)
          refine WL.g rfl (g54) rfl (o_ld TI3 rfl rfl (cell_of hC2 rfl) ?_)
          refine WL.g rfl (g54) rfl (o_le rfl rfl ?_)
          refine WL.c rfl (o_pickA rfl rfl ?_)
          refine WL.c rfl (o_mvh (show _ = Value.bool _ from rfl) ?_)
          refine WL.sp 8 rfl (fun g59 => ?_) (fun g59 => ?_)
          · skip
            refine WL.g rfl (g59) rfl (o_fa 5 TI41 rfl TI3 rfl rfl ?_)
            refine WL.g rfl (g59) rfl (o_ld TI3 rfl rfl (cell_of hC2 rfl) ?_)
            refine WL.g rfl (g59) rfl (o_eq rfl rfl ?_)
            refine WL.c rfl (o_pickA rfl rfl ?_)
            refine WL.c rfl (o_ash (show _ = Value.bool _ from rfl) ?_)
            refine WL.nil ?_
            exact ⟨rfl, rfl, congrArg Value.bool (by rw [Bool.eq_iff_iff]; simp_all [okB] <;> omega), rfl⟩
          skip
          refine WL.s rfl (g59) rfl ?_
          refine WL.s rfl (g59) rfl ?_
          refine WL.s rfl (g59) rfl ?_
          refine WL.c rfl (o_pickF rfl (g59) ?_)
          refine WL.c rfl (o_ash (show _ = Value.bool _ from rfl) ?_)
          refine WL.nil ?_
          exact ⟨rfl, rfl, congrArg Value.bool (by rw [Bool.eq_iff_iff]; simp_all [okB] <;> omega), rfl⟩
        skip
        refine WL.s rfl (g54) rfl ?_
        refine WL.s rfl (g54) rfl ?_
        refine WL.s rfl (g54) rfl ?_
        refine WL.c rfl (o_pickF rfl (g54) ?_)
        refine WL.c rfl (o_mvh (show _ = Value.bool _ from rfl) ?_)
        refine WL.s rfl (rfl) rfl ?_
        refine WL.s rfl (rfl) rfl ?_
        refine WL.s rfl (rfl) rfl ?_
        refine WL.c rfl (o_pickF rfl (rfl) ?_)
        refine WL.c rfl (o_ash (show _ = Value.bool _ from rfl) ?_)
        refine WL.nil ?_
        exact ⟨rfl, rfl, congrArg Value.bool (by rw [Bool.eq_iff_iff]; simp_all [okB] <;> omega), rfl⟩
      try simp only [cs8] at c48
      refine W.seq ?_
      refine W.region ?_
      refine WL.c rfl (o_eq rfl rfl ?_)
      refine WL.c rfl (o_ash (show _ = Value.bool _ from rfl) ?_)
      refine WL.nil ?_
      refine W.cond rfl (fun c64 => ?_) (fun c64 => ?_)
      · try simp only [cs8] at c64
        refine W.region ?_
        refine WL.c rfl (o_fa 1 TI41 rfl TI3 rfl rfl ?_)
        refine WL.c rfl (o_ld TI3 rfl rfl (cell_of hC2 rfl) ?_)
        refine WL.c rfl (o_eq rfl rfl ?_)
        refine WL.c rfl (o_mvh (show _ = Value.bool _ from rfl) ?_)
        refine WL.sp 3 rfl (fun g69 => ?_) (fun g69 => ?_)
        · skip
          refine WL.g rfl (g69) rfl (o_fa 5 TI41 rfl TI3 rfl rfl ?_)
          refine WL.g rfl (g69) rfl (o_ld TI3 rfl rfl (cell_of hC2 rfl) ?_)
          refine WL.g rfl (g69) rfl (o_eq rfl rfl ?_)
          refine WL.c rfl (o_pickA rfl rfl ?_)
          refine WL.c rfl (o_ash (show _ = Value.bool _ from rfl) ?_)
          refine WL.nil ?_
          exact ⟨rfl, rfl, congrArg Value.bool (by rw [Bool.eq_iff_iff]; simp_all [okB] <;> omega), rfl⟩
        skip
        refine WL.s rfl (g69) rfl ?_
        refine WL.s rfl (g69) rfl ?_
        refine WL.s rfl (g69) rfl ?_
        refine WL.c rfl (o_pickF rfl (g69) ?_)
        refine WL.c rfl (o_ash (show _ = Value.bool _ from rfl) ?_)
        refine WL.nil ?_
        exact ⟨rfl, rfl, congrArg Value.bool (by rw [Bool.eq_iff_iff]; simp_all [okB] <;> omega), rfl⟩
      try simp only [cs8] at c64
      refine W.seq ?_
      refine W.seq ?_
      refine W.region ?_
      refine WL.c rfl (o_eq rfl rfl ?_)
      refine WL.c rfl (o_ash (show _ = Value.bool _ from rfl) ?_)
      refine WL.nil ?_
      refine W.cond rfl (fun c74 => ?_) (fun c74 => ?_)
      · try simp only [cs8] at c74
        refine W.skip ?_
        refine W.cond rfl (fun c74 => ?_) (fun c74 => ?_)
        · try simp only [cs8] at c74
          refine W.region ?_
          refine WL.c rfl (o_fa 1 TI41 rfl TI3 rfl rfl ?_)
          refine WL.c rfl (o_ld TI3 rfl rfl (cell_of hC2 rfl) ?_)
          refine WL.c rfl (o_eq rfl rfl ?_)
          refine WL.c rfl (o_mvh (show _ = Value.bool _ from rfl) ?_)
          refine WL.sp 3 rfl (fun g80 => ?_) (fun g80 => ?_)
          · skip
            refine WL.g rfl (g80) rfl (o_fa 5 TI41 rfl TI3 rfl rfl ?_)
            refine WL.g rfl (g80) rfl (o_ld TI3 rfl rfl (cell_of hC2 rfl) ?_)
            refine WL.g rfl (g80) rfl (o_ge rfl rfl ?_)
            refine WL.c rfl (o_pickA rfl rfl ?_)
            refine WL.c rfl (o_ash (show _ = Value.bool _ from rfl) ?_)
            refine WL.nil ?_
            exact ⟨rfl, rfl, congrArg Value.bool (by rw [Bool.eq_iff_iff]; simp_all [okB] <;> omega), rfl⟩
          skip
          refine WL.s rfl (g80) rfl ?_
          refine WL.s rfl (g80) rfl ?_
          refine WL.s rfl (g80) rfl ?_
          refine WL.c rfl (o_pickF rfl (g80) ?_)
          refine WL.c rfl (o_ash (show _ = Value.bool _ from rfl) ?_)
          refine WL.nil ?_
          exact ⟨rfl, rfl, congrArg Value.bool (by rw [Bool.eq_iff_iff]; simp_all [okB] <;> omega), rfl⟩
        try simp only [cs8] at c74
        refine W.seq ?_
        refine W.region ?_
        refine WL.c rfl (o_ash (show _ = Value.bool _ from rfl) ?_)
        refine WL.nil ?_
        refine W.ret ?_
        refine ret1v rfl (show _ = Value.bool _ from rfl) ?_
        have h9 : okB x = false := by
          unfold okB
          repeat' split
          all_goals first | rfl | omega
        exact ⟨congrArg Value.bool (by rw [rightB, h9]; rfl), hx2⟩
      try simp only [cs8] at c74
      refine W.region ?_
      refine WL.c rfl (o_eq rfl rfl ?_)
      refine WL.c rfl (o_ash (show _ = Value.bool _ from rfl) ?_)
      refine WL.nil ?_
      refine W.cond rfl (fun c74 => ?_) (fun c74 => ?_)
      · try simp only [cs8] at c74
        refine W.region ?_
        refine WL.c rfl (o_fa 1 TI41 rfl TI3 rfl rfl ?_)
        refine WL.c rfl (o_ld TI3 rfl rfl (cell_of hC2 rfl) ?_)
        refine WL.c rfl (o_eq rfl rfl ?_)
        refine WL.c rfl (o_mvh (show _ = Value.bool _ from rfl) ?_)
        refine WL.sp 3 rfl (fun g80 => ?_) (fun g80 => ?_)
        · skip
          refine WL.g rfl (g80) rfl (o_fa 5 TI41 rfl TI3 rfl rfl ?_)
          refine WL.g rfl (g80) rfl (o_ld TI3 rfl rfl (cell_of hC2 rfl) ?_)
          refine WL.g rfl (g80) rfl (o_ge rfl rfl ?_)
          refine WL.c rfl (o_pickA rfl rfl ?_)
          refine WL.c rfl (o_ash (show _ = Value.bool _ from rfl) ?_)
          refine WL.nil ?_
          exact ⟨rfl, rfl, congrArg Value.bool (by rw [Bool.eq_iff_iff]; simp_all [okB] <;> omega), rfl⟩
        skip
        refine WL.s rfl (g80) rfl ?_
        refine WL.s rfl (g80) rfl ?_
        refine WL.s rfl (g80) rfl ?_
        refine WL.c rfl (o_pickF rfl (g80) ?_)
        refine WL.c rfl (o_ash (show _ = Value.bool _ from rfl) ?_)
        refine WL.nil ?_
        exact ⟨rfl, rfl, congrArg Value.bool (by rw [Bool.eq_iff_iff]; simp_all [okB] <;> omega), rfl⟩
      try simp only [cs8] at c74
      refine W.seq ?_
      refine W.region ?_
      refine WL.c rfl (o_ash (show _ = Value.bool _ from rfl) ?_)
      refine WL.nil ?_
      refine W.ret ?_
      refine ret1v rfl (show _ = Value.bool _ from rfl) ?_
      have h9 : okB x = false := by
        unfold okB
        repeat' split
        all_goals first | rfl | omega
      exact ⟨congrArg Value.bool (by rw [rightB, h9]; rfl), hx2⟩
    try simp only [cs8] at c48
    refine W.region ?_
    refine WL.c rfl (o_eq rfl rfl ?_)
    refine WL.c rfl (o_ash (show _ = Value.bool _ from rfl) ?_)
    refine WL.nil ?_
    refine W.cond rfl (fun c48 => ?_) (fun c48 => ?_)
    · try simp only [cs8] at c48
      refine W.region ?_
      refine WL.c rfl (o_fa 1 TI41 rfl TI3 rfl rfl ?_)
      refine WL.c rfl (o_ld TI3 rfl rfl (cell_of hC2 rfl) ?_)
      refine WL.c rfl (o_ge rfl rfl ?_)
      refine WL.c rfl (o_mvh (show _ = Value.bool _ from rfl) ?_)
      refine WL.sp 3 rfl (fun g54 => ?_) (fun g54 => ?_)
      · skip
        refine WL.g rfl (g54) rfl (o_fa 1 TI41 rfl TI3 rfl rfl ?_)
        refine WL.g rfl (g54) rfl (o_ld TI3 rfl rfl (cell_of hC2 rfl) ?_)
        refine WL.g rfl (g54) rfl (o_le rfl rfl ?_)
        refine WL.c rfl (o_pickA rfl rfl ?_)
        refine WL.c rfl (o_mvh (show _ = Value.bool _ from rfl) ?_)
        refine WL.sp 8 rfl (fun g59 => ?_) (fun g59 => ?_)
        · skip
          refine WL.g rfl (g59) rfl (o_fa 5 TI41 rfl TI3 rfl rfl ?_)
          refine WL.g rfl (g59) rfl (o_ld TI3 rfl rfl (cell_of hC2 rfl) ?_)
          refine WL.g rfl (g59) rfl (o_eq rfl rfl ?_)
          refine WL.c rfl (o_pickA rfl rfl ?_)
          refine WL.c rfl (o_ash (show _ = Value.bool _ from rfl) ?_)
          refine WL.nil ?_
          exact ⟨rfl, rfl, congrArg Value.bool (by rw [Bool.eq_iff_iff]; simp_all [okB] <;> omega), rfl⟩
        skip
        refine WL.s rfl (g59) rfl ?_
        refine WL.s rfl (g59) rfl ?_
        refine WL.s rfl (g59) rfl ?_
        refine WL.c rfl (o_pickF rfl (g59) ?_)
        refine WL.c rfl (o_ash (show _ = Value.bool _ from rfl) ?_)
        refine WL.nil ?_
        exact ⟨rfl, rfl, congrArg Value.bool (by rw [Bool.eq_iff_iff]; simp_all [okB] <;> omega), rfl⟩
      skip
      refine WL.s rfl (g54) rfl ?_
      refine WL.s rfl (g54) rfl ?_
      refine WL.s rfl (g54) rfl ?_
      refine WL.c rfl (o_pickF rfl (g54) ?_)
      refine WL.c rfl (o_mvh (show _ = Value.bool _ from rfl) ?_)
      refine WL.s rfl (rfl) rfl ?_
      refine WL.s rfl (rfl) rfl ?_
      refine WL.s rfl (rfl) rfl ?_
      refine WL.c rfl (o_pickF rfl (rfl) ?_)
      refine WL.c rfl (o_ash (show _ = Value.bool _ from rfl) ?_)
      refine WL.nil ?_
      exact ⟨rfl, rfl, congrArg Value.bool (by rw [Bool.eq_iff_iff]; simp_all [okB] <;> omega), rfl⟩
    try simp only [cs8] at c48
    refine W.seq ?_
    refine W.region ?_
    refine WL.c rfl (o_eq rfl rfl ?_)
    refine WL.c rfl (o_ash (show _ = Value.bool _ from rfl) ?_)
    refine WL.nil ?_
    refine W.cond rfl (fun c64 => ?_) (fun c64 => ?_)
    · try simp only [cs8] at c64
      refine W.region ?_
      refine WL.c rfl (o_fa 1 TI41 rfl TI3 rfl rfl ?_)
      refine WL.c rfl (o_ld TI3 rfl rfl (cell_of hC2 rfl) ?_)
      refine WL.c rfl (o_eq rfl rfl ?_)
      refine WL.c rfl (o_mvh (show _ = Value.bool _ from rfl) ?_)
      refine WL.sp 3 rfl (fun g69 => ?_) (fun g69 => ?_)
      · skip
        refine WL.g rfl (g69) rfl (o_fa 5 TI41 rfl TI3 rfl rfl ?_)
        refine WL.g rfl (g69) rfl (o_ld TI3 rfl rfl (cell_of hC2 rfl) ?_)
        refine WL.g rfl (g69) rfl (o_eq rfl rfl ?_)
        refine WL.c rfl (o_pickA rfl rfl ?_)
        refine WL.c rfl (o_ash (show _ = Value.bool _ from rfl) ?_)
        refine WL.nil ?_
        exact ⟨rfl, rfl, congrArg Value.bool (by rw [Bool.eq_iff_iff]; simp_all [okB] <;> omega), rfl⟩
      skip
      refine WL.s rfl (g69) rfl ?_
      refine WL.s rfl (g69) rfl ?_
      refine WL.s rfl (g69) rfl ?_
      refine WL.c rfl (o_pickF rfl (g69) ?_)
      refine WL.c rfl (o_ash (show _ = Value.bool _ from rfl) ?_)
      refine WL.nil ?_
      exact ⟨rfl, rfl, congrArg Value.bool (by rw [Bool.eq_iff_iff]; simp_all [okB] <;> omega), rfl⟩
    try simp only [cs8] at c64
    refine W.seq ?_
    refine W.seq ?_
    refine W.region ?_
    refine WL.c rfl (o_eq rfl rfl ?_)
    refine WL.c rfl (o_ash (show _ = Value.bool _ from rfl) ?_)
    refine WL.nil ?_
    refine W.cond rfl (fun c74 => ?_) (fun c74 => ?_)
    · try simp only [cs8] at c74
      refine W.skip ?_
      refine W.cond rfl (fun c74 => ?_) (fun c74 => ?_)
      · try simp only [cs8] at c74
        refine W.region ?_
        refine WL.c rfl (o_fa 1 TI41 rfl TI3 rfl rfl ?_)
        refine WL.c rfl (o_ld TI3 rfl rfl (cell_of hC2 rfl) ?_)
        refine WL.c rfl (o_eq rfl rfl ?_)
        refine WL.c rfl (o_mvh (show _ = Value.bool _ from rfl) ?_)
        refine WL.sp 3 rfl (fun g80 => ?_) (fun g80 => ?_)
        · skip
          refine WL.g rfl (g80) rfl (o_fa 5 TI41 rfl TI3 rfl rfl ?_)
          refine WL.g rfl (g80) rfl (o_ld TI3 rfl rfl (cell_of hC2 rfl) ?_)
          refine WL.g rfl (g80) rfl (o_ge rfl rfl ?_)
          refine WL.c rfl (o_pickA rfl rfl ?_)
          refine WL.c rfl (o_ash (show _ = Value.bool _ from rfl) ?_)
          refine WL.nil ?_
          exact ⟨rfl, rfl, congrArg Value.bool (by rw [Bool.eq_iff_iff]; simp_all [okB] <;> omega), rfl⟩
        skip
        refine WL.s rfl (g80) rfl ?_
        refine WL.s rfl (g80) rfl ?_
        refine WL.s rfl (g80) rfl ?_
        refine WL.c rfl (o_pickF rfl (g80) ?_)
        refine WL.c rfl (o_ash (show _ = Value.bool _ from rfl) ?_)
        refine WL.nil ?_
        exact ⟨rfl, rfl, congrArg Value.bool (by rw [Bool.eq_iff_iff]; simp_all [okB] <;> omega), rfl⟩
      try simp only [cs8] at c74
      refine W.seq ?_
      refine W.region ?_
      refine WL.c rfl (o_ash (show _ = Value.bool _ from rfl) ?_)
      refine WL.nil ?_
      refine W.ret ?_
      refine ret1v rfl (show _ = Value.bool _ from rfl) ?_
      have h9 : okB x = false := by
        unfold okB
        repeat' split
        all_goals first | rfl | omega
      exact ⟨congrArg Value.bool (by rw [rightB, h9]; rfl), hx2⟩
    try simp only [cs8] at c74
    refine W.region ?_
    refine WL.c rfl (o_eq rfl rfl ?_)
    refine WL.c rfl (o_ash (show _ = Value.bool _ from rfl) ?_)
    refine WL.nil ?_
    refine W.cond rfl (fun c74 => ?_) (fun c74 => ?_)
    · try simp only [cs8] at c74
      refine W.region ?_
      refine WL.c rfl (o_fa 1 TI41 rfl TI3 rfl rfl ?_)
      refine WL.c rfl (o_ld TI3 rfl rfl (cell_of hC2 rfl) ?_)
      refine WL.c rfl (o_eq rfl rfl ?_)
      refine WL.c rfl (o_mvh (show _ = Value.bool _ from rfl) ?_)
      refine WL.sp 3 rfl (fun g80 => ?_) (fun g80 => ?_)
      · skip
        refine WL.g rfl (g80) rfl (o_fa 5 TI41 rfl TI3 rfl rfl ?_)
        refine WL.g rfl (g80) rfl (o_ld TI3 rfl rfl (cell_of hC2 rfl) ?_)
        refine WL.g rfl (g80) rfl (o_ge rfl rfl ?_)
        refine WL.c rfl (o_pickA rfl rfl ?_)
        refine WL.c rfl (o_ash (show _ = Value.bool _ from rfl) ?_)
        refine WL.nil ?_
        exact ⟨rfl, rfl, congrArg Value.bool (by rw [Bool.eq_iff_iff]; simp_all [okB] <;> omega), rfl⟩
      skip
      refine WL.s rfl (g80) rfl ?_
      refine WL.s rfl (g80) rfl ?_
      refine WL.s rfl (g80) rfl ?_
      refine WL.c rfl (o_pickF rfl (g80) ?_)
      refine WL.c rfl (o_ash (show _ = Value.bool _ from rfl) ?_)
      refine WL.nil ?_
      exact ⟨rfl, rfl, congrArg Value.bool (by rw [Bool.eq_iff_iff]; simp_all [okB] <;> omega), rfl⟩
    try simp only [cs8] at c74
    refine W.seq ?_
    refine W.region ?_
    refine WL.c rfl (o_ash (show _ = Value.bool _ from rfl) ?_)
    refine WL.nil ?_
    refine W.ret ?_
    refine ret1v rfl (show _ = Value.bool _ from rfl) ?_
    have h9 : okB x = false := by
      unfold okB
      repeat' split
      all_goals first | rfl | omega
    exact ⟨congrArg Value.bool (by rw [rightB, h9]; rfl), hx2⟩
  rintro e w ⟨h1, h2, h5, hw⟩
  subst hw
  refine W.seq ?_
  refine W.region ?_
  refine WL.cut (fun e1 w1 => e1 1 = .int .i64 above ∧ e1 2 = .pointer (some ⟨c2, 0, none⟩) ∧ e1 5 = .bool (okB x) ∧ e1 6 = .bool (namB x) ∧ w1 = w) ?_ ?_
  · -- region 18
    refine WL.c rfl (o_fa 0 TI41 rfl TI3 rfl h2 ?_)
    refine WL.c rfl (o_ld TI3 rfl rfl (cell_of hC2 rfl) ?_)
    refine WL.c rfl (o_eq rfl rfl ?_)
    refine WL.c rfl (o_mvh (show _ = Value.bool _ from rfl) ?_)
    refine WL.sp 3 rfl (fun g88 => ?_) (fun g88 => ?_)
    · skip
      refine WL.g rfl (g88) rfl (o_fa 2 TI41 rfl TI9 rfl h2 ?_)
      refine WL.g rfl (g88) rfl (o_ld TI9 rfl rfl (cell_of hC2 rfl) ?_)
      refine WL.g rfl (g88) rfl (o_call Try.call34 (lc rfl ln) ((name_spec x.name _ hn).mono ?_))
      rintro v91 w91 ⟨rfl, rfl⟩
      refine WL.c rfl (o_pickA rfl rfl ?_)
      refine WL.c rfl (o_mvh (show _ = Value.bool _ from rfl) ?_)
      refine WL.sp 8 rfl (fun g93 => ?_) (fun g93 => ?_)
      · skip
        refine WL.s rfl (g93) rfl ?_
        refine WL.s rfl (g93) rfl ?_
        refine WL.s rfl (g93) rfl ?_
        refine WL.s rfl (g93) rfl ?_
        refine WL.z rfl rfl ?_
        refine WL.z rfl rfl ?_
        refine WL.z rfl rfl ?_
        refine WL.s rfl (g93) rfl ?_
        refine WL.c rfl (o_pickT rfl (g93) ?_)
        refine WL.c rfl (o_ash (show _ = Value.bool _ from rfl) ?_)
        exact WL.nil (⟨h1, h2, h5, congrArg Value.bool (by rw [Bool.eq_iff_iff]; simp_all [namB] <;> omega), rfl⟩)
      skip
      refine WL.g rfl (g93) rfl (o_fa 0 TI41 rfl TI3 rfl h2 ?_)
      refine WL.g rfl (g93) rfl (o_ld TI3 rfl rfl (cell_of hC2 rfl) ?_)
      refine WL.g rfl (g93) rfl (o_ne rfl rfl ?_)
      refine WL.g rfl (g93) rfl (o_mvh (show _ = Value.bool _ from rfl) ?_)
      refine WL.sp 12 rfl (fun g97 => ?_) (fun g97 => ?_)
      · skip
        refine WL.g rfl (g97) rfl (o_fa 2 TI41 rfl TI9 rfl h2 ?_)
        refine WL.g rfl (g97) rfl (o_ld TI9 rfl rfl (cell_of hC2 rfl) ?_)
        refine WL.g rfl (g97) rfl (o_eqT rfl rfl ?_)
        refine WL.g rfl (g93) rfl (o_pickA rfl rfl ?_)
        refine WL.c rfl (o_pickO rfl rfl ?_)
        refine WL.c rfl (o_ash (show _ = Value.bool _ from rfl) ?_)
        exact WL.nil (⟨h1, h2, h5, congrArg Value.bool (by rw [Bool.eq_iff_iff]; simp_all [namB] <;> omega), rfl⟩)
      skip
      refine WL.s rfl (g97) rfl ?_
      refine WL.s rfl (g97) rfl ?_
      refine WL.s rfl (g97) rfl ?_
      refine WL.g rfl (g93) rfl (o_pickF rfl (g97) ?_)
      refine WL.c rfl (o_pickO rfl rfl ?_)
      refine WL.c rfl (o_ash (show _ = Value.bool _ from rfl) ?_)
      exact WL.nil (⟨h1, h2, h5, congrArg Value.bool (by rw [Bool.eq_iff_iff]; simp_all [namB] <;> omega), rfl⟩)
    skip
    refine WL.s rfl (g88) rfl ?_
    refine WL.s rfl (g88) rfl ?_
    refine WL.s rfl (g88) rfl ?_
    refine WL.c rfl (o_pickF rfl (g88) ?_)
    refine WL.c rfl (o_mvh (show _ = Value.bool _ from rfl) ?_)
    refine WL.g rfl (rfl) rfl (o_fa 0 TI41 rfl TI3 rfl h2 ?_)
    refine WL.g rfl (rfl) rfl (o_ld TI3 rfl rfl (cell_of hC2 rfl) ?_)
    refine WL.g rfl (rfl) rfl (o_ne rfl rfl ?_)
    refine WL.g rfl (rfl) rfl (o_mvh (show _ = Value.bool _ from rfl) ?_)
    refine WL.sp 12 rfl (fun g97 => ?_) (fun g97 => ?_)
    · skip
      refine WL.g rfl (g97) rfl (o_fa 2 TI41 rfl TI9 rfl h2 ?_)
      refine WL.g rfl (g97) rfl (o_ld TI9 rfl rfl (cell_of hC2 rfl) ?_)
      refine WL.g rfl (g97) rfl (o_eqT rfl rfl ?_)
      refine WL.g rfl (rfl) rfl (o_pickA rfl rfl ?_)
      refine WL.c rfl (o_pickO rfl rfl ?_)
      refine WL.c rfl (o_ash (show _ = Value.bool _ from rfl) ?_)
      exact WL.nil (⟨h1, h2, h5, congrArg Value.bool (by rw [Bool.eq_iff_iff]; simp_all [namB] <;> omega), rfl⟩)
    skip
    refine WL.s rfl (g97) rfl ?_
    refine WL.s rfl (g97) rfl ?_
    refine WL.s rfl (g97) rfl ?_
    refine WL.g rfl (rfl) rfl (o_pickF rfl (g97) ?_)
    refine WL.c rfl (o_pickO rfl rfl ?_)
    refine WL.c rfl (o_ash (show _ = Value.bool _ from rfl) ?_)
    exact WL.nil (⟨h1, h2, h5, congrArg Value.bool (by rw [Bool.eq_iff_iff]; simp_all [namB] <;> omega), rfl⟩)
  rintro e w ⟨h1, h2, h5, h6, hw⟩
  subst hw
  refine W.seq ?_
  refine W.region ?_
  refine WL.cut (fun e1 w1 => e1 1 = .int .i64 above ∧ e1 2 = .pointer (some ⟨c2, 0, none⟩) ∧ e1 5 = .bool (okB x) ∧ e1 6 = .bool (namB x) ∧ e1 7 = .bool (labB x above) ∧ w1 = w) ?_ ?_
  · -- region 19
    refine WL.c rfl (o_mvh h1 ?_)
    refine WL.c rfl (o_eq rfl rfl ?_)
    refine WL.c rfl (o_mvh (show _ = Value.bool _ from rfl) ?_)
    refine WL.sp 2 rfl (fun g105 => ?_) (fun g105 => ?_)
    · skip
      refine WL.g rfl (g105) rfl (o_fa 3 TI41 rfl TI9 rfl h2 ?_)
      refine WL.g rfl (g105) rfl (o_ld TI9 rfl rfl (cell_of hC2 rfl) ?_)
      refine WL.g rfl (g105) rfl (o_call Try.call34 (lc rfl ln) ((name_spec x.label _ hl).mono ?_))
      rintro v108 w108 ⟨rfl, rfl⟩
      refine WL.c rfl (o_pickA rfl rfl ?_)
      refine WL.c rfl (o_mvh (show _ = Value.bool _ from rfl) ?_)
      refine WL.sp 7 rfl (fun g110 => ?_) (fun g110 => ?_)
      · skip
        refine WL.s rfl (g110) rfl ?_
        refine WL.s rfl (g110) rfl ?_
        refine WL.s rfl (g110) rfl ?_
        refine WL.z rfl rfl ?_
        refine WL.z rfl rfl ?_
        refine WL.z rfl rfl ?_
        refine WL.s rfl (g110) rfl ?_
        refine WL.c rfl (o_pickT rfl (g110) ?_)
        refine WL.c rfl (o_ash (show _ = Value.bool _ from rfl) ?_)
        exact WL.nil (⟨h1, h2, h5, h6, congrArg Value.bool (by rw [Bool.eq_iff_iff]; simp_all [labB] <;> omega), rfl⟩)
      skip
      refine WL.g rfl (g110) rfl (o_mvh h1 ?_)
      refine WL.g rfl (g110) rfl (o_ne rfl rfl ?_)
      refine WL.g rfl (g110) rfl (o_mvh (show _ = Value.bool _ from rfl) ?_)
      refine WL.sp 10 rfl (fun g113 => ?_) (fun g113 => ?_)
      · skip
        refine WL.g rfl (g113) rfl (o_fa 3 TI41 rfl TI9 rfl h2 ?_)
        refine WL.g rfl (g113) rfl (o_ld TI9 rfl rfl (cell_of hC2 rfl) ?_)
        refine WL.g rfl (g113) rfl (o_eqT rfl rfl ?_)
        refine WL.g rfl (g110) rfl (o_pickA rfl rfl ?_)
        refine WL.c rfl (o_pickO rfl rfl ?_)
        refine WL.c rfl (o_ash (show _ = Value.bool _ from rfl) ?_)
        exact WL.nil (⟨h1, h2, h5, h6, congrArg Value.bool (by rw [Bool.eq_iff_iff]; simp_all [labB] <;> omega), rfl⟩)
      skip
      refine WL.s rfl (g113) rfl ?_
      refine WL.s rfl (g113) rfl ?_
      refine WL.s rfl (g113) rfl ?_
      refine WL.g rfl (g110) rfl (o_pickF rfl (g113) ?_)
      refine WL.c rfl (o_pickO rfl rfl ?_)
      refine WL.c rfl (o_ash (show _ = Value.bool _ from rfl) ?_)
      exact WL.nil (⟨h1, h2, h5, h6, congrArg Value.bool (by rw [Bool.eq_iff_iff]; simp_all [labB] <;> omega), rfl⟩)
    skip
    refine WL.s rfl (g105) rfl ?_
    refine WL.s rfl (g105) rfl ?_
    refine WL.s rfl (g105) rfl ?_
    refine WL.c rfl (o_pickF rfl (g105) ?_)
    refine WL.c rfl (o_mvh (show _ = Value.bool _ from rfl) ?_)
    refine WL.g rfl (rfl) rfl (o_mvh h1 ?_)
    refine WL.g rfl (rfl) rfl (o_ne rfl rfl ?_)
    refine WL.g rfl (rfl) rfl (o_mvh (show _ = Value.bool _ from rfl) ?_)
    refine WL.sp 10 rfl (fun g113 => ?_) (fun g113 => ?_)
    · skip
      refine WL.g rfl (g113) rfl (o_fa 3 TI41 rfl TI9 rfl h2 ?_)
      refine WL.g rfl (g113) rfl (o_ld TI9 rfl rfl (cell_of hC2 rfl) ?_)
      refine WL.g rfl (g113) rfl (o_eqT rfl rfl ?_)
      refine WL.g rfl (rfl) rfl (o_pickA rfl rfl ?_)
      refine WL.c rfl (o_pickO rfl rfl ?_)
      refine WL.c rfl (o_ash (show _ = Value.bool _ from rfl) ?_)
      exact WL.nil (⟨h1, h2, h5, h6, congrArg Value.bool (by rw [Bool.eq_iff_iff]; simp_all [labB] <;> omega), rfl⟩)
    skip
    refine WL.s rfl (g113) rfl ?_
    refine WL.s rfl (g113) rfl ?_
    refine WL.s rfl (g113) rfl ?_
    refine WL.g rfl (rfl) rfl (o_pickF rfl (g113) ?_)
    refine WL.c rfl (o_pickO rfl rfl ?_)
    refine WL.c rfl (o_ash (show _ = Value.bool _ from rfl) ?_)
    exact WL.nil (⟨h1, h2, h5, h6, congrArg Value.bool (by rw [Bool.eq_iff_iff]; simp_all [labB] <;> omega), rfl⟩)
  rintro e w ⟨h1, h2, h5, h6, h7, hw⟩
  subst hw
  refine W.seq ?_
  refine W.region ?_
  refine WL.cut (fun e1 w1 => e1 5 = .bool (okB x) ∧ e1 6 = .bool (namB x) ∧ e1 7 = .bool (labB x above) ∧ e1 8 = .bool (tagB x above) ∧ w1 = w) ?_ ?_
  · -- region 20
    refine WL.c rfl (o_fa 4 TI41 rfl TI3 rfl h2 ?_)
    refine WL.c rfl (o_ld TI3 rfl rfl (cell_of hC2 rfl) ?_)
    refine WL.c rfl (o_eq rfl rfl ?_)
    refine WL.c rfl (o_mvh (show _ = Value.bool _ from rfl) ?_)
    refine WL.sp 3 rfl (fun g122 => ?_) (fun g122 => ?_)
    · skip
      refine WL.s rfl (g122) rfl ?_
      refine WL.s rfl (g122) rfl ?_
      refine WL.s rfl (g122) rfl ?_
      refine WL.z rfl rfl ?_
      refine WL.z rfl rfl ?_
      refine WL.z rfl rfl ?_
      refine WL.s rfl (g122) rfl ?_
      refine WL.s rfl (g122) rfl ?_
      refine WL.z rfl rfl ?_
      refine WL.z rfl rfl ?_
      refine WL.z rfl rfl ?_
      refine WL.s rfl (g122) rfl ?_
      refine WL.c rfl (o_pickT rfl (g122) ?_)
      refine WL.c rfl (o_ash (show _ = Value.bool _ from rfl) ?_)
      exact WL.nil (⟨h5, h6, h7, congrArg Value.bool (by rw [Bool.eq_iff_iff]; simp_all [tagB] <;> omega), rfl⟩)
    skip
    refine WL.g rfl (g122) rfl (o_mvh h1 ?_)
    refine WL.g rfl (g122) rfl (o_eq rfl rfl ?_)
    refine WL.g rfl (g122) rfl (o_mvh (show _ = Value.bool _ from rfl) ?_)
    refine WL.sp 6 rfl (fun g125 => ?_) (fun g125 => ?_)
    · skip
      refine WL.g rfl (g125) rfl (o_fa 4 TI41 rfl TI3 rfl h2 ?_)
      refine WL.g rfl (g125) rfl (o_ld TI3 rfl rfl (cell_of hC2 rfl) ?_)
      refine WL.g rfl (g125) rfl (o_gt rfl rfl ?_)
      refine WL.g rfl (g122) rfl (o_pickA rfl rfl ?_)
      refine WL.g rfl (g122) rfl (o_mvh (show _ = Value.bool _ from rfl) ?_)
      refine WL.sp 11 rfl (fun g130 => ?_) (fun g130 => ?_)
      · skip
        refine WL.g rfl (g130) rfl (o_fa 4 TI41 rfl TI3 rfl h2 ?_)
        refine WL.g rfl (g130) rfl (o_ld TI3 rfl rfl (cell_of hC2 rfl) ?_)
        refine WL.g rfl (g130) rfl (o_le rfl rfl ?_)
        refine WL.g rfl (g122) rfl (o_pickA rfl rfl ?_)
        refine WL.c rfl (o_pickO rfl rfl ?_)
        refine WL.c rfl (o_ash (show _ = Value.bool _ from rfl) ?_)
        exact WL.nil (⟨h5, h6, h7, congrArg Value.bool (by rw [Bool.eq_iff_iff]; simp_all [tagB] <;> omega), rfl⟩)
      skip
      refine WL.s rfl (g130) rfl ?_
      refine WL.s rfl (g130) rfl ?_
      refine WL.s rfl (g130) rfl ?_
      refine WL.g rfl (g122) rfl (o_pickF rfl (g130) ?_)
      refine WL.c rfl (o_pickO rfl rfl ?_)
      refine WL.c rfl (o_ash (show _ = Value.bool _ from rfl) ?_)
      exact WL.nil (⟨h5, h6, h7, congrArg Value.bool (by rw [Bool.eq_iff_iff]; simp_all [tagB] <;> omega), rfl⟩)
    skip
    refine WL.s rfl (g125) rfl ?_
    refine WL.s rfl (g125) rfl ?_
    refine WL.s rfl (g125) rfl ?_
    refine WL.g rfl (g122) rfl (o_pickF rfl (g125) ?_)
    refine WL.g rfl (g122) rfl (o_mvh (show _ = Value.bool _ from rfl) ?_)
    refine WL.s rfl (rfl) rfl ?_
    refine WL.s rfl (rfl) rfl ?_
    refine WL.s rfl (rfl) rfl ?_
    refine WL.g rfl (g122) rfl (o_pickF rfl (rfl) ?_)
    refine WL.c rfl (o_pickO rfl rfl ?_)
    refine WL.c rfl (o_ash (show _ = Value.bool _ from rfl) ?_)
    exact WL.nil (⟨h5, h6, h7, congrArg Value.bool (by rw [Bool.eq_iff_iff]; simp_all [tagB] <;> omega), rfl⟩)
  rintro e w ⟨h5, h6, h7, h8, hw⟩
  subst hw
  refine W.seq ?_
  refine W.region ?_
  refine WL.c rfl (o_mvh h5 ?_)
  refine WL.c rfl (o_mvh (show _ = Value.bool _ from rfl) ?_)
  refine WL.sp 1 rfl (fun g137 => ?_) (fun g137 => ?_)
  · skip
    refine WL.g rfl (g137) rfl (o_mvh h6 ?_)
    refine WL.c rfl (o_pickA rfl rfl ?_)
    refine WL.c rfl (o_mvh (show _ = Value.bool _ from rfl) ?_)
    refine WL.sp 4 rfl (fun g140 => ?_) (fun g140 => ?_)
    · skip
      refine WL.g rfl (g140) rfl (o_mvh h7 ?_)
      refine WL.c rfl (o_pickA rfl rfl ?_)
      refine WL.c rfl (o_mvh (show _ = Value.bool _ from rfl) ?_)
      refine WL.sp 7 rfl (fun g143 => ?_) (fun g143 => ?_)
      · skip
        refine WL.g rfl (g143) rfl (o_mvh h8 ?_)
        refine WL.c rfl (o_pickA rfl rfl ?_)
        refine WL.c rfl (o_ash (show _ = Value.bool _ from rfl) ?_)
        refine WL.nil ?_
        refine W.ret ?_
        refine ret1v rfl (show _ = Value.bool _ from rfl) ?_
        exact ⟨congrArg Value.bool (by first | rfl | (rw [rightB, Bool.eq_iff_iff]; simp_all; done) | (rw [rightB]; simp_all; done)), hx2⟩
      skip
      refine WL.s rfl (g143) rfl ?_
      refine WL.c rfl (o_pickF rfl (g143) ?_)
      refine WL.c rfl (o_ash (show _ = Value.bool _ from rfl) ?_)
      refine WL.nil ?_
      refine W.ret ?_
      refine ret1v rfl (show _ = Value.bool _ from rfl) ?_
      exact ⟨congrArg Value.bool (by first | rfl | (rw [rightB, Bool.eq_iff_iff]; simp_all; done) | (rw [rightB]; simp_all; done)), hx2⟩
    skip
    refine WL.s rfl (g140) rfl ?_
    refine WL.c rfl (o_pickF rfl (g140) ?_)
    refine WL.c rfl (o_mvh (show _ = Value.bool _ from rfl) ?_)
    refine WL.s rfl (rfl) rfl ?_
    refine WL.c rfl (o_pickF rfl (rfl) ?_)
    refine WL.c rfl (o_ash (show _ = Value.bool _ from rfl) ?_)
    refine WL.nil ?_
    refine W.ret ?_
    refine ret1v rfl (show _ = Value.bool _ from rfl) ?_
    exact ⟨congrArg Value.bool (by first | rfl | (rw [rightB, Bool.eq_iff_iff]; simp_all; done) | (rw [rightB]; simp_all; done)), hx2⟩
  skip
  refine WL.s rfl (g137) rfl ?_
  refine WL.c rfl (o_pickF rfl (g137) ?_)
  refine WL.c rfl (o_mvh (show _ = Value.bool _ from rfl) ?_)
  refine WL.s rfl (rfl) rfl ?_
  refine WL.c rfl (o_pickF rfl (rfl) ?_)
  refine WL.c rfl (o_mvh (show _ = Value.bool _ from rfl) ?_)
  refine WL.s rfl (rfl) rfl ?_
  refine WL.c rfl (o_pickF rfl (rfl) ?_)
  refine WL.c rfl (o_ash (show _ = Value.bool _ from rfl) ?_)
  refine WL.nil ?_
  refine W.ret ?_
  refine ret1v rfl (show _ = Value.bool _ from rfl) ?_
  exact ⟨congrArg Value.bool (by first | rfl | (rw [rightB, Bool.eq_iff_iff]; simp_all; done) | (rw [rightB]; simp_all; done)), hx2⟩

structure Opn where
  kind : Int
  left : Int
  deep : Int
def opV (o : Opn) : List Value := [.int .i64 o.kind, .int .i64 o.left, .int .i64 o.deep]
def opsR (S : List Opn) : List Value := S.reverse.flatMap opV
def popZ (S : List Opn) : List Opn := S.dropWhile (fun o => decide (o.left = 0))
def manyB (x : Ex) : Bool := (decide (x.kind = 8) && decide (64 < x.kids)) || (decide (x.kind = 7) && decide (64 < x.kids))
def leftB (S : List Opn) : Bool := S.any (fun o => decide (0 < o.left))
/-- the nodes of an expression; the open ones, the last one first -/
def chkE : List Opn → Nat → List Ex → Nat × Nat
  | S, i, [] => if leftB S = true then (i, 62) else (0, 0)
  | S, i, x :: xs => match popZ S with
    | [] => (i, 62)
    | o :: S' => if 16 < o.deep then (i, 61) else if manyB x = true then (i, 5) else if rightB x o.kind = false then (i, 62)
      else chkE (⟨x.kind, x.kids, o.deep + 1⟩ :: { o with left := o.left - 1 } :: S') (i + 1) xs
theorem chkE_nil {S : List Opn} {i : Nat} : chkE S i [] = if leftB S = true then (i, 62) else (0, 0) := rfl
theorem chkE_cons {S : List Opn} {i : Nat} {x : Ex} {xs : List Ex} : chkE S i (x :: xs) = match popZ S with
    | [] => (i, 62)
    | o :: S' => if 16 < o.deep then (i, 61) else if manyB x = true then (i, 5) else if rightB x o.kind = false then (i, 62)
      else chkE (⟨x.kind, x.kids, o.deep + 1⟩ :: { o with left := o.left - 1 } :: S') (i + 1) xs := rfl
theorem chkE_z {S : List Opn} {i : Nat} {x : Ex} {xs : List Ex} (h : popZ S = []) : chkE S i (x :: xs) = (i, 62) := by rw [chkE_cons, h]
theorem chkE_o {S S' : List Opn} {o : Opn} {i : Nat} {x : Ex} {xs : List Ex} (h : popZ S = o :: S') : chkE S i (x :: xs) = if 16 < o.deep then (i, 61) else if manyB x = true then (i, 5) else if rightB x o.kind = false then (i, 62)
      else chkE (⟨x.kind, x.kids, o.deep + 1⟩ :: { o with left := o.left - 1 } :: S') (i + 1) xs := by rw [chkE_cons, h]
def OkS : List Opn → Prop
  | [] => True
  | o :: S => o.deep = (S.length : Int) ∧ 0 ≤ o.left ∧ o.left ≤ 64 ∧ OkS S
theorem OkS_cons {o : Opn} {S : List Opn} : OkS (o :: S) ↔ o.deep = (S.length : Int) ∧ 0 ≤ o.left ∧ o.left ≤ 64 ∧ OkS S := Iff.rfl
theorem opsR_cons (o : Opn) (S : List Opn) : opsR (o :: S) = opsR S ++ opV o := by simp [opsR]
theorem opsR_len (S : List Opn) : (opsR S).length = S.length * 3 := by
  induction S with
  | nil => rfl
  | cons o S ih => rw [opsR_cons, List.length_append, ih, List.length_cons]; show _ + 3 = _; omega
theorem opsR_get {o : Opn} {S : List Opn} {k : Nat} (v : Value) (h : (opV o)[k]? = some v) : (opsR (o :: S))[S.length * 3 + k]? = some v := by
  rw [opsR_cons, List.getElem?_append_right (by rw [opsR_len]; omega), opsR_len, Nat.add_sub_cancel_left, h]
theorem opsR_take {o : Opn} {S : List Opn} : (opsR (o :: S)).take (S.length * 3) = opsR S := by
  rw [opsR_cons]; exact List.take_left' (opsR_len S)
theorem opsR_set {o : Opn} {S : List Opn} {z : Int} : (opsR (o :: S)).set (S.length * 3 + 1) (.int .i64 z) = opsR ({ o with left := z } :: S) := by
  rw [opsR_cons, opsR_cons, List.set_append_right _ _ (by rw [opsR_len]; omega), opsR_len, Nat.add_sub_cancel_left]
  rfl
theorem leftB_at (S : List Opn) : ∀ k (hk : k < S.length), leftB (S.reverse.drop k).reverse = (decide (0 < (S.reverse[k]'(by simpa using hk)).left) || leftB (S.reverse.drop (k + 1)).reverse) := by
  intro k hk
  rw [← List.getElem_cons_drop (by simpa using hk), List.reverse_cons]
  simp [leftB, Bool.or_comm]
theorem ops_at {S : List Opn} {k : Nat} (hk : k < S.length) : ((opsR S).drop (k * 3)).take 3 = opV (S.reverse[k]'(by simpa using hk)) := by
  have : ∀ (l : List Opn) (k : Nat) (hk : k < l.length), ((l.flatMap opV).drop (k * 3)).take 3 = opV l[k] := by
    intro l
    induction l with
    | nil => intro k hk; simp at hk
    | cons t ts ih =>
      intro k hk
      have h5 : (opV t).length = 3 := rfl
      cases k with
      | zero => rw [Nat.zero_mul, List.drop_zero, List.flatMap_cons]; exact List.take_left' h5
      | succ k =>
        have h1 : (k + 1) * 3 - (opV t).length = k * 3 := by rw [h5]; omega
        have := ih k (by simpa using hk)
        rw [List.flatMap_cons, List.drop_append, List.drop_eq_nil_of_le (by rw [h5]; omega), List.nil_append, h1]
        exact this
  exact this _ _ _
theorem exs_at (ts : List Ex) : ∀ (k : Nat) (hk : k < ts.length), ((exs ts).drop (k * 7)).take 7 = exV ts[k] := by
  induction ts with
  | nil => intro k hk; simp at hk
  | cons t ts ih =>
    intro k hk
    have h5 : (exV t).length = 7 := rfl
    cases k with
    | zero => rw [Nat.zero_mul, List.drop_zero, exs, List.flatMap_cons]; exact List.take_left' h5
    | succ k =>
      have h1 : (k + 1) * 7 - (exV t).length = k * 7 := by rw [h5]; omega
      have := ih k (by simpa using hk)
      rw [exs, List.flatMap_cons, List.drop_append, List.drop_eq_nil_of_le (by rw [h5]; omega), List.nil_append, h1]
      exact this
theorem Sl.exq {w : World} {v : Value} {ts : List Ex} (h : Sl w 7 v ts.length (exs ts)) {k : Nat} (hk : k < ts.length) : ∃ b o c, v = .slice (some ⟨b, o, none⟩) ts.length c ∧ Cells w b (o + k * 7) (exV ts[k]) := by
  rcases h.val with ⟨hz, h0⟩ | ⟨b, o, c, rfl, hnc, hc⟩
  · omega
  exact ⟨b, o, c, rfl, by rw [← exs_at ts k hk]; exact hc.sub _ _⟩
def slen : Value → Nat
  | .slice _ n _ => n
  | _ => 0
theorem popZ_z {o : Opn} {S : List Opn} (h : o.left = 0) : popZ (o :: S) = popZ S := by simp [popZ, h]
theorem popZ_n {o : Opn} {S : List Opn} (h : ¬ o.left = 0) : popZ (o :: S) = o :: S := by simp [popZ, h]
theorem rightB_kids {x : Ex} {k : Int} (h : rightB x k = true) (hm : manyB x = false) : 0 ≤ x.kids ∧ x.kids ≤ 64 := by
  simp only [rightB, Bool.and_eq_true] at h
  have h1 := h.1.1.1
  unfold okB at h1
  simp only [manyB, Bool.or_eq_false_iff, Bool.and_eq_false_iff, decide_eq_false_iff_not] at hm
  repeat' split at h1
  all_goals first | (simp only [Bool.and_eq_true, decide_eq_true_eq] at h1; omega) | cases h1

theorem own_form {w : World} {base : Nat} {el : TypeId} {s n : Nat} {v : Value} {xs : List Value} (h : w.ownsRow base el s v n xs) : ∃ a c, v = .slice a n c ∧ n ≤ c := by
  rcases h.2 with ⟨rfl, rfl⟩ | ⟨g, cap, cur, rfl, hb, hc, hnc, r⟩
  · exact ⟨none, 0, rfl, Nat.le_refl _⟩
  exact ⟨_, cap, rfl, hnc⟩
theorem own_take {w : World} {base : Nat} {el : TypeId} {s n m g cap : Nat} {xs : List Value} (h : w.ownsRow base el s (.slice (some ⟨g, 0, none⟩) n cap) n xs) (hm : m ≤ n) : w.ownsRow base el s (.slice (some ⟨g, 0, none⟩) m cap) m (xs.take (m * s)) := by
  obtain ⟨cap', cur, hv, hb, hc, hnc, hcm, hcs, ht⟩ := own_blk h rfl
  simp only [Value.slice.injEq] at hv
  obtain ⟨-, -, rfl⟩ := hv
  have hms : m * s ≤ n * s := Nat.mul_le_mul_right _ hm
  refine ⟨by rw [List.length_take, h.1]; omega, .inr ⟨g, cap, cur, rfl, hb, hc, by omega, hcm, hcs, ?_⟩⟩
  rw [← ht, List.take_take, Nat.min_eq_left hms]
theorem sliced0 (g h c s : Nat) : sliced (some ⟨g, 0, none⟩) 0 h c s = .slice (some ⟨g, 0, none⟩) h c := by
  unfold sliced
  split <;> simp [Addr.add]


set_option maxHeartbeats 4000000 in
theorem checked_spec (l : List Ex) (v : Value) (w0 : World) (hS : Sl w0 7 v l.length (exs l)) (hl : l.length ≤ 4611686018427387904) (hln : ∀ x ∈ l, x.name.length ≤ 9223372036854775807 ∧ x.label.length ≤ 9223372036854775807) : Ca Try.prog 54 #[v] w0 (fun r w' => r = .tuple #[.int .i64 ((chkE [⟨0, 1, 0⟩] 0 l).1 : Int), .int .i64 ((chkE [⟨0, 1, 0⟩] 0 l).2 : Int)] ∧ Ext w0 w') := by
  have hx : Ext w0 w0 := Only.refl _ _
  have hS0 := hS
  refine Ca.of Try.func54 Try.ntmps54 rfl rfl ?_
  refine W.seq ?_
  refine W.region ?_
  refine WL.c rfl (o_ash (show _ = Value.int _ _ from rfl) ?_)
  refine WL.c rfl (o_ash (show _ = Value.int _ _ from rfl) ?_)
  refine WL.nil ?_
  refine W.seq ?_
  refine W.region ?_
  refine WL.c rfl (o_bldC (cs := [(.int .i64 0), (.int .i64 1), (.int .i64 0)]) TI129 (Sizes.cons TI3 (Sizes.cons TI3 (Sizes.cons TI3 Sizes.nil))) rfl (lcp (show _ = Value.int _ _ from rfl) lnp) rfl rfl ?_)
  refine WL.c rfl (o_bs1 TI130 TI129 (show _ = Value.agg #[.int .i64 0, .int .i64 1, .int .i64 0] from rfl) (by decide) (by decide) rfl ?_)
  have hown : (w0.alloc (.cells (Value.agg #[.int .i64 0, .int .i64 1, .int .i64 0]).cells 129)).ownsRow w0.heap.size 129 3 (.slice (some ⟨w0.heap.size, 0, none⟩) 1 1) [(⟨0, 1, 0⟩ : Opn)].length (opsR [⟨0, 1, 0⟩]) := own_new1 rfl
  replace hx : Ext w0 (w0.alloc (.cells (Value.agg #[.int .i64 0, .int .i64 1, .int .i64 0]).cells 129)) := Only.alloc w0 _
  replace hS := hS.ext hx
  generalize w0.alloc (.cells (Value.agg #[.int .i64 0, .int .i64 1, .int .i64 0]).cells 129) = w1 at *
  refine WL.c rfl (o_ash (by first | exact (show _ = Value.slice _ _ _ from rfl) | exact rfl) ?_)
  refine WL.nil ?_
  refine W.seq ?_
  refine W.seq ?_
  refine W.region ?_
  refine WL.c rfl (o_mvh (by first | exact (show _ = Value.slice _ _ _ from rfl) | exact rfl) ?_)
  refine WL.c rfl (o_lenR TI37 rfl hS ?_)
  refine WL.c rfl (o_mvh (show _ = Value.int _ _ from rfl) ?_)
  refine WL.nil ?_
  refine W.block ?_
  refine W.loop (fun e w => ∃ (i : Nat) (S : List Opn) (sv : Value), i ≤ l.length ∧ e 0 = v ∧ e 4 = sv ∧ e 12 = v ∧ e 13 = .int .i64 (l.length : Int) ∧ e 14 = .int .i64 (i : Int) ∧ w.ownsRow w0.heap.size 129 3 sv S.length (opsR S) ∧ OkS S ∧ S.length ≤ 18 ∧ chkE [⟨0, 1, 0⟩] 0 l = chkE S i (l.drop i) ∧ Ext w0 w) (fun e w => l.length - (intOf (e 14)).toNat) ?_ ?_
  · refine ⟨0, [⟨0, 1, 0⟩], _, Nat.zero_le _, rfl, rfl, rfl, rfl, rfl, hown, ⟨rfl, by decide, by decide, trivial⟩, by decide, rfl, hx⟩
  rintro e w ⟨i, S0, sv0, hi, h0, h4, h12, h13, h14, hown, hok, hSl, hres, hx⟩
  have hm14 := h14
  have hSw := hS0.ext hx
  refine W.seq ?_
  refine W.region ?_
  refine WL.c rfl (o_lt h14 h13 ?_)
  refine WL.nil ?_
  refine W.seq ?_
  refine W.cond rfl (fun c15 => ?_) (fun c15 => ?_)
  · try simp only [cs8] at c15
    have hil : i < l.length := by omega
    obtain ⟨tb, to_, tc, rfl, htc⟩ := Sl.exq hSw hil
    have hlc : l.drop i = l[i] :: l.drop (i + 1) := (List.getElem_cons_drop hil).symm
    refine W.skip ?_
    refine W.seq ?_
    refine W.block ?_
    refine W.seq ?_
    refine W.region ?_
    refine WL.c rfl (o_mvh h14 ?_)
    refine WL.c rfl (o_ixB TI37 TI41 h12 h14 (by omega) ?_)
    refine WL.c rfl (o_ldA TI41 rfl rfl htc rfl ?_)
    have hx0 := hx
    have hown0 := hown
    refine WL.c rfl (o_alB TI41 ?_)
    intro w6 hC6 hx6 hs6
    refine WL.c rfl (o_ash (show _ = Value.int _ _ from rfl) ?_)
    refine WL.u (o_stA TI41 rfl (show _ = Value.agg (exV l[i]).toArray from rfl) rfl rfl hC6 rfl ?_)
    intro w7 hC7 ho7 hs7
    have hxb := Ext.own hx6 (Nat.le_refl _) ho7
    clear hC6 hx6 hs6 ho7 hs7 hSw htc
    replace hown := own_ext hown hxb
    replace hx := hx.tr hxb
    obtain ⟨c6, hc6⟩ : ∃ c, c = w.heap.size := ⟨_, rfl⟩
    have hc6l : w0.heap.size ≤ c6 ∧ ¬ sv0.ownBlock = some c6 := by
      subst hc6
      exact ⟨by have := hx0.size; omega, fun hk => by have := (hown0.lt _ hk).2; omega⟩
    rw [← hc6] at hC7 ⊢
    refine WL.nil ?_
    refine W.seq ?_
    refine W.block ?_
    refine W.loop (fun e w => ∃ (S : List Opn) (sv : Value), e 0 = Value.slice (some ⟨tb, to_, none⟩) l.length tc ∧ e 4 = sv ∧ e 5 = .int .i64 (i : Int) ∧ e 6 = .pointer (some ⟨c6, 0, none⟩) ∧ e 12 = Value.slice (some ⟨tb, to_, none⟩) l.length tc ∧ e 13 = .int .i64 (l.length : Int) ∧ e 14 = .int .i64 (i : Int) ∧ w.ownsRow w0.heap.size 129 3 sv S.length (opsR S) ∧ OkS S ∧ S.length ≤ 18 ∧ popZ S0 = popZ S ∧ (sv.ownBlock = sv0.ownBlock) ∧ w.heap[c6]? = some (.cells (exV l[i]).toArray 41 (0, 0)) ∧ Ext w0 w) (fun e w => slen (e 4)) ?_ ?_
    · exact ⟨S0, sv0, h0, h4, rfl, rfl, h12, h13, h14, hown, hok, hSl, rfl, rfl, hC7, hx⟩
    rintro e w ⟨S, sv, h0, h4, h5, h6, h12, h13, h14, hown, hok, hSl, hpz, hsb, hC7, hx⟩
    have hm4 := h4
    refine W.seq ?_
    refine W.seq ?_
    rcases S with _ | ⟨o, S⟩
    · skip
      have h062 := hres.trans (by rw [hlc, chkE_z hpz])
      refine W.region ?_
      refine WL.c rfl (o_mvh h4 ?_)
      refine WL.c rfl (o_lenR TI130 rfl (Sl.own hown) ?_)
      refine WL.c rfl (o_gt rfl rfl ?_)
      refine WL.c rfl (o_mvh (show _ = Value.bool _ from rfl) ?_)
      refine WL.s rfl (decide_eq_false (by simp)) rfl ?_
      refine WL.s rfl (decide_eq_false (by simp)) rfl ?_
      refine WL.s rfl (decide_eq_false (by simp)) rfl ?_
      refine WL.s rfl (decide_eq_false (by simp)) rfl ?_
      refine WL.s rfl (decide_eq_false (by simp)) rfl ?_
      refine WL.s rfl (decide_eq_false (by simp)) rfl ?_
      refine WL.s rfl (decide_eq_false (by simp)) rfl ?_
      refine WL.s rfl (decide_eq_false (by simp)) rfl ?_
      refine WL.c rfl (o_pickF rfl (decide_eq_false (by simp)) ?_)
      refine WL.nil ?_
      refine W.condF' rfl (rfl) ?_
      refine W.exit ?_
      refine W.seq ?_
      refine W.seq ?_
      refine W.region ?_
      refine WL.c rfl (o_mvh h4 ?_)
      refine WL.c rfl (o_lenR TI130 rfl (Sl.own hown) ?_)
      refine WL.c rfl (o_eq rfl rfl ?_)
      refine WL.nil ?_
      refine W.condT' rfl (by simp) ?_
      refine W.seq ?_
      refine W.region ?_
      refine WL.c rfl (o_mvh h5 ?_)
      refine WL.c rfl (o_ash (show _ = Value.int _ _ from rfl) ?_)
      refine WL.c rfl (o_ash (show _ = Value.int _ _ from rfl) ?_)
      refine WL.nil ?_
      refine W.ret ?_
      refine ret2v rfl (show _ = Value.int _ _ from rfl) (show _ = Value.int _ _ from rfl) ?_
      rw [h062]
      exact ⟨rfl, hx⟩
    skip
    replace hown : w.ownsRow w0.heap.size 129 3 sv (S.length + 1) (opsR (o :: S)) := hown
    obtain ⟨g, cap, rfl, hgb⟩ := own_some hown (by omega)
    have hcap : S.length + 1 ≤ cap := by obtain ⟨_, _, hv, hh⟩ := own_form hown; cases hv; exact hh
    obtain ⟨hdp, hlo, hhi, hok2⟩ := OkS_cons.1 hok
    have hSl2 : S.length + 1 ≤ 18 := hSl
    have hcg : ¬ g = c6 := fun he => hc6l.2 (by rw [← hsb, he]; rfl)
    refine W.region ?_
    refine WL.c rfl (o_mvh h4 ?_)
    refine WL.c rfl (o_lenR TI130 rfl (Sl.own hown) ?_)
    refine WL.c rfl (o_gt rfl rfl ?_)
    refine WL.c rfl (o_mvh (show _ = Value.bool _ from rfl) ?_)
    refine WL.g rfl (decide_eq_true (by omega)) rfl (o_mvh h4 ?_)
    refine WL.g rfl (decide_eq_true (by omega)) rfl (o_mvh h4 ?_)
    refine WL.g rfl (decide_eq_true (by omega)) rfl (o_lenR TI130 rfl (Sl.own hown) ?_)
    refine WL.g rfl (decide_eq_true (by omega)) rfl (o_subi rfl rfl (by omega) ?_)
    refine WL.g rfl (decide_eq_true (by omega)) rfl (o_ixB (i := S.length) TI130 TI129 rfl (by show Value.int .i64 _ = _; congr 1; omega) (by omega) ?_)
    refine WL.g rfl (decide_eq_true (by omega)) rfl (o_fa 1 TI129 rfl TI3 rfl rfl ?_)
    refine WL.g rfl (decide_eq_true (by omega)) rfl (o_ld TI3 rfl rfl (own_cell hown (j := 0 + S.length * 3 + 1) (by rw [Nat.zero_add]; exact opsR_get _ rfl)) ?_)
    refine WL.g rfl (decide_eq_true (by omega)) rfl (o_eq rfl rfl ?_)
    refine WL.c rfl (o_pickA rfl rfl ?_)
    refine WL.nil ?_
    refine W.cond rfl (fun c31 => ?_) (fun c31 => ?_)
    · try simp only [cs8] at c31
      have hz : o.left = 0 := c31.2
      refine W.skip ?_
      refine W.block ?_
      refine W.region ?_
      refine WL.c rfl (o_mvh h4 ?_)
      refine WL.c rfl (o_mvh h4 ?_)
      refine WL.c rfl (o_lenR TI130 rfl (Sl.own hown) ?_)
      refine WL.c rfl (o_subi rfl rfl (by omega) ?_)
      refine WL.c rfl (o_slv (h := S.length) TI130 TI129 rfl Lo.n (Hi.s (by show Value.int .i64 _ = _; congr 1; omega)) (Nat.zero_le _) (by omega) ?_)
      rw [sliced0]
      have hown2 := own_take hown (m := S.length) (by omega)
      rw [opsR_take] at hown2
      refine WL.c rfl (o_ash (by first | exact (show _ = Value.slice _ _ _ from rfl) | exact rfl) ?_)
      refine WL.nil ?_
      refine ⟨⟨S, _, h0, rfl, h5, h6, h12, h13, h14, hown2, hok.2.2.2, by omega, by rw [hpz, popZ_z hz], hsb, hC7, hx⟩, ?_⟩
      rw [hm4]; show S.length < S.length + 1; omega
    try simp only [cs8] at c31
    have hz : ¬ o.left = 0 := fun hz => by rcases c31 with c | c; omega; exact c hz
    have hpz2 := hpz.trans (popZ_n hz)
    have hres2 := hres.trans (by rw [hlc, chkE_o hpz2])
    refine W.exit ?_
    refine W.seq ?_
    refine W.seq ?_
    refine W.region ?_
    refine WL.c rfl (o_mvh h4 ?_)
    refine WL.c rfl (o_lenR TI130 rfl (Sl.own hown) ?_)
    refine WL.c rfl (o_eq rfl rfl ?_)
    refine WL.nil ?_
    refine W.condF' rfl (decide_eq_false (by omega)) ?_
    refine W.skip ?_
    refine W.seq ?_
    refine W.region ?_
    refine WL.c rfl (o_mvh h4 ?_)
    refine WL.c rfl (o_mvh h4 ?_)
    refine WL.c rfl (o_lenR TI130 rfl (Sl.own hown) ?_)
    refine WL.c rfl (o_subi rfl rfl (by omega) ?_)
    refine WL.c rfl (o_ixB (i := S.length) TI130 TI129 rfl (by show Value.int .i64 _ = _; congr 1; omega) (by omega) ?_)
    refine WL.c rfl (o_ash (by first | exact (show _ = Value.pointer _ from rfl) | exact rfl) ?_)
    refine WL.nil ?_
    refine W.seq ?_
    refine W.block ?_
    refine W.seq ?_
    refine W.region ?_
    refine WL.c rfl (o_mvh (by first | exact (show _ = Value.pointer _ from rfl) | exact rfl) ?_)
    refine WL.c rfl (o_nil rfl ?_)
    refine WL.c rfl (o_fa 2 TI129 rfl TI3 rfl rfl ?_)
    refine WL.c rfl (o_ld TI3 rfl rfl (own_cell hown (j := 0 + S.length * 3 + 2) (by rw [Nat.zero_add]; exact opsR_get _ rfl)) ?_)
    refine WL.c rfl (o_gt rfl rfl ?_)
    refine WL.c rfl (o_ash (show _ = Value.bool _ from rfl) ?_)
    refine WL.nil ?_
    refine W.cond rfl (fun c46 => ?_) (fun c46 => ?_)
    · try simp only [cs8] at c46
      have hdeep : 16 < o.deep := by omega
      rw [if_pos hdeep] at hres2
      refine W.seq ?_
      refine W.region ?_
      refine WL.c rfl (o_mvh h5 ?_)
      refine WL.c rfl (o_ash (show _ = Value.int _ _ from rfl) ?_)
      refine WL.c rfl (o_ash (show _ = Value.int _ _ from rfl) ?_)
      refine WL.nil ?_
      refine W.ret ?_
      refine ret2v rfl (show _ = Value.int _ _ from rfl) (show _ = Value.int _ _ from rfl) ?_
      rw [hres2]
      exact ⟨rfl, hx⟩
    try simp only [cs8] at c46
    have hdeep : ¬ 16 < o.deep := by omega
    rw [if_neg hdeep] at hres2
    refine W.seq ?_
    refine W.seq ?_
    refine W.region ?_
    refine WL.c rfl (o_fa 0 TI41 rfl TI3 rfl h6 ?_)
    refine WL.c rfl (o_ld TI3 rfl rfl (cell_of hC7 rfl) ?_)
    refine WL.c rfl (o_eq rfl rfl ?_)
    refine WL.c rfl (o_mvh (show _ = Value.bool _ from rfl) ?_)
    refine WL.sp 3 rfl (fun g57 => ?_) (fun g57 => ?_)
    · skip
      refine WL.g rfl (g57) rfl (o_fa 5 TI41 rfl TI3 rfl h6 ?_)
      refine WL.g rfl (g57) rfl (o_ld TI3 rfl rfl (cell_of hC7 rfl) ?_)
      refine WL.g rfl (g57) rfl (o_gt rfl rfl ?_)
      refine WL.c rfl (o_pickA rfl rfl ?_)
      refine WL.c rfl (o_ash (show _ = Value.bool _ from rfl) ?_)
      refine WL.nil ?_
      refine W.cut (fun e1 w1 => e1 0 = Value.slice (some ⟨tb, to_, none⟩) l.length tc ∧ e1 4 = Value.slice (some ⟨g, 0, none⟩) (S.length + 1) cap ∧ e1 5 = .int .i64 (i : Int) ∧ e1 6 = .pointer (some ⟨c6, 0, none⟩) ∧ e1 7 = .pointer (some ⟨g, 0 + S.length * 3, none⟩) ∧ e1 12 = Value.slice (some ⟨tb, to_, none⟩) l.length tc ∧ e1 13 = .int .i64 (l.length : Int) ∧ e1 14 = .int .i64 (i : Int) ∧ e1 53 = .bool (manyB l[i]) ∧ w1 = w) ?_ ?_
      · -- both ways
        refine W.cond rfl (fun c53 => ?_) (fun c53 => ?_)
        · try simp only [cs8] at c53
          refine W.skip ?_
          exact ⟨h0, h4, h5, h6, rfl, h12, h13, h14, congrArg Value.bool (by rw [Bool.eq_iff_iff]; (try simp only [decide_eq_true_eq, decide_eq_false_iff_not] at g57); (try simp only [decide_eq_true_eq, decide_eq_false_iff_not] at g65); (try (cases c53; done)); all_goals simp only [manyB, Bool.or_eq_true, Bool.and_eq_true, decide_eq_true_eq, Bool.false_eq_true, false_iff]; all_goals omega), rfl⟩
        try simp only [cs8] at c53
        refine W.region ?_
        refine WL.c rfl (o_fa 0 TI41 rfl TI3 rfl h6 ?_)
        refine WL.c rfl (o_ld TI3 rfl rfl (cell_of hC7 rfl) ?_)
        refine WL.c rfl (o_eq rfl rfl ?_)
        refine WL.c rfl (o_mvh (show _ = Value.bool _ from rfl) ?_)
        refine WL.sp 3 rfl (fun g65 => ?_) (fun g65 => ?_)
        · skip
          refine WL.g rfl (g65) rfl (o_fa 5 TI41 rfl TI3 rfl h6 ?_)
          refine WL.g rfl (g65) rfl (o_ld TI3 rfl rfl (cell_of hC7 rfl) ?_)
          refine WL.g rfl (g65) rfl (o_gt rfl rfl ?_)
          refine WL.c rfl (o_pickA rfl rfl ?_)
          refine WL.c rfl (o_ash (show _ = Value.bool _ from rfl) ?_)
          refine WL.nil ?_
          exact ⟨h0, h4, h5, h6, rfl, h12, h13, h14, congrArg Value.bool (by rw [Bool.eq_iff_iff]; (try simp only [decide_eq_true_eq, decide_eq_false_iff_not] at g57); (try simp only [decide_eq_true_eq, decide_eq_false_iff_not] at g65); (try (cases c53; done)); all_goals simp only [manyB, Bool.or_eq_true, Bool.and_eq_true, decide_eq_true_eq, Bool.false_eq_true, false_iff]; all_goals omega), rfl⟩
        skip
        refine WL.s rfl (g65) rfl ?_
        refine WL.s rfl (g65) rfl ?_
        refine WL.s rfl (g65) rfl ?_
        refine WL.c rfl (o_pickF rfl (g65) ?_)
        refine WL.c rfl (o_ash (show _ = Value.bool _ from rfl) ?_)
        refine WL.nil ?_
        exact ⟨h0, h4, h5, h6, rfl, h12, h13, h14, congrArg Value.bool (by rw [Bool.eq_iff_iff]; (try simp only [decide_eq_true_eq, decide_eq_false_iff_not] at g57); (try simp only [decide_eq_true_eq, decide_eq_false_iff_not] at g65); (try (cases c53; done)); all_goals simp only [manyB, Bool.or_eq_true, Bool.and_eq_true, decide_eq_true_eq, Bool.false_eq_true, false_iff]; all_goals omega), rfl⟩
      rintro e w ⟨h0, h4, h5, h6, h7, h12, h13, h14, h53, rfl⟩
      refine W.cond h53 (fun c53 => ?_) (fun c53 => ?_)
      · try simp only [cs8] at c53
        refine W.seq ?_
        have hmany : manyB l[i] = true := by simpa using c53
        rw [if_pos hmany] at hres2
        refine W.region ?_
        refine WL.c rfl (o_mvh h5 ?_)
        refine WL.c rfl (o_ash (show _ = Value.int _ _ from rfl) ?_)
        refine WL.c rfl (o_ash (show _ = Value.int _ _ from rfl) ?_)
        refine WL.nil ?_
        refine W.ret ?_
        refine ret2v rfl (show _ = Value.int _ _ from rfl) (show _ = Value.int _ _ from rfl) ?_
        rw [hres2]
        exact ⟨rfl, hx⟩
      try simp only [cs8] at c53
      refine W.seq ?_
      have hmany : manyB l[i] = false := by simpa using c53
      rw [if_neg (by simp [hmany])] at hres2
      refine W.tail 5 rfl (by kernel_rfl) ?_
      refine WS.c rfl ((SO.o rfl (o_ldA TI41 rfl h6 (show Cells w c6 0 (exV l[i]) from Cells.of hC7 0 _ (by simp)) rfl ⟨rfl, rfl⟩))) ?_
      refine WS.c rfl ((SO.o rfl (o_mvh h7 ⟨rfl, rfl⟩))) ?_
      refine WS.c rfl ((SO.r (r_nil rfl))) ?_
      refine WS.c rfl ((SO.o rfl (o_fa 0 TI129 rfl TI3 rfl rfl ⟨rfl, rfl⟩))) ?_
      refine WS.c rfl ((SO.o rfl (o_ld TI3 rfl rfl (own_cell hown (j := 0 + S.length * 3 + 0) (by rw [Nat.zero_add]; exact opsR_get _ rfl)) ⟨rfl, rfl⟩))) ?_
      refine WS.nil ?_
      have hxd := Only.drew w
      replace hx := hx.tr hxd
      replace hown := own_ext hown hxd
      replace hC7 := hxd.blk hC7 (fun h => h)
      clear hxd
      generalize w.drew = wd at *
      refine WL.c rfl (o_call Try.call77 (lc rfl (lc rfl ln)) ((right_spec l[i] o.kind _ (hln _ (List.getElem_mem hil)).1 (hln _ (List.getElem_mem hil)).2).mono ?_))
      rintro v77 w77 ⟨rfl, hx77⟩
      replace hx := hx.tr hx77
      replace hown := own_ext hown hx77
      replace hC7 := hx77.blk hC7 (fun h => h)
      refine WL.c rfl (o_not' rfl ?_)
      refine WL.c rfl (o_ash (show _ = Value.bool _ from rfl) ?_)
      refine WL.nil ?_
      refine W.cond rfl (fun c71 => ?_) (fun c71 => ?_)
      · try simp only [cs8] at c71
        have hright : rightB l[i] o.kind = false := by simpa using c71
        rw [if_pos hright] at hres2
        refine W.seq ?_
        refine W.region ?_
        refine WL.c rfl (o_mvh h5 ?_)
        refine WL.c rfl (o_ash (show _ = Value.int _ _ from rfl) ?_)
        refine WL.c rfl (o_ash (show _ = Value.int _ _ from rfl) ?_)
        refine WL.nil ?_
        refine W.ret ?_
        refine ret2v rfl (show _ = Value.int _ _ from rfl) (show _ = Value.int _ _ from rfl) ?_
        rw [hres2]
        exact ⟨rfl, hx⟩
      try simp only [cs8] at c71
      have hright : rightB l[i] o.kind = true := by simpa using c71
      rw [if_neg (by simp [hright])] at hres2
      have hkd := rightB_kids hright hmany
      refine W.skip ?_
      refine W.seq ?_
      refine W.region ?_
      refine WL.c rfl (o_mvh h7 ?_)
      refine WL.c rfl (o_nil rfl ?_)
      refine WL.c rfl (o_fa 1 TI129 rfl TI3 rfl rfl ?_)
      refine WL.c rfl (o_ld TI3 rfl rfl (own_cell hown (j := 0 + S.length * 3 + 1) (by rw [Nat.zero_add]; exact opsR_get _ rfl)) ?_)
      refine WL.c rfl (o_subi rfl rfl (by omega) ?_)
      refine WL.c rfl (o_nil rfl ?_)
      refine WL.c rfl (o_fa 1 TI129 rfl TI3 rfl rfl ?_)
      refine WL.u (o_stRj (i := S.length * 3 + 1) TI3 rfl (by omega) (show _ = Value.int .i64 (o.left - 1) from rfl) rfl hown rfl (by omega) ?_)
      intro wA hown' hoA hsA
      replace hown : wA.ownsRow w0.heap.size 129 3 (Value.slice (some ⟨g, 0, none⟩) (S.length + 1) cap) (S.length + 1) (opsR ({ o with left := o.left - 1 } :: S)) := by rw [← opsR_set]; exact hown'
      clear hown'
      replace hC7 := hoA.blk hC7 (fun hk => hcg (by simpa [Value.ownBlock] using hk))
      have hgl := (hown.lt g rfl).1
      replace hx := hx.trans' hoA (fun _ h => h) (fun k hk he => by have := ob he; omega)
      refine WL.nil ?_
      obtain ⟨wd2, hwd⟩ : ∃ wd2, wd2 = wA.drew := ⟨_, rfl⟩
      have hxd : Ext wA wd2 := hwd ▸ Only.drew wA
      replace hx := hx.tr hxd
      replace hown := own_ext hown hxd
      replace hC7 := hxd.blk hC7 (fun h => h)
      refine W.drawT 12 (Ext) [(4, fun v _ => v = _), (6, fun v _ => v = _), (7, fun v _ => v = _), (0, fun v _ => v = _), (5, fun v _ => v = _), (12, fun v _ => v = _), (13, fun v _ => v = _), (14, fun v _ => v = _)] rfl (by kernel_rfl) (Only.refl No) (fun _ _ _ h k => h.trans k) ⟨Mono.eq, Mono.eq, Mono.eq, Mono.eq, Mono.eq, Mono.eq, Mono.eq, Mono.eq, trivial⟩ ⟨h4, h6, h7, h0, h5, h12, h13, h14, trivial⟩ ?_
      refine WD.p rfl (fun e w hR hh => by obtain ⟨h4, -⟩ := hh; exact SG.n (o_mvh h4 ⟨rfl, Only.refl No _⟩)) ?_
      refine WD.p rfl (fun e w hR hh => by obtain ⟨h6, -⟩ := hh; exact SG.n (o_fa 0 TI41 rfl TI3 rfl h6 ⟨rfl, Only.refl No _⟩)) ?_
      refine WD.p rfl (fun e w hR hh => by obtain ⟨h88, -⟩ := hh; rw [← hwd] at hR; exact SG.n (o_ld TI3 rfl h88 (cell_of (hR.blk hC7 (fun h => h)) rfl) ⟨rfl, Only.refl No _⟩)) ?_
      refine WD.p rfl (fun e w hR hh => by obtain ⟨h6, -⟩ := hh; exact SG.n (o_fa 5 TI41 rfl TI3 rfl h6 ⟨rfl, Only.refl No _⟩)) ?_
      refine WD.p rfl (fun e w hR hh => by obtain ⟨h90, -⟩ := hh; rw [← hwd] at hR; exact SG.n (o_ld TI3 rfl h90 (cell_of (hR.blk hC7 (fun h => h)) rfl) ⟨rfl, Only.refl No _⟩)) ?_
      refine WD.p rfl (fun e w hR hh => by obtain ⟨h7, -⟩ := hh; exact SG.n (o_mvh h7 ⟨rfl, Only.refl No _⟩)) ?_
      refine WD.p rfl (fun e w hR hh => by obtain ⟨h92, -⟩ := hh; exact SG.n (o_nil h92 ⟨rfl, Only.refl No _⟩)) ?_
      refine WD.p rfl (fun e w hR hh => by obtain ⟨h93, -⟩ := hh; exact SG.n (o_fa 2 TI129 rfl TI3 rfl h93 ⟨rfl, Only.refl No _⟩)) ?_
      refine WD.p rfl (fun e w hR hh => by obtain ⟨h94, -⟩ := hh; rw [← hwd] at hR; exact SG.n (o_ld TI3 rfl h94 (show w.cell? ⟨g, 0 + S.length * 3 + 2, none⟩ = some (.int .i64 o.deep) from own_cell (own_ext hown hR) (by rw [Nat.zero_add]; exact opsR_get _ rfl)) ⟨rfl, Only.refl No _⟩)) ?_
      refine WD.p rfl (fun e w hR hh => by obtain ⟨h95, -⟩ := hh; exact SG.n (o_addi h95 rfl (by omega) ⟨rfl, Only.refl No _⟩)) ?_
      refine WD.p rfl (fun e w hR hh => by obtain ⟨h96, h91, h89, -⟩ := hh; exact SG.n (o_bldC (cs := [_, _, _]) TI129 (Sizes.cons TI3 (Sizes.cons TI3 (Sizes.cons TI3 Sizes.nil))) rfl (lcp h89 (lcp h91 (lcp h96 lnp))) rfl rfl ⟨rfl, Only.refl No _⟩)) ?_
      refine WD.q (fun u w => w.ownsRow wd2.heap.size 129 3 u 1 (opV ⟨l[i].kind, l[i].kids, o.deep + 1⟩)) (fun u w w2 hR hh => own_ext hh hR) rfl (fun e w hR hh => by obtain ⟨h97, -⟩ := hh; rw [← hwd] at hR; exact SG.n (o_bs1 TI130 TI129 h97 (by decide) (by decide) rfl ⟨own_mono (own_new1 rfl) hR.size, Only.alloc w _⟩)) ?_
      rintro e w hR ⟨h98, h97, h96, h95, h94, h93, h92, h91, h90, h89, h88, h87, h4, h6, h7, h0, h5, h12, h13, h14, -⟩
      rw [← hwd] at hR
      replace hx := hx.tr hR
      replace hown := own_ext hown hR
      replace hC7 := hR.blk hC7 (fun h => h)
      refine WL.c rfl (o_apO (w0.heap.size) TI130 TI129 h87 rfl hown (Sl.own h98) rfl (by decide) (by simp [opV, Value.oneCell']) (by rw [maxLen_eq]; omega) (by omega) hx.size ?_)
      intro v99 w99 hown99 ho99 hb99 hk99
      have hrow : w99.ownsRow w0.heap.size 129 3 v99 (⟨l[i].kind, l[i].kids, o.deep + 1⟩ :: { o with left := o.left - 1 } :: S).length (opsR (⟨l[i].kind, l[i].kids, o.deep + 1⟩ :: { o with left := o.left - 1 } :: S)) := by rw [opsR_cons ⟨l[i].kind, l[i].kids, o.deep + 1⟩]; exact hown99
      replace hx := hx.trans' ho99 (fun _ h => h) (fun k hk he => by have := ob he; omega)
      have hok3 : OkS ({ o with left := o.left - 1 } :: S) := ⟨hdp, by show 0 ≤ o.left - 1; omega, by show o.left - 1 ≤ 64; omega, hok2⟩
      refine WL.c rfl (o_ash (by first | exact (show _ = Value.slice _ _ _ from rfl) | exact rfl) ?_)
      refine WL.nil ?_
      refine W.region ?_
      refine WL.c rfl (o_addi h14 rfl (by omega) ?_)
      refine WL.c rfl (o_mvh (show _ = Value.int _ _ from rfl) ?_)
      refine WL.nil ?_
      refine ⟨⟨i + 1, _, _, by omega, h0, rfl, h12, h13, rfl, hrow, ⟨by simp only [List.length_cons]; omega, hkd.1, hkd.2, hok3⟩, by simp only [List.length_cons] at hdp ⊢; omega, ?_, hx⟩, ?_⟩
      · rw [hres, hlc, chkE_o hpz2, if_neg hdeep, if_neg (by simp [hmany]), if_neg (by simp [hright])]
      show l.length - ((i : Int) + 1).toNat < _
      rw [hm14]; simp [intOf]; omega
    skip
    refine WL.s rfl (g57) rfl ?_
    refine WL.s rfl (g57) rfl ?_
    refine WL.s rfl (g57) rfl ?_
    refine WL.c rfl (o_pickF rfl (g57) ?_)
    refine WL.c rfl (o_ash (show _ = Value.bool _ from rfl) ?_)
    refine WL.nil ?_
    refine W.cut (fun e1 w1 => e1 0 = Value.slice (some ⟨tb, to_, none⟩) l.length tc ∧ e1 4 = Value.slice (some ⟨g, 0, none⟩) (S.length + 1) cap ∧ e1 5 = .int .i64 (i : Int) ∧ e1 6 = .pointer (some ⟨c6, 0, none⟩) ∧ e1 7 = .pointer (some ⟨g, 0 + S.length * 3, none⟩) ∧ e1 12 = Value.slice (some ⟨tb, to_, none⟩) l.length tc ∧ e1 13 = .int .i64 (l.length : Int) ∧ e1 14 = .int .i64 (i : Int) ∧ e1 53 = .bool (manyB l[i]) ∧ w1 = w) ?_ ?_
    · -- both ways
      refine W.cond rfl (fun c53 => ?_) (fun c53 => ?_)
      · try simp only [cs8] at c53
        refine W.skip ?_
        exact ⟨h0, h4, h5, h6, rfl, h12, h13, h14, congrArg Value.bool (by rw [Bool.eq_iff_iff]; (try simp only [decide_eq_true_eq, decide_eq_false_iff_not] at g57); (try simp only [decide_eq_true_eq, decide_eq_false_iff_not] at g65); (try (cases c53; done)); all_goals simp only [manyB, Bool.or_eq_true, Bool.and_eq_true, decide_eq_true_eq, Bool.false_eq_true, false_iff]; all_goals omega), rfl⟩
      try simp only [cs8] at c53
      refine W.region ?_
      refine WL.c rfl (o_fa 0 TI41 rfl TI3 rfl h6 ?_)
      refine WL.c rfl (o_ld TI3 rfl rfl (cell_of hC7 rfl) ?_)
      refine WL.c rfl (o_eq rfl rfl ?_)
      refine WL.c rfl (o_mvh (show _ = Value.bool _ from rfl) ?_)
      refine WL.sp 3 rfl (fun g65 => ?_) (fun g65 => ?_)
      · skip
        refine WL.g rfl (g65) rfl (o_fa 5 TI41 rfl TI3 rfl h6 ?_)
        refine WL.g rfl (g65) rfl (o_ld TI3 rfl rfl (cell_of hC7 rfl) ?_)
        refine WL.g rfl (g65) rfl (o_gt rfl rfl ?_)
        refine WL.c rfl (o_pickA rfl rfl ?_)
        refine WL.c rfl (o_ash (show _ = Value.bool _ from rfl) ?_)
        refine WL.nil ?_
        exact ⟨h0, h4, h5, h6, rfl, h12, h13, h14, congrArg Value.bool (by rw [Bool.eq_iff_iff]; (try simp only [decide_eq_true_eq, decide_eq_false_iff_not] at g57); (try simp only [decide_eq_true_eq, decide_eq_false_iff_not] at g65); (try (cases c53; done)); all_goals simp only [manyB, Bool.or_eq_true, Bool.and_eq_true, decide_eq_true_eq, Bool.false_eq_true, false_iff]; all_goals omega), rfl⟩
      skip
      refine WL.s rfl (g65) rfl ?_
      refine WL.s rfl (g65) rfl ?_
      refine WL.s rfl (g65) rfl ?_
      refine WL.c rfl (o_pickF rfl (g65) ?_)
      refine WL.c rfl (o_ash (show _ = Value.bool _ from rfl) ?_)
      refine WL.nil ?_
      exact ⟨h0, h4, h5, h6, rfl, h12, h13, h14, congrArg Value.bool (by rw [Bool.eq_iff_iff]; (try simp only [decide_eq_true_eq, decide_eq_false_iff_not] at g57); (try simp only [decide_eq_true_eq, decide_eq_false_iff_not] at g65); (try (cases c53; done)); all_goals simp only [manyB, Bool.or_eq_true, Bool.and_eq_true, decide_eq_true_eq, Bool.false_eq_true, false_iff]; all_goals omega), rfl⟩
    rintro e w ⟨h0, h4, h5, h6, h7, h12, h13, h14, h53, rfl⟩
    refine W.cond h53 (fun c53 => ?_) (fun c53 => ?_)
    · try simp only [cs8] at c53
      refine W.seq ?_
      have hmany : manyB l[i] = true := by simpa using c53
      rw [if_pos hmany] at hres2
      refine W.region ?_
      refine WL.c rfl (o_mvh h5 ?_)
      refine WL.c rfl (o_ash (show _ = Value.int _ _ from rfl) ?_)
      refine WL.c rfl (o_ash (show _ = Value.int _ _ from rfl) ?_)
      refine WL.nil ?_
      refine W.ret ?_
      refine ret2v rfl (show _ = Value.int _ _ from rfl) (show _ = Value.int _ _ from rfl) ?_
      rw [hres2]
      exact ⟨rfl, hx⟩
    try simp only [cs8] at c53
    refine W.seq ?_
    have hmany : manyB l[i] = false := by simpa using c53
    rw [if_neg (by simp [hmany])] at hres2
    refine W.tail 5 rfl (by kernel_rfl) ?_
    refine WS.c rfl ((SO.o rfl (o_ldA TI41 rfl h6 (show Cells w c6 0 (exV l[i]) from Cells.of hC7 0 _ (by simp)) rfl ⟨rfl, rfl⟩))) ?_
    refine WS.c rfl ((SO.o rfl (o_mvh h7 ⟨rfl, rfl⟩))) ?_
    refine WS.c rfl ((SO.r (r_nil rfl))) ?_
    refine WS.c rfl ((SO.o rfl (o_fa 0 TI129 rfl TI3 rfl rfl ⟨rfl, rfl⟩))) ?_
    refine WS.c rfl ((SO.o rfl (o_ld TI3 rfl rfl (own_cell hown (j := 0 + S.length * 3 + 0) (by rw [Nat.zero_add]; exact opsR_get _ rfl)) ⟨rfl, rfl⟩))) ?_
    refine WS.nil ?_
    have hxd := Only.drew w
    replace hx := hx.tr hxd
    replace hown := own_ext hown hxd
    replace hC7 := hxd.blk hC7 (fun h => h)
    clear hxd
    generalize w.drew = wd at *
    refine WL.c rfl (o_call Try.call77 (lc rfl (lc rfl ln)) ((right_spec l[i] o.kind _ (hln _ (List.getElem_mem hil)).1 (hln _ (List.getElem_mem hil)).2).mono ?_))
    rintro v77 w77 ⟨rfl, hx77⟩
    replace hx := hx.tr hx77
    replace hown := own_ext hown hx77
    replace hC7 := hx77.blk hC7 (fun h => h)
    refine WL.c rfl (o_not' rfl ?_)
    refine WL.c rfl (o_ash (show _ = Value.bool _ from rfl) ?_)
    refine WL.nil ?_
    refine W.cond rfl (fun c71 => ?_) (fun c71 => ?_)
    · try simp only [cs8] at c71
      have hright : rightB l[i] o.kind = false := by simpa using c71
      rw [if_pos hright] at hres2
      refine W.seq ?_
      refine W.region ?_
      refine WL.c rfl (o_mvh h5 ?_)
      refine WL.c rfl (o_ash (show _ = Value.int _ _ from rfl) ?_)
      refine WL.c rfl (o_ash (show _ = Value.int _ _ from rfl) ?_)
      refine WL.nil ?_
      refine W.ret ?_
      refine ret2v rfl (show _ = Value.int _ _ from rfl) (show _ = Value.int _ _ from rfl) ?_
      rw [hres2]
      exact ⟨rfl, hx⟩
    try simp only [cs8] at c71
    have hright : rightB l[i] o.kind = true := by simpa using c71
    rw [if_neg (by simp [hright])] at hres2
    have hkd := rightB_kids hright hmany
    refine W.skip ?_
    refine W.seq ?_
    refine W.region ?_
    refine WL.c rfl (o_mvh h7 ?_)
    refine WL.c rfl (o_nil rfl ?_)
    refine WL.c rfl (o_fa 1 TI129 rfl TI3 rfl rfl ?_)
    refine WL.c rfl (o_ld TI3 rfl rfl (own_cell hown (j := 0 + S.length * 3 + 1) (by rw [Nat.zero_add]; exact opsR_get _ rfl)) ?_)
    refine WL.c rfl (o_subi rfl rfl (by omega) ?_)
    refine WL.c rfl (o_nil rfl ?_)
    refine WL.c rfl (o_fa 1 TI129 rfl TI3 rfl rfl ?_)
    refine WL.u (o_stRj (i := S.length * 3 + 1) TI3 rfl (by omega) (show _ = Value.int .i64 (o.left - 1) from rfl) rfl hown rfl (by omega) ?_)
    intro wA hown' hoA hsA
    replace hown : wA.ownsRow w0.heap.size 129 3 (Value.slice (some ⟨g, 0, none⟩) (S.length + 1) cap) (S.length + 1) (opsR ({ o with left := o.left - 1 } :: S)) := by rw [← opsR_set]; exact hown'
    clear hown'
    replace hC7 := hoA.blk hC7 (fun hk => hcg (by simpa [Value.ownBlock] using hk))
    have hgl := (hown.lt g rfl).1
    replace hx := hx.trans' hoA (fun _ h => h) (fun k hk he => by have := ob he; omega)
    refine WL.nil ?_
    obtain ⟨wd2, hwd⟩ : ∃ wd2, wd2 = wA.drew := ⟨_, rfl⟩
    have hxd : Ext wA wd2 := hwd ▸ Only.drew wA
    replace hx := hx.tr hxd
    replace hown := own_ext hown hxd
    replace hC7 := hxd.blk hC7 (fun h => h)
    refine W.drawT 12 (Ext) [(4, fun v _ => v = _), (6, fun v _ => v = _), (7, fun v _ => v = _), (0, fun v _ => v = _), (5, fun v _ => v = _), (12, fun v _ => v = _), (13, fun v _ => v = _), (14, fun v _ => v = _)] rfl (by kernel_rfl) (Only.refl No) (fun _ _ _ h k => h.trans k) ⟨Mono.eq, Mono.eq, Mono.eq, Mono.eq, Mono.eq, Mono.eq, Mono.eq, Mono.eq, trivial⟩ ⟨h4, h6, h7, h0, h5, h12, h13, h14, trivial⟩ ?_
    refine WD.p rfl (fun e w hR hh => by obtain ⟨h4, -⟩ := hh; exact SG.n (o_mvh h4 ⟨rfl, Only.refl No _⟩)) ?_
    refine WD.p rfl (fun e w hR hh => by obtain ⟨h6, -⟩ := hh; exact SG.n (o_fa 0 TI41 rfl TI3 rfl h6 ⟨rfl, Only.refl No _⟩)) ?_
    refine WD.p rfl (fun e w hR hh => by obtain ⟨h88, -⟩ := hh; rw [← hwd] at hR; exact SG.n (o_ld TI3 rfl h88 (cell_of (hR.blk hC7 (fun h => h)) rfl) ⟨rfl, Only.refl No _⟩)) ?_
    refine WD.p rfl (fun e w hR hh => by obtain ⟨h6, -⟩ := hh; exact SG.n (o_fa 5 TI41 rfl TI3 rfl h6 ⟨rfl, Only.refl No _⟩)) ?_
    refine WD.p rfl (fun e w hR hh => by obtain ⟨h90, -⟩ := hh; rw [← hwd] at hR; exact SG.n (o_ld TI3 rfl h90 (cell_of (hR.blk hC7 (fun h => h)) rfl) ⟨rfl, Only.refl No _⟩)) ?_
    refine WD.p rfl (fun e w hR hh => by obtain ⟨h7, -⟩ := hh; exact SG.n (o_mvh h7 ⟨rfl, Only.refl No _⟩)) ?_
    refine WD.p rfl (fun e w hR hh => by obtain ⟨h92, -⟩ := hh; exact SG.n (o_nil h92 ⟨rfl, Only.refl No _⟩)) ?_
    refine WD.p rfl (fun e w hR hh => by obtain ⟨h93, -⟩ := hh; exact SG.n (o_fa 2 TI129 rfl TI3 rfl h93 ⟨rfl, Only.refl No _⟩)) ?_
    refine WD.p rfl (fun e w hR hh => by obtain ⟨h94, -⟩ := hh; rw [← hwd] at hR; exact SG.n (o_ld TI3 rfl h94 (show w.cell? ⟨g, 0 + S.length * 3 + 2, none⟩ = some (.int .i64 o.deep) from own_cell (own_ext hown hR) (by rw [Nat.zero_add]; exact opsR_get _ rfl)) ⟨rfl, Only.refl No _⟩)) ?_
    refine WD.p rfl (fun e w hR hh => by obtain ⟨h95, -⟩ := hh; exact SG.n (o_addi h95 rfl (by omega) ⟨rfl, Only.refl No _⟩)) ?_
    refine WD.p rfl (fun e w hR hh => by obtain ⟨h96, h91, h89, -⟩ := hh; exact SG.n (o_bldC (cs := [_, _, _]) TI129 (Sizes.cons TI3 (Sizes.cons TI3 (Sizes.cons TI3 Sizes.nil))) rfl (lcp h89 (lcp h91 (lcp h96 lnp))) rfl rfl ⟨rfl, Only.refl No _⟩)) ?_
    refine WD.q (fun u w => w.ownsRow wd2.heap.size 129 3 u 1 (opV ⟨l[i].kind, l[i].kids, o.deep + 1⟩)) (fun u w w2 hR hh => own_ext hh hR) rfl (fun e w hR hh => by obtain ⟨h97, -⟩ := hh; rw [← hwd] at hR; exact SG.n (o_bs1 TI130 TI129 h97 (by decide) (by decide) rfl ⟨own_mono (own_new1 rfl) hR.size, Only.alloc w _⟩)) ?_
    rintro e w hR ⟨h98, h97, h96, h95, h94, h93, h92, h91, h90, h89, h88, h87, h4, h6, h7, h0, h5, h12, h13, h14, -⟩
    rw [← hwd] at hR
    replace hx := hx.tr hR
    replace hown := own_ext hown hR
    replace hC7 := hR.blk hC7 (fun h => h)
    refine WL.c rfl (o_apO (w0.heap.size) TI130 TI129 h87 rfl hown (Sl.own h98) rfl (by decide) (by simp [opV, Value.oneCell']) (by rw [maxLen_eq]; omega) (by omega) hx.size ?_)
    intro v99 w99 hown99 ho99 hb99 hk99
    have hrow : w99.ownsRow w0.heap.size 129 3 v99 (⟨l[i].kind, l[i].kids, o.deep + 1⟩ :: { o with left := o.left - 1 } :: S).length (opsR (⟨l[i].kind, l[i].kids, o.deep + 1⟩ :: { o with left := o.left - 1 } :: S)) := by rw [opsR_cons ⟨l[i].kind, l[i].kids, o.deep + 1⟩]; exact hown99
    replace hx := hx.trans' ho99 (fun _ h => h) (fun k hk he => by have := ob he; omega)
    have hok3 : OkS ({ o with left := o.left - 1 } :: S) := ⟨hdp, by show 0 ≤ o.left - 1; omega, by show o.left - 1 ≤ 64; omega, hok2⟩
    refine WL.c rfl (o_ash (by first | exact (show _ = Value.slice _ _ _ from rfl) | exact rfl) ?_)
    refine WL.nil ?_
    refine W.region ?_
    refine WL.c rfl (o_addi h14 rfl (by omega) ?_)
    refine WL.c rfl (o_mvh (show _ = Value.int _ _ from rfl) ?_)
    refine WL.nil ?_
    refine ⟨⟨i + 1, _, _, by omega, h0, rfl, h12, h13, rfl, hrow, ⟨by simp only [List.length_cons]; omega, hkd.1, hkd.2, hok3⟩, by simp only [List.length_cons] at hdp ⊢; omega, ?_, hx⟩, ?_⟩
    · rw [hres, hlc, chkE_o hpz2, if_neg hdeep, if_neg (by simp [hmany]), if_neg (by simp [hright])]
    show l.length - ((i : Int) + 1).toNat < _
    rw [hm14]; simp [intOf]; omega
  try simp only [cs8] at c15
  have hil : i = l.length := by omega
  rw [hil, List.drop_length, chkE_nil] at hres
  refine W.exit ?_
  refine W.seq ?_
  refine W.seq ?_
  refine W.region ?_
  refine WL.c rfl (o_mvh h4 ?_)
  refine WL.c rfl (o_lenR TI130 rfl (Sl.own hown) ?_)
  refine WL.c rfl (o_mvh (show _ = Value.int _ _ from rfl) ?_)
  refine WL.nil ?_
  refine W.block ?_
  refine W.loop (fun e w => ∃ k : Nat, k ≤ S0.length ∧ e 0 = v ∧ e 101 = sv0 ∧ e 102 = .int .i64 (S0.length : Int) ∧ e 103 = .int .i64 (k : Int) ∧ leftB S0 = leftB (S0.reverse.drop k).reverse ∧ w.ownsRow w0.heap.size 129 3 sv0 S0.length (opsR S0) ∧ Ext w0 w) (fun e w => S0.length - (intOf (e 103)).toNat) ?_ ?_
  · exact ⟨0, Nat.zero_le _, h0, rfl, rfl, rfl, by rw [List.drop_zero, List.reverse_reverse], hown, hx⟩
  rintro e w ⟨k, hk, h0, h101, h102, h103, hlb, hown, hx⟩
  have hm103 := h103
  refine W.seq ?_
  refine W.region ?_
  refine WL.c rfl (o_lt h103 h102 ?_)
  refine WL.nil ?_
  refine W.seq ?_
  refine W.cond rfl (fun c104 => ?_) (fun c104 => ?_)
  · try simp only [cs8] at c104
    have hk1 : k < S0.length := by omega
    obtain ⟨g, cap, rfl, hgb⟩ := own_some hown (by omega)
    have hcc := own_cellsAt hown k
    rw [ops_at hk1] at hcc
    refine W.skip ?_
    refine W.seq ?_
    refine W.block ?_
    refine W.seq ?_
    refine W.region ?_
    refine WL.c rfl (o_ixB TI130 TI129 h101 h103 (by omega) ?_)
    refine WL.c rfl (o_ldA TI129 rfl rfl hcc rfl ?_)
    refine WL.c rfl (o_alB TI129 ?_)
    intro w9 hC9 hx9 hs9
    refine WL.u (o_stA TI129 rfl (show _ = Value.agg (opV (S0.reverse[k]'(by simpa using hk1))).toArray from rfl) rfl rfl hC9 rfl ?_)
    intro wb hCb hob hsb
    have hxb := Ext.own hx9 (Nat.le_refl _) hob
    clear hC9 hx9 hs9 hob hsb hcc
    replace hown := own_ext hown hxb
    replace hx := hx.tr hxb
    refine WL.nil ?_
    refine W.seq ?_
    refine W.region ?_
    refine WL.c rfl (o_fa 1 TI129 rfl TI3 rfl rfl ?_)
    refine WL.c rfl (o_ld TI3 rfl rfl (cell_of hCb rfl) ?_)
    refine WL.c rfl (o_gt rfl rfl ?_)
    refine WL.nil ?_
    refine W.cond rfl (fun c109 => ?_) (fun c109 => ?_)
    · try simp only [cs8] at c109
      have hnl : 0 < (S0.reverse[k]'(by simpa using hk1)).left := by omega
      rw [hlb, leftB_at _ _ hk1, decide_eq_true hnl, Bool.true_or, if_pos rfl] at hres
      refine W.seq ?_
      refine W.region ?_
      refine WL.c rfl (o_mvh h0 ?_)
      refine WL.c rfl (o_lenR TI37 rfl (hS0.ext hx) ?_)
      refine WL.c rfl (o_ash (show _ = Value.int _ _ from rfl) ?_)
      refine WL.c rfl (o_ash (show _ = Value.int _ _ from rfl) ?_)
      refine WL.nil ?_
      refine W.ret ?_
      refine ret2v rfl (show _ = Value.int _ _ from rfl) (show _ = Value.int _ _ from rfl) ?_
      rw [hres]
      exact ⟨rfl, hx⟩
    try simp only [cs8] at c109
    have hnl : ¬ 0 < (S0.reverse[k]'(by simpa using hk1)).left := by omega
    refine W.skip ?_
    refine W.region ?_
    refine WL.c rfl (o_addi h103 rfl (by omega) ?_)
    refine WL.c rfl (o_mvh (show _ = Value.int _ _ from rfl) ?_)
    refine WL.nil ?_
    refine ⟨⟨k + 1, by omega, h0, h101, h102, rfl, ?_, hown, hx⟩, ?_⟩
    · rw [hlb, leftB_at _ _ hk1, decide_eq_false hnl, Bool.false_or]
    show S0.length - ((k : Int) + 1).toNat < _
    rw [hm103]; simp [intOf]; omega
  try simp only [cs8] at c104
  have hk1 : k = S0.length := by omega
  rw [hk1, show (S0.reverse.drop S0.length).reverse = [] by simp] at hlb
  rw [hlb, if_neg (by simp [leftB])] at hres
  refine W.exit ?_
  refine W.seq ?_
  refine W.region ?_
  refine WL.c rfl (o_ash (show _ = Value.int _ _ from rfl) ?_)
  refine WL.c rfl (o_ash (show _ = Value.int _ _ from rfl) ?_)
  refine WL.nil ?_
  refine W.ret ?_
  refine ret2v rfl (show _ = Value.int _ _ from rfl) (show _ = Value.int _ _ from rfl) ?_
  rw [hres]
  exact ⟨rfl, hx⟩
end Go.Proofs.Ytpbflfgigfdohaa

set_option linter.unusedSimpArgs false
set_option linter.unusedVariables false
set_option maxRecDepth 100000
namespace Go.Proofs.Ytpbflfgigfdohaa
open Go Go.Vc Go.RowKit Go.Proofs

theorem fm_at {α : Type} {f : α → List Value} {s : Nat} (hs : ∀ a, (f a).length = s) (ts : List α) : ∀ (k : Nat) (hk : k < ts.length), ((ts.flatMap f).drop (k * s)).take s = f ts[k] := by
  induction ts with
  | nil => intro k hk; simp at hk
  | cons t ts ih =>
    intro k hk
    cases k with
    | zero => rw [Nat.zero_mul, List.drop_zero, List.flatMap_cons]; exact List.take_left' (hs t)
    | succ k =>
      have h1 : (k + 1) * s - (f t).length = k * s := by rw [hs, Nat.succ_mul]; omega
      have h2 : (f t).length ≤ (k + 1) * s := by rw [hs, Nat.succ_mul]; omega
      have := ih k (by simpa using hk)
      rw [List.flatMap_cons, List.drop_append, List.drop_eq_nil_of_le h2, List.nil_append, h1]
      exact this
theorem drows_at (D : List Df) (V : Nat → Value) {k : Nat} (hk : k < D.length) : ((drows D V).drop (k * 3)).take 3 = dcell (D.getD k df0) (V k) := by
  have h := fm_at (f := fun j => dcell (D.getD j df0) (V j)) (s := 3) (fun _ => rfl) (List.range D.length) k (by simpa using hk)
  rw [drows, h, List.getElem_range]
/-- definitions that are read -/
structure DefR (w : World) (D : List Df) (dv : Value) (V : Nat → Value) : Prop where
  row : Sl w 3 dv D.length (drows D V)
  tys : ∀ j, j < D.length → Sl w 7 (V j) (tyD D j).length (exs (tyD D j))
theorem DefR.only {w w' : World} {D : List Df} {dv : Value} {V : Nat → Value} {F : Nat → Prop} (h : DefR w D dv V) (ho : Only F w w') (hn : ∀ k, DF dv V D.length k → ¬ F k) : DefR w' D dv V :=
  ⟨h.row.only ho (fun k hk => hn k (.inl hk)), fun j hj => (h.tys j hj).only ho (fun k hk => hn k (.inr ⟨j, hj, hk⟩))⟩
theorem DefR.ext {w w' : World} {D : List Df} {dv : Value} {V : Nat → Value} (h : DefR w D dv V) (ho : Ext w w') : DefR w' D dv V := h.only ho (fun _ _ h => h)
theorem Defs.rd {w : World} {H : Nat} {D : List Df} {dv : Value} {V : Nat → Value} (h : Defs w H D dv V) : DefR w D dv V := ⟨Sl.own h.row, fun j hj => Sl.own (h.tys.row j hj)⟩
theorem DefR.at {w : World} {D : List Df} {dv : Value} {V : Nat → Value} (h : DefR w D dv V) {k : Nat} (hk : k < D.length) : ∃ b o c, dv = .slice (some ⟨b, o, none⟩) D.length c ∧ Cells w b (o + k * 3) (dcell (D.getD k df0) (V k)) := by
  rcases h.row.val with ⟨hz, h0⟩ | ⟨b, o, c, rfl, hnc, hc⟩
  · omega
  exact ⟨b, o, c, rfl, by rw [← drows_at D V hk]; exact hc.sub _ _⟩
theorem sl_one1 {w : World} {s : Nat} {v : Value} {n : Nat} {xs : List Value} (h : Sl w s v n xs) : v.oneCell' = true := by
  obtain ⟨a, c, rfl⟩ := h.isSlice
  rfl
/-- names and numbers that a machine can hold -/
def DLim (D : List Df) : Prop := ∀ d ∈ D, d.name.length ≤ 9223372036854775807 ∧ d.ty.length ≤ 4611686018427387904 ∧ ∀ x ∈ d.ty, x.name.length ≤ 9223372036854775807 ∧ x.label.length ≤ 9223372036854775807
def chkT (l : List Ex) : Nat × Nat := chkE [⟨0, 1, 0⟩] 0 l
def chkA : Nat → List Df → Nat × Nat × Nat
  | _, [] => (0, 0, 0)
  | i, d :: ds => if nameB d.name = false then (i, 0, 62) else if (chkT d.ty).2 = 0 then chkA (i + 1) ds else (i, chkT d.ty)
def chkS (D : List Df) : Nat × Nat × Nat := if 256 < D.length then (256, 0, 5) else chkA 0 D
theorem chkA_nil {i : Nat} : chkA i [] = (0, 0, 0) := rfl
theorem chkA_cons {i : Nat} {d : Df} {ds : List Df} : chkA i (d :: ds) = if nameB d.name = false then (i, 0, 62) else if (chkT d.ty).2 = 0 then chkA (i + 1) ds else (i, chkT d.ty) := rfl
def rs3 (r : Nat × Nat × Nat) : Value := .tuple #[.int .i64 (r.1 : Int), .int .i64 (r.2.1 : Int), .int .i64 (r.2.2 : Int)]

set_option maxHeartbeats 2000000 in
theorem check_spec (D : List Df) (dv : Value) (V : Nat → Value) (w0 : World) (hD : DefR w0 D dv V) (hlim : DLim D) : Ca Try.prog 28 #[.agg #[dv]] w0 (fun r w' => r = rs3 (chkS D) ∧ Ext w0 w') := by
  refine Ca.of Try.func28 Try.ntmps28 rfl rfl ?_
  refine W.seq ?_
  refine W.region ?_
  refine WL.c rfl (o_boxB rfl ?_)
  intro w1 hC1 hx1 hs1
  have hx := hx1
  replace hC1 : w1.heap[w0.heap.size]? = some (.cells #[dv] 25 (0, 0)) := hC1
  obtain ⟨c1, hc1⟩ : ∃ c, c = w0.heap.size := ⟨_, rfl⟩
  rw [← hc1] at hC1 ⊢
  replace hD := hD.ext hx1
  refine WL.c rfl (o_ash (show _ = Value.int _ _ from rfl) ?_)
  refine WL.c rfl (o_ash (show _ = Value.int _ _ from rfl) ?_)
  refine WL.c rfl (o_ash (show _ = Value.int _ _ from rfl) ?_)
  refine WL.nil ?_
  refine W.seq ?_
  refine W.seq ?_
  refine W.region ?_
  refine WL.c rfl (o_fa 0 TI25 rfl TI23 rfl rfl ?_)
  refine WL.c rfl (o_ld TI23 rfl rfl (cell_of hC1 rfl) ?_)
  refine WL.c rfl (o_lenR TI23 rfl hD.row ?_)
  refine WL.c rfl (o_gt rfl rfl ?_)
  refine WL.nil ?_
  refine W.cond rfl (fun c12 => ?_) (fun c12 => ?_)
  · try simp only [cs8] at c12
    have hn : 256 < D.length := by omega
    refine W.seq ?_
    refine W.region ?_
    refine WL.c rfl (o_ash (show _ = Value.int _ _ from rfl) ?_)
    refine WL.c rfl (o_ash (show _ = Value.int _ _ from rfl) ?_)
    refine WL.c rfl (o_ash (show _ = Value.int _ _ from rfl) ?_)
    refine WL.nil ?_
    refine W.ret ?_
    refine ret3v rfl (show _ = Value.int _ _ from rfl) (show _ = Value.int _ _ from rfl) (show _ = Value.int _ _ from rfl) ?_
    exact ⟨by rw [chkS, if_pos hn]; rfl, hx⟩
  try simp only [cs8] at c12
  have hn : ¬ 256 < D.length := by omega
  refine W.skip ?_
  refine W.seq ?_
  refine W.seq ?_
  refine W.region ?_
  refine WL.c rfl (o_fa 0 TI25 rfl TI23 rfl rfl ?_)
  refine WL.c rfl (o_ld TI23 rfl rfl (cell_of hC1 rfl) ?_)
  refine WL.c rfl (o_lenR TI23 rfl hD.row ?_)
  refine WL.c rfl (o_mvh (show _ = Value.int _ _ from rfl) ?_)
  refine WL.nil ?_
  refine W.block ?_
  refine W.loop (fun e w => ∃ i : Nat, i ≤ D.length ∧ e 14 = dv ∧ e 15 = .int .i64 (D.length : Int) ∧ e 16 = .int .i64 (i : Int) ∧ chkS D = chkA i (D.drop i) ∧ DefR w D dv V ∧ Ext w0 w) (fun e w => D.length - (intOf (e 16)).toNat) ?_ ?_
  · exact ⟨0, Nat.zero_le _, rfl, rfl, rfl, by rw [chkS, if_neg hn]; rfl, hD, hx⟩
  rintro e w ⟨i, hi, h14, h15, h16, hres, hD, hx⟩
  have hm16 := h16
  refine W.seq ?_
  refine W.region ?_
  refine WL.c rfl (o_lt h16 h15 ?_)
  refine WL.nil ?_
  refine W.seq ?_
  refine W.cond rfl (fun c17 => ?_) (fun c17 => ?_)
  · try simp only [cs8] at c17
    have hil : i < D.length := by omega
    obtain ⟨tb, to_, tc, rfl, htc⟩ := hD.at hil
    have htd : tyD D i = D[i].ty := by simp [tyD, List.getD_eq_getElem?_getD, hil]
    have hty := hD.tys i hil
    rw [htd] at hty
    rw [show D.getD i df0 = D[i] by simp [List.getD_eq_getElem?_getD, hil]] at htc
    have hdr : D.drop i = D[i] :: D.drop (i + 1) := (List.getElem_cons_drop hil).symm
    have hli := hlim _ (List.getElem_mem hil)
    refine W.skip ?_
    refine W.seq ?_
    refine W.block ?_
    refine W.seq ?_
    refine W.region ?_
    refine WL.c rfl (o_mvh h16 ?_)
    refine WL.c rfl (o_ixB TI23 TI39 h14 h16 (by omega) ?_)
    refine WL.c rfl (o_ldA TI39 rfl rfl htc rfl ?_)
    refine WL.c rfl (o_alB TI39 ?_)
    intro w6 hC6 hx6 hs6
    refine WL.c rfl (o_ash (show _ = Value.int _ _ from rfl) ?_)
    refine WL.u (o_stA TI39 rfl (show _ = Value.agg (dcell D[i] (V i)).toArray from rfl) rfl (by simp only [dcell, List.toArray, Array.toList, List.all_cons, List.all_nil, sl_one1 hty]; rfl) hC6 rfl ?_)
    intro w7 hC7 ho7 hs7
    have hxb := Ext.own hx6 (Nat.le_refl _) ho7
    clear hC6 hx6 hs6 ho7 hs7 htc
    replace hx := hx.tr hxb
    replace hD := hD.ext hxb
    replace hty := hty.ext hxb
    obtain ⟨c6, hc6⟩ : ∃ c, c = w.heap.size := ⟨_, rfl⟩
    rw [← hc6] at hC7 ⊢
    refine WL.nil ?_
    refine W.seq ?_
    refine W.seq ?_
    refine W.region ?_
    refine WL.c rfl (o_fa 0 TI39 rfl TI9 rfl rfl ?_)
    refine WL.c rfl (o_ld TI9 rfl rfl (cell_of hC7 rfl) ?_)
    refine WL.c rfl (o_call Try.call34 (lc rfl ln) ((name_spec D[i].name _ hli.1).mono ?_))
    rintro v23 w23 ⟨rfl, rfl⟩
    refine WL.c rfl (o_not' rfl ?_)
    refine WL.nil ?_
    refine W.cond rfl (fun c24 => ?_) (fun c24 => ?_)
    · try simp only [cs8] at c24
      have hnm : nameB D[i].name = false := by simpa using c24
      refine W.seq ?_
      refine W.region ?_
      refine WL.c rfl (o_mvh (show _ = Value.int _ _ from rfl) ?_)
      refine WL.c rfl (o_ash (show _ = Value.int _ _ from rfl) ?_)
      refine WL.c rfl (o_ash (show _ = Value.int _ _ from rfl) ?_)
      refine WL.c rfl (o_ash (show _ = Value.int _ _ from rfl) ?_)
      refine WL.nil ?_
      refine W.ret ?_
      refine ret3v rfl (show _ = Value.int _ _ from rfl) (show _ = Value.int _ _ from rfl) (show _ = Value.int _ _ from rfl) ?_
      rw [hres, hdr, chkA_cons, if_pos hnm]
      exact ⟨rfl, hx⟩
    try simp only [cs8] at c24
    have hnm : nameB D[i].name = true := by simpa using c24
    refine W.skip ?_
    refine W.seq ?_
    refine W.region ?_
    refine WL.c rfl (o_fa 2 TI39 rfl TI37 rfl rfl ?_)
    refine WL.c rfl (o_ld TI37 rfl rfl (cell_of hC7 rfl) ?_)
    refine WL.c rfl (o_call Try.call54 (lc rfl ln) ((checked_spec D[i].ty (V i) _ hty hli.2.1 hli.2.2).mono ?_))
    rintro v29 w29 ⟨rfl, hx29⟩
    replace hx := hx.tr hx29
    replace hD := hD.ext hx29
    refine WL.c rfl (o_mvh (by first | exact (show _ = Value.tuple _ from rfl) | exact rfl) ?_)
    refine WL.c rfl (o_ext rfl rfl ?_)
    refine WL.c rfl (o_ext rfl rfl ?_)
    refine WL.c rfl (o_ash (show _ = Value.int _ _ from rfl) ?_)
    refine WL.c rfl (o_ash (show _ = Value.int _ _ from rfl) ?_)
    refine WL.nil ?_
    refine W.seq ?_
    refine W.region ?_
    refine WL.c rfl (o_mvh (show _ = Value.int _ _ from rfl) ?_)
    refine WL.c rfl (o_ne rfl rfl ?_)
    refine WL.nil ?_
    refine W.cond rfl (fun c33 => ?_) (fun c33 => ?_)
    · try simp only [cs8] at c33
      have hce : ¬ (chkT D[i].ty).2 = 0 := by have : (chkT D[i].ty).2 = (chkE [⟨0, 1, 0⟩] 0 D[i].ty).2 := rfl; omega
      refine W.seq ?_
      refine W.region ?_
      refine WL.c rfl (o_mvh (show _ = Value.int _ _ from rfl) ?_)
      refine WL.c rfl (o_mvh (show _ = Value.int _ _ from rfl) ?_)
      refine WL.c rfl (o_mvh (show _ = Value.int _ _ from rfl) ?_)
      refine WL.c rfl (o_ash (show _ = Value.int _ _ from rfl) ?_)
      refine WL.c rfl (o_ash (show _ = Value.int _ _ from rfl) ?_)
      refine WL.c rfl (o_ash (show _ = Value.int _ _ from rfl) ?_)
      refine WL.nil ?_
      refine W.ret ?_
      refine ret3v rfl (show _ = Value.int _ _ from rfl) (show _ = Value.int _ _ from rfl) (show _ = Value.int _ _ from rfl) ?_
      rw [hres, hdr, chkA_cons, if_neg (by simp [hnm]), if_neg hce]
      exact ⟨rfl, hx⟩
    try simp only [cs8] at c33
    have hce : (chkT D[i].ty).2 = 0 := by have : (chkT D[i].ty).2 = (chkE [⟨0, 1, 0⟩] 0 D[i].ty).2 := rfl; omega
    refine W.skip ?_
    refine W.region ?_
    refine WL.c rfl (o_addi h16 rfl (by omega) ?_)
    refine WL.c rfl (o_mvh (show _ = Value.int _ _ from rfl) ?_)
    refine WL.nil ?_
    refine ⟨⟨i + 1, by omega, h14, h15, rfl, ?_, hD, hx⟩, ?_⟩
    · rw [hres, hdr, chkA_cons, if_neg (by simp [hnm]), if_pos hce]
    show D.length - ((i : Int) + 1).toNat < _
    rw [hm16]; simp [intOf]; omega
  try simp only [cs8] at c17
  have hil : i = D.length := by omega
  rw [hil, List.drop_length, chkA_nil] at hres
  refine W.exit ?_
  refine W.seq ?_
  refine W.region ?_
  refine WL.c rfl (o_ash (show _ = Value.int _ _ from rfl) ?_)
  refine WL.c rfl (o_ash (show _ = Value.int _ _ from rfl) ?_)
  refine WL.c rfl (o_ash (show _ = Value.int _ _ from rfl) ?_)
  refine WL.nil ?_
  refine W.ret ?_
  refine ret3v rfl (show _ = Value.int _ _ from rfl) (show _ = Value.int _ _ from rfl) (show _ = Value.int _ _ from rfl) ?_
  rw [hres]
  exact ⟨rfl, hx⟩
end Go.Proofs.Ytpbflfgigfdohaa

set_option linter.unusedSimpArgs false
set_option linter.unusedVariables false
set_option maxRecDepth 100000
namespace Go.Proofs.Ytpbflfgigfdohaa
open Go Go.Vc Go.RowKit Go.Proofs

theorem leafE_ok {s : List UInt8} {kn : Int × Int} (h : leafE s = some kn) : kn = (1, 1) ∨ kn = (1, 2) ∨ kn = (1, 4) ∨ kn = (1, 8) ∨ kn = (2, 0) ∨ kn = (3, 0) := by
  unfold leafE at h
  repeat' split at h
  all_goals first | (cases h; simp; done) | cases h
theorem bgn_kind {t : Tk} (hb : bgnT t = true) : t.kind = 1 := by
  unfold bgnT at hb
  rw [Bool.and_eq_true, decide_eq_true_eq] at hb
  exact hb.1
theorem chkE_pz0 {a b : Int} {S : List Opn} {i : Nat} {l : List Ex} : chkE (⟨a, 0, b⟩ :: S) i l = chkE S i l := by
  cases l with
  | nil => rfl
  | cons x xs => rw [chkE_cons, chkE_cons, popZ_z rfl]
def Rise (lo : Int) : List Ex → Int → Prop
  | [], hi => lo ≤ hi
  | y :: l, hi => lo ≤ y.at_ ∧ Rise (y.at_ + 1) l hi
theorem Rise.app : ∀ {L M : List Ex} {a b c : Int}, Rise a L b → Rise b M c → Rise a (L ++ M) c
  | [], M, a, b, c, h1, h2 => by
    show Rise a M c
    cases M with
    | nil => exact Int.le_trans h1 h2
    | cons y l => exact ⟨Int.le_trans h1 h2.1, h2.2⟩
  | y :: l, M, a, b, c, h1, h2 => ⟨h1.1, h1.2.app h2⟩
theorem Rise.ge {L : List Ex} : ∀ {a b : Int}, Rise a L b → a ≤ b := by
  induction L with
  | nil => intro a b h; exact h
  | cons y l ih => intro a b h; have := ih h.2; have := h.1; omega
theorem Rise.lo {L : List Ex} {a a' b : Int} (h : Rise a L b) (ha : a' ≤ a) : Rise a' L b := by
  cases L with
  | nil => exact Int.le_trans ha h
  | cons y l => exact ⟨Int.le_trans ha h.1, h.2⟩
theorem Rise.hi {L : List Ex} : ∀ {a b b' : Int}, Rise a L b → b ≤ b' → Rise a L b' := by
  induction L with
  | nil => intro a b b' h hb; exact Int.le_trans h hb
  | cons y l ih => intro a b b' h hb; exact ⟨h.1, ih h.2 hb⟩
def NdOk (T : List Tk) (y : Ex) : Prop := 0 ≤ y.at_ ∧ (y.label ≠ [] → (tkA T y.at_.toNat).text = y.label) ∧ (y.label = [] → y.kind = 9 → (tkA T y.at_.toNat).kind = 1 → (tkA T y.at_.toNat).text = y.name)
def RiM (T : List Tk) (r : Option (Bool × Nat)) (i : Nat) (x : Ex) (N : List Ex) (j : Nat) : Prop := i < j ∧ j ≤ T.length ∧ match r with
  | none => ((x.at_ < 0 ∧ x.label = []) ∨ (0 ≤ x.at_ ∧ x.at_ < i ∧ (x.label ≠ [] → (tkA T x.at_.toNat).text = x.label) ∧ (x.label = [] → ¬ (tkA T x.at_.toNat).kind = 1))) → Rise (if x.at_ < 0 then i else x.at_) N j ∧ ∀ y ∈ N, NdOk T y
  | some (u, q) => Rise i N j ∧ ∀ y ∈ N, NdOk T y
theorem atE_at {i : Nat} {x : Ex} : (atE i x).at_ = if x.at_ < 0 then (i : Int) else x.at_ := by unfold atE; split <;> rfl
theorem atE_label {i : Nat} {x : Ex} : (atE i x).label = x.label := by unfold atE; split <;> rfl
theorem nd_at {T : List Tk} {i : Nat} {x y : Ex} (hx : (x.at_ < 0 ∧ x.label = []) ∨ (0 ≤ x.at_ ∧ x.at_ < i ∧ (x.label ≠ [] → (tkA T x.at_.toNat).text = x.label) ∧ (x.label = [] → ¬ (tkA T x.at_.toNat).kind = 1))) (ha : y.at_ = (atE i x).at_) (hl : y.label = x.label) (hk : y.kind = 9 → (tkA T i).text = y.name) :
    (if x.at_ < 0 then (i : Int) else x.at_) = y.at_ ∧ y.at_ ≤ (i : Int) ∧ NdOk T y := by
  rw [atE_at] at ha
  rcases hx with ⟨h1, h2⟩ | ⟨h1, h2, h3, h4⟩
  · rw [if_pos h1] at ha ⊢
    refine ⟨ha.symm, by omega, by omega, fun h => absurd (hl.trans h2) h, fun _ h5 _ => ?_⟩
    rw [ha]; exact hk h5
  rw [if_neg (by omega)] at ha ⊢
  refine ⟨ha.symm, by omega, by omega, fun h => ?_, fun h5 _ h7 => ?_⟩
  · rw [ha, hl]; exact h3 (by rw [← hl]; exact h)
  rw [ha] at h7; exact absurd h7 (h4 (by rw [← hl]; exact h5))
theorem nm_ne {s : List UInt8} (h : nameB s = true) : s ≠ [] := fun he => by rw [he] at h; cases h
theorem px_rise {T : List Tk} {r : Option (Bool × Nat)} {deep i : Nat} {x : Ex} {N : List Ex} {n j : Nat} (h : PX T r deep i x N n j) : RiM T r i x N j := by
  have hbT : ∀ {i}, bgnT (tkA T i) = true → i < T.length := fun hb => tkA_kind (by decide) (bgn_kind hb)
  have hd0 : ∀ {u i}, hdOk T u i → i < T.length ∧ ((hdE T u i).at_ = (i : Int) ∧ ((hdE T u i).label ≠ [] → (tkA T i).text = (hdE T u i).label) ∧ ((hdE T u i).label = [] → ¬ (tkA T i).kind = 1)) := by
    intro u i hh
    cases u
    · have hh' : nmT (tkA T i) = true := hh
      simp only [nmT, Bool.and_eq_true, decide_eq_true_eq] at hh'
      exact ⟨tkA_kind (by decide) hh'.1, rfl, fun _ => rfl, fun hl => absurd hl (nm_ne hh'.2)⟩
    have hh' : (tkA T i).kind = 2 := hh
    exact ⟨tkA_kind (by decide) hh', rfl, fun hl => absurd rfl hl, fun _ => by omega⟩
  induction h with
  | @leaf deep i x kn hb hd hl =>
    refine ⟨by omega, hbT hb, fun hx => ?_⟩
    have hk := leafE_ok hl
    obtain ⟨h1, h2, h3⟩ := nd_at (y := (atE i x).lf kn.1 kn.2) hx rfl atE_label (fun h => by rcases hk with rfl | rfl | rfl | rfl | rfl | rfl <;> cases h)
    refine ⟨⟨by omega, by show _ + 1 ≤ _; omega⟩, fun y hy => ?_⟩
    rw [List.mem_singleton] at hy; rw [hy]; exact h3
  | @nm deep i x hb hd hl hv ho hu hs =>
    refine ⟨by omega, hbT hb, fun hx => ?_⟩
    obtain ⟨h1, h2, h3⟩ := nd_at (y := (atE i x).nm (tkA T i).text) hx rfl atE_label (fun h => rfl)
    refine ⟨⟨by omega, by show _ + 1 ≤ _; omega⟩, fun y hy => ?_⟩
    rw [List.mem_singleton] at hy; rw [hy]; exact h3
  | @vec deep i x N j hb hd hl hv h1 hN h2 h3 h4 ih =>
    obtain ⟨q1, q2, q3⟩ := ih
    refine ⟨by omega, isT_lt (by decide) h4, fun hx => ?_⟩
    obtain ⟨g1, g2, g3⟩ := nd_at (y := (atE i x).vec (decide ((tkA T i).text = [108, 105, 115, 116])) (tkA T (j + 1)).n) hx rfl atE_label (fun h => by simp only [Ex.vec] at h; split at h <;> cases h)
    obtain ⟨r1, r2⟩ := q3 (.inl ⟨by decide, rfl⟩)
    rw [if_pos (by decide)] at r1
    refine ⟨⟨by omega, (r1.lo (by omega)).hi (by omega)⟩, fun y hy => ?_⟩
    rcases List.mem_cons.1 hy with rfl | hy
    · exact g3
    exact r2 y hy
  | @opt deep i x N j hb hd hl ho h1 hN h2 ih =>
    obtain ⟨q1, q2, q3⟩ := ih
    refine ⟨by omega, isT_lt (by decide) h2, fun hx => ?_⟩
    obtain ⟨g1, g2, g3⟩ := nd_at (y := (atE i x).opt) hx rfl atE_label (fun h => by cases h)
    obtain ⟨r1, r2⟩ := q3 (.inl ⟨by decide, rfl⟩)
    rw [if_pos (by decide)] at r1
    refine ⟨⟨by omega, (r1.lo (by omega)).hi (by omega)⟩, fun y hy => ?_⟩
    rcases List.mem_cons.1 hy with rfl | hy
    · exact g3
    exact r2 y hy
  | @br deep i x u M n j hb hd hl hw h1 hM ih =>
    obtain ⟨q1, q2, r1, r2⟩ := ih
    refine ⟨by omega, q2, fun hx => ?_⟩
    obtain ⟨g1, g2, g3⟩ := nd_at (y := (atE i x).br u (n : Nat)) hx rfl atE_label (fun h => by cases u <;> cases h)
    refine ⟨⟨by omega, r1.lo (by omega)⟩, fun y hy => ?_⟩
    rcases List.mem_cons.1 hy with rfl | hy
    · exact g3
    exact r2 y hy
  | @last deep i u k N j hk hh hc hN hm hr ih =>
    obtain ⟨q1, q2, q3⟩ := ih
    obtain ⟨p1, p2, p3, p4⟩ := hd0 hh
    obtain ⟨r1, r2⟩ := q3 (.inr ⟨by omega, by omega, fun h => by rw [p2]; exact p3 h, fun h => by rw [p2]; exact p4 h⟩)
    rw [if_neg (by omega), p2] at r1
    exact ⟨by omega, isT_lt (by decide) hr, r1.hi (by omega), r2⟩
  | @more deep i u k N M j n e hk hh hc hN hm hR ih1 ih2 =>
    obtain ⟨q1, q2, q3⟩ := ih1
    obtain ⟨s1, s2, s3, s4⟩ := ih2
    obtain ⟨p1, p2, p3, p4⟩ := hd0 hh
    obtain ⟨r1, r2⟩ := q3 (.inr ⟨by omega, by omega, fun h => by rw [p2]; exact p3 h, fun h => by rw [p2]; exact p4 h⟩)
    rw [if_neg (by omega), p2] at r1
    refine ⟨by omega, s2, (r1.hi (by omega)).app s3, fun y hy => ?_⟩
    rcases List.mem_append.1 hy with hy | hy
    · exact r2 y hy
    exact s4 y hy
theorem expr_lt {T : List Tk} {f i : Nat} {x : Ex} {deep : Nat} {N : List Ex} {j : Nat} (h : exprT T f i x deep = .ok N j) : i < j ∧ j ≤ T.length := ⟨(px_rise (expr_px _ _ _ _ _ _ h)).1, (px_rise (expr_px _ _ _ _ _ _ h)).2.1⟩
theorem wantT_le {T : List Tk} {i k j : Nat} {s : List UInt8} {a : Unit} (hk : 1 ≤ k) (h : wantT T i k s = .ok a j) : j = i + 1 ∧ i < T.length := ⟨(wantT_ok h).2, isT_lt hk (wantT_ok h).1⟩
theorem headT_le {T : List Tk} {u full : Bool} {i j : Nat} {y : Ex} (h : headT T u full i { ex0 with at_ := i } = .ok y j) : j = i + 1 ∧ i < T.length := by
  obtain ⟨hh, -, rfl, -⟩ := headT_ok h
  refine ⟨rfl, ?_⟩
  cases u
  · have hh' : nmT (tkA T i) = true := hh
    simp only [nmT, Bool.and_eq_true, decide_eq_true_eq] at hh'
    exact tkA_kind (by decide) hh'.1
  exact tkA_kind (k := 2) (by decide) hh
end Go.Proofs.Ytpbflfgigfdohaa

set_option linter.unusedSimpArgs false
set_option linter.unusedVariables false
set_option maxRecDepth 100000
namespace Go.Proofs.Ytpbflfgigfdohaa
open Go Go.Vc Go.RowKit Go.Proofs

theorem tyD_at {D : List Df} {k : Nat} (hk : k < D.length) : tyD D k = D[k].ty := by simp [tyD, List.getD_eq_getElem?_getD, hk]
theorem getD_at {D : List Df} {k : Nat} (hk : k < D.length) : D.getD k df0 = D[k] := by simp [List.getD_eq_getElem?_getD, hk]
theorem DefR.atk {w : World} {D : List Df} {dv : Value} {V : Nat → Value} (h : DefR w D dv V) {k : Nat} (hk : k < D.length) : ∃ b o c, dv = .slice (some ⟨b, o, none⟩) D.length c ∧ Cells w b (o + k * 3) (dcell D[k] (V k)) ∧ Sl w 7 (V k) D[k].ty.length (exs D[k].ty) := by
  obtain ⟨b, o, c, h1, h2⟩ := h.at hk
  have h3 := h.tys k hk
  rw [getD_at hk] at h2
  rw [tyD_at hk] at h3
  exact ⟨b, o, c, h1, h2, h3⟩

end Go.Proofs.Ytpbflfgigfdohaa

set_option linter.unusedSimpArgs false
set_option linter.unusedVariables false
set_option maxRecDepth 100000
namespace Go.Proofs.Ytpbflfgigfdohaa
open Go Go.Vc Go.RowKit Go.Proofs

/-- one element less -/
def shr : Value → Value
  | .slice a n c => .slice a (n - 1) c
  | v => v
theorem shr_s {a : Option Addr} {n c : Nat} : shr (.slice a (n + 1) c) = .slice a n c := rfl
theorem shr_blk (v : Value) : (shr v).ownBlock = v.ownBlock := by
  cases v with
  | slice a n c => cases a <;> rfl
  | _ => rfl
theorem own_shr {w : World} {base : Nat} {el : TypeId} {s n : Nat} {v : Value} {xs ys : List Value} (h : w.ownsRow base el s v (n + 1) (xs ++ ys)) (hl : xs.length = n * s) : w.ownsRow base el s (shr v) n xs := by
  obtain ⟨g, cap, rfl, hb⟩ := own_some h (by omega)
  have := own_take h (m := n) (by omega)
  rw [List.take_left' hl] at this
  exact this
def exK : Ex := ⟨-77, 0, [], [], 0, 0, 0⟩
def markD : List Value := [st [109, 97, 114, 107], .int .i64 (-78), .slice none 0 0]
theorem drows_len (D : List Df) (V : Nat → Value) : (drows D V).length = D.length * 3 := by
  rw [drows]
  have : ∀ l : List Nat, (l.flatMap fun j => dcell (D.getD j df0) (V j)).length = l.length * 3 := by
    intro l
    induction l with
    | nil => rfl
    | cons a l ih => rw [List.flatMap_cons, List.length_append, ih, dcell_len, List.length_cons]; omega
  rw [this, List.length_range]
/-- sizes that a machine can hold -/
structure DOk (D : List Df) : Prop where
  len : D.length * 48 ≤ 140737488351232
  ty : ∀ d ∈ D, d.ty.length * 72 ≤ 140737488351232
  nm : ∀ d ∈ D, d.name.length ≤ 9223372036854775807
  ex : ∀ d ∈ D, ∀ x ∈ d.ty, x.name.length ≤ 9223372036854775807 ∧ x.label.length ≤ 9223372036854775807
theorem DOk.lim {D : List Df} (h : DOk D) : DLim D := fun d hd => ⟨h.nm d hd, by have := h.ty d hd; omega, h.ex d hd⟩
abbrev lenM (D : List Df) (j : Nat) : Nat := (tyD D j).length + 1
abbrev rowM (D : List Df) (j : Nat) : List Value := exs (tyD D j) ++ exV exK
/-- definitions in rows of our own, a mark behind each -/
structure Lent (w : World) (H : Nat) (D : List Df) (gv : Value) (W : Nat → Value) : Prop where
  row : w.ownsRow H 39 3 gv (D.length + 1) (drows D (fun j => shr (W j)) ++ markD)
  tys : Many w H 41 7 D.length W (lenM D) (rowM D)
theorem Lent.defs {w : World} {H : Nat} {D : List Df} {gv : Value} {W : Nat → Value} (h : Lent w H D gv W) : Defs w H D (shr gv) (fun j => shr (W j)) :=
  ⟨own_shr h.row (drows_len _ _), ⟨fun j hj => own_shr (h.tys.row j hj) (exs_len _), fun i j hi hj hij k hk => by rw [shr_blk] at hk ⊢; exact h.tys.off i j hi hj hij k hk⟩⟩
theorem Lent.only {w w' : World} {H : Nat} {D : List Df} {gv : Value} {W : Nat → Value} {F : Nat → Prop} (h : Lent w H D gv W) (ho : Only F w w') (hn : ∀ k, DF gv W D.length k → ¬ F k) : Lent w' H D gv W :=
  ⟨own_only h.row ho (fun k hk => hn k (.inl hk)), h.tys.only ho (fun j hj k hk => hn k (.inr ⟨j, hj, hk⟩))⟩
theorem Lent.ext {w w' : World} {H : Nat} {D : List Df} {gv : Value} {W : Nat → Value} (h : Lent w H D gv W) (ho : Ext w w') : Lent w' H D gv W := h.only ho (fun _ _ h => h)
theorem Lent.lt {w : World} {H : Nat} {D : List Df} {gv : Value} {W : Nat → Value} (h : Lent w H D gv W) : ∀ k, DF gv W D.length k → H ≤ k ∧ k < w.heap.size := fun k hk => by
  rcases hk with hk | ⟨j, hj, hk⟩
  · exact h.row.lt k hk
  exact h.tys.lt hj hk
end Go.Proofs.Ytpbflfgigfdohaa

set_option linter.unusedSimpArgs false
set_option linter.unusedVariables false
namespace Go.Vc
open Go Go.RowKit Go.ChangeShapes Go.WideShapes

theorem addr_add (a : Addr) (m k : Nat) : (a.add m).add k = a.add (m + k) := by
  unfold Addr.add
  by_cases hm : m = 0 <;> by_cases hk : k = 0 <;> simp [hm, hk, Nat.add_assoc]

theorem list_of {α : Type} (p : Nat → α → Prop) : ∀ n, (∀ i, i < n → ∃ o, p i o) → ∃ os : List α, os.length = n ∧ ∀ i (h : i < os.length), p i os[i]
  | 0, _ => ⟨[], rfl, fun i h => by simp at h⟩
  | n + 1, h => by
    obtain ⟨os, h1, h2⟩ := list_of p n (fun i hi => h i (by omega))
    obtain ⟨o, ho⟩ := h n (by omega)
    refine ⟨os ++ [o], by simp [h1], fun i hi => ?_⟩
    by_cases e : i < os.length
    · rw [List.getElem_append_left e]; exact h2 i e
    simp at hi
    have e2 : i = n := by omega
    subst e2
    rw [List.getElem_append_right (by omega)]
    simpa [h1] using ho
theorem flatMap_get {α : Type} {cells : α → List Value} {s : Nat} (hlen : ∀ o, (cells o).length = s) : ∀ (os : List α) (idx : Nat) (v : Value), (os.flatMap cells)[idx]? = some v → ∃ i j, ∃ h : i < os.length, idx = i * s + j ∧ (cells os[i])[j]? = some v
  | [], idx, v, h => by simp at h
  | o :: os, idx, v, h => by
    rw [List.flatMap_cons] at h
    by_cases e : idx < s
    · rw [List.getElem?_append_left (by rw [hlen]; exact e)] at h
      exact ⟨0, idx, by simp, by omega, h⟩
    rw [List.getElem?_append_right (by rw [hlen]; omega), hlen] at h
    obtain ⟨i, j, hi, h1, h2⟩ := flatMap_get hlen os (idx - s) v h
    refine ⟨i + 1, j, by simp; omega, ?_, by simpa using h2⟩
    rw [Nat.add_mul]; omega
theorem weightsAll_mem {H : Type} {P : Program} {e : TypeId} : ∀ {l : List (DataW H)} {d : DataW H} {n : Nat}, d ∈ l → n ∈ d.weights P e → n ∈ DataW.weightsAll P e l
  | d0 :: l, d, n, hd, hn => by
    simp only [DataW.weightsAll, List.mem_append]
    rcases List.mem_cons.1 hd with rfl | hd
    · exact .inl hn
    exact .inr (weightsAll_mem hd hn)
/-- its weights are within reach -/
def Small {H : Type} (P : Program) (t : TypeId) (d : DataW H) : Prop := ∀ n ∈ d.weights P t, n ≤ reachBytes
theorem Small.top {H : Type} {P : Program} {ts : List TypeId} {ds : List (DataW H)} {j : Nat} {t : TypeId} {d : DataW H} (h : (DataW.weightsEach P ts ds).all (· ≤ reachBytes) = true) (ht : ts[j]? = some t) (hd : ds[j]? = some d) : Small P t d := fun n hn => by
  have := List.all_eq_true.1 h _ (DataW.weights_mem_each ht hd n hn)
  simpa using this
theorem Small.elem {H : Type} {P : Program} {t e : TypeId} {elems spare : List (DataW H)} {d : DataW H} (h : Small P t (.slice elems spare)) (hu : P.underlying t = some (.slice e)) (hd : d ∈ elems) : Small P e d := fun n hn =>
  h n (by simp only [DataW.weights, hu]; exact List.mem_cons_of_mem _ (List.mem_append_left _ (weightsAll_mem hd hn)))
theorem Small.size {H : Type} {P : Program} {t e : TypeId} {elems spare : List (DataW H)} (h : Small P t (.slice elems spare)) (hu : P.underlying t = some (.slice e)) : (elems.length + spare.length) * P.bytesOf e ≤ reachBytes :=
  h _ (by simp only [DataW.weights, hu]; exact List.mem_cons_self ..)
theorem Small.part {H : Type} {P : Program} {t u : TypeId} {fs : Array Field} {parts : List (DataW H)} {i : Nat} {d : DataW H} (h : Small P t (.agg parts)) (hu : P.underlying t = some (.struct fs)) (hf : (fs.toList.map (·.type))[i]? = some u) (hd : parts[i]? = some d) : Small P u d := fun n hn =>
  h n (by simp only [DataW.weights, hu]; exact DataW.weights_mem_each hf hd n hn)
section
variable {H : Type} {enc : TypeId × Value → H} {P : Program} {W : World} {held : Bool}
/-- a slice of what is opened by 'hc' -/
theorem open_rows {α : Type} {t e : TypeId} (s : Nat) (cells : α → List Value) (p : α → Prop) (hu : P.underlying t = some (.slice e)) (hs : P.cellsOf e = s) (hs0 : 0 < s) (hlen : ∀ o, (cells o).length = s)
    (hc : ∀ (n : Nat) (cs : List Value) (y : DataW H × List MemPlace), DataW.trod enc P W 0 (fun _ => true) held n e cs = some y → Small P e y.1 → ∃ o, cs = cells o ∧ p o)
    {fuel : Nat} {v : Value} {x : DataW H × List MemPlace} (h : DataW.trod enc P W 0 (fun _ => true) held fuel t [v] = some x) (hz : Small P t x.1) :
    ∃ os : List α, os.length ≤ maxLen ∧ Sl W s v os.length (os.flatMap cells) ∧ ∀ o ∈ os, p o := by
  rcases DataW.trod_slice hu h with ⟨hcs, hd⟩ | ⟨a, len, cap, elems, rest, n, -, hcs, hx, -, hl, hm, hle, hel, -, -⟩
  · simp only [List.cons.injEq, and_true] at hcs
    subst hcs
    exact ⟨[], Nat.zero_le _, Sl.nil W s, fun o h => by cases h⟩
  simp only [List.cons.injEq, and_true] at hcs
  subst hcs
  subst hx
  have key : ∀ i, i < len → ∃ o : α, (∀ j v, (cells o)[j]? = some v → W.cell? (a.add (i * s + j)) = some v) ∧ p o := by
    intro i hi
    have he := hel i hi
    rw [List.getElem?_eq_getElem (by omega), hs, Option.bind_eq_some_iff] at he
    obtain ⟨cs, h1, h2⟩ := he
    obtain ⟨-, h4, h5⟩ := World.cells?_some h1
    obtain ⟨o, ho, hp⟩ := hc n cs _ h2 (hz.elem hu (List.mem_map.2 ⟨_, List.getElem_mem (by omega), rfl⟩))
    subst ho
    refine ⟨o, fun j v hj => ?_, hp⟩
    have hjs : j < s := by have := (List.getElem?_eq_some_iff.1 hj).1; rw [hlen] at this; exact this
    have := h5 j hjs
    rw [← hj, ← this, addr_add]
  obtain ⟨os, ho1, ho2⟩ := list_of _ len key
  refine ⟨os, by omega, ⟨?_, ?_⟩, fun o ho => ?_⟩
  · clear ho2 ho1
    induction os with
    | nil => simp
    | cons o os ih => rw [List.flatMap_cons, List.length_append, hlen, ih, List.length_cons, Nat.add_mul]; omega
  · by_cases h0 : len = 0
    · subst h0; exact .inl ⟨ho1, _, _, rfl⟩
    obtain ⟨b, off, spot⟩ := a
    have h00 := (ho2 0 (by omega)).1 0 ((cells (os[0]'(by omega)))[0]'(by rw [hlen]; exact hs0)) (List.getElem?_eq_getElem _)
    have hsp : spot = none := by simpa [Addr.add] using World.cell?_spot h00
    subst hsp
    refine .inr ⟨b, off, cap, by rw [ho1], by omega, fun idx u hu => ?_⟩
    obtain ⟨i, j, hi, h1, h2⟩ := flatMap_get hlen os idx u hu
    have h3 := (ho2 i hi).1 j u h2
    rw [h1, ← h3, add_none]
  obtain ⟨i, hi, rfl⟩ := List.getElem_of_mem ho
  exact (ho2 i hi).2
/-- a struct's field -/
theorem open_field {t u : TypeId} {fs : Array Field} {f : Field} (i off s : Nat) (hu : P.underlying t = some (.struct fs)) (hf : fs[i]? = some f) (ht : f.type = u) (ho : f.offset = off) (hs : P.cellsOf u = s) {fuel : Nat} {cs : List Value} {x : DataW H × List MemPlace}
    (h : DataW.trod enc P W 0 (fun _ => true) held fuel t cs = some x) (hz : Small P t x.1) : ∃ n y, DataW.trod enc P W 0 (fun _ => true) held n u ((cs.drop off).take s) = some y ∧ Small P u y.1 := by
  subst ht ho hs
  obtain ⟨xs, n, -, hx, -, hl, hall⟩ := DataW.trod_struct hu h
  have hi : i < fs.size := (Array.getElem?_eq_some_iff.1 hf).1
  have h1 := hall i f hf
  rw [List.getElem?_eq_getElem (by omega)] at h1
  refine ⟨n, _, h1, ?_⟩
  subst hx
  refine hz.part hu (i := i) ?_ ?_
  · rw [List.getElem?_map, Array.getElem?_toList, hf]; rfl
  rw [List.getElem?_map, List.getElem?_eq_getElem (by omega)]; rfl
theorem open_struct_len {t : TypeId} {fs : Array Field} {s : Nat} (hu : P.underlying t = some (.struct fs)) (hs : P.cellsOf t = s) {fuel : Nat} {cs : List Value} {x : DataW H × List MemPlace} (h : DataW.trod enc P W 0 (fun _ => true) held fuel t cs = some x) : cs.length = s := by
  obtain ⟨xs, n, -, -, h1, -⟩ := DataW.trod_struct hu h
  rw [h1, hs]
end
end Go.Vc

set_option linter.unusedSimpArgs false
set_option linter.unusedVariables false
set_option maxRecDepth 100000
namespace Go.Proofs.Ytpbflfgigfdohaa
open Go Go.Vc Go.RowKit Go.Proofs

theorem rows_bytes {H : Type} {enc : TypeId × Value → H} {P : Program} {W : World} {held : Bool} {t e : TypeId} (hu : P.underlying t = some (.slice e)) {fuel : Nat} {a : Option Addr} {n c : Nat} {x : DataW H × List MemPlace}
    (h : DataW.trod enc P W 0 (fun _ => true) held fuel t [.slice a n c] = some x) (hz : Small P t x.1) : n * P.bytesOf e ≤ reachBytes := by
  rcases DataW.trod_slice hu h with ⟨hcs, hd⟩ | ⟨a', len, cap, elems, rest, k, -, hcs, hx, -, hl, hm, hle, hel, -, -⟩
  · simp only [List.cons.injEq, and_true, Value.slice.injEq] at hcs
    rw [hcs.2.1, Nat.zero_mul]
    exact Nat.zero_le _
  simp only [List.cons.injEq, and_true, Value.slice.injEq] at hcs
  subst hx
  have h1 := hz.size hu
  simp only [List.length_map, List.length_take, List.length_drop] at h1
  obtain ⟨-, rfl, -⟩ := hcs
  refine Nat.le_trans (Nat.mul_le_mul_right _ ?_) h1
  omega
theorem three_cells {cs : List Value} (h : cs.length = 3) : ∃ a b c, cs = [a, b, c] := by
  match cs, h with
  | [a, b, c], _ => exact ⟨a, b, c, rfl⟩
theorem str_list {s : ByteArray} : Value.string s = st s.data.toList := by
  cases s; simp [st]
theorem size_list {s : ByteArray} (h : s.size ≤ maxLen) : s.data.toList.length ≤ 9223372036854775807 := by
  rw [maxLen_eq] at h; simpa using h
def ExOk (x : Ex) : Prop := x.name.length ≤ 9223372036854775807 ∧ x.label.length ≤ 9223372036854775807
section
variable {H : Type} {enc : TypeId × Value → H} {W : World} {held : Bool}
end
def setE (D : List Df) (d n : Nat) (x : Ex) : List Df := D.set d { D.getD d df0 with ty := (tyD D d).set n x }
theorem setE_len (D : List Df) (d n : Nat) (x : Ex) : (setE D d n x).length = D.length := by rw [setE, List.length_set]
theorem setE_at {D : List Df} {d n : Nat} {x : Ex} (j : Nat) : (setE D d n x).getD j df0 = if j = d ∧ d < D.length then { D.getD d df0 with ty := (tyD D d).set n x } else D.getD j df0 := by
  rw [setE, List.getD_eq_getElem?_getD, List.getElem?_set]
  by_cases h : d = j
  · subst h
    by_cases h2 : d < D.length
    · simp [h2]
    simp [h2, List.getD_eq_getElem?_getD]
  rw [if_neg h, if_neg (fun hh => h hh.1.symm), List.getD_eq_getElem?_getD]
theorem Defs.setE {w w' : World} {H : Nat} {D : List Df} {lv : Value} {V : Nat → Value} (h : Defs w H D lv V) {d n : Nat} {x : Ex} (hd : d < D.length) (ho : Only (fun k => (V d).ownBlock = some k) w w')
    (hr : w'.ownsRow H 41 7 (V d) (tyD D d).length (exs ((tyD D d).set n x))) : Defs w' H (setE D d n x) lv V := by
  have hrows : drows (Go.Proofs.Ytpbflfgigfdohaa.setE D d n x) V = drows D V := by
    rw [drows, drows, setE_len]
    refine dfm_congr fun j hj => ?_
    rw [setE_at]
    split
    · rename_i hh; rw [hh.1]; rfl
    rfl
  refine ⟨by rw [hrows, setE_len]; exact own_only h.row ho (fun k hk hF => own_row_off h.row (h.tys.row d hd) (by decide) k hF hk), ?_⟩
  rw [setE_len]
  refine (h.tys.set hd ho hr).congr (fun _ _ => rfl) (fun j hj => ?_) (fun j hj => ?_)
  · rw [tyD, setE_at]
    by_cases e : j = d
    · rw [if_pos ⟨e, hd⟩, if_pos e, List.length_set]
    rw [if_neg (fun hh => e hh.1), if_neg e]; rfl
  rw [tyD, setE_at]
  by_cases e : j = d
  · rw [if_pos ⟨e, hd⟩, if_pos e]
  rw [if_neg (fun hh => e hh.1), if_neg e]; rfl
theorem DOk.setE {D : List Df} {d n : Nat} {x : Ex} (h : DOk D) (hx : ExOk x) : DOk (setE D d n x) := by
  have hm : ∀ e ∈ Go.Proofs.Ytpbflfgigfdohaa.setE D d n x, e ∈ D ∨ (d < D.length ∧ e = { D.getD d df0 with ty := (tyD D d).set n x }) := by
    intro e he
    by_cases hd : d < D.length
    · rcases List.mem_or_eq_of_mem_set he with h1 | h1
      · exact .inl h1
      exact .inr ⟨hd, h1⟩
    rw [Go.Proofs.Ytpbflfgigfdohaa.setE, List.set_eq_of_length_le (by omega)] at he
    exact .inl he
  have hmem : d < D.length → D.getD d df0 ∈ D := fun hd => by rw [getD_at hd]; exact List.getElem_mem hd
  refine ⟨by rw [setE_len]; exact h.len, fun e he => ?_, fun e he => ?_, fun e he y hy => ?_⟩
  · rcases hm e he with h1 | ⟨hd, rfl⟩
    · exact h.ty e h1
    show ((tyD D d).set n x).length * 72 ≤ _
    rw [List.length_set]; exact h.ty _ (hmem hd)
  · rcases hm e he with h1 | ⟨hd, rfl⟩
    · exact h.nm e h1
    exact h.nm (D.getD d df0) (hmem hd)
  rcases hm e he with h1 | ⟨hd, rfl⟩
  · exact h.ex e h1 y hy
  rcases List.mem_or_eq_of_mem_set hy with h2 | rfl
  · exact h.ex (D.getD d df0) (hmem hd) y h2
  exact hx

end Go.Proofs.Ytpbflfgigfdohaa

set_option linter.unusedSimpArgs false
set_option linter.unusedVariables false
set_option maxRecDepth 100000
namespace Go.Proofs.Ytpbflfgigfdohaa
open Go Go.Vc Go.RowKit Go.Proofs

/-- definitions whose places rise -/
def RiD (T : List Tk) : Int → List Df → Prop
  | _, [] => True
  | lo, d :: ds => lo ≤ d.at_ ∧ 0 ≤ d.at_ ∧ d.at_ < T.length ∧ (tkA T d.at_.toNat).kind = 1 ∧ (tkA T d.at_.toNat).text = d.name ∧ (∃ hi : Int, hi ≤ T.length ∧ Rise (d.at_ + 1) d.ty hi ∧ RiD T hi ds) ∧ ∀ y ∈ d.ty, NdOk T y
theorem RiD.lo {T : List Tk} {a b : Int} {D : List Df} (h : RiD T b D) (hab : a ≤ b) : RiD T a D := by
  cases D with
  | nil => trivial
  | cons d ds => exact ⟨Int.le_trans hab h.1, h.2⟩
/-- lengths -/
theorem Rise.len {L : List Ex} : ∀ {a b : Int}, Rise a L b → (L.length : Int) ≤ b - a := by
  induction L with
  | nil => intro a b h; have : a ≤ b := h; simp; omega
  | cons y l ih => intro a b h; have h1 := ih h.2; have h2 := h.1; rw [List.length_cons]; omega
end Go.Proofs.Ytpbflfgigfdohaa
