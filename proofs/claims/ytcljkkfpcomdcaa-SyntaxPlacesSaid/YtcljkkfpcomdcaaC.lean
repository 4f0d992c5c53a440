/-
  Walks. Written by program out of specs of mine.
-/
import Derived.Test.YtcljkkfpcomdcaaB
import Derived.Test.YtcljkkfpcomdcaaBook
set_option linter.unusedSimpArgs false
set_option linter.unusedVariables false
set_option maxRecDepth 100000
namespace Go.Proofs.Ytcljkkfpcomdcaa
open Go Go.Vc Go.RowKit Go.Proofs

def hdB (xs : List UInt8) : Bool := decide (xs = []) || decide (32 < xs.length) || !(xs.head?.any letB) || wordB xs
theorem nameB_hd (xs : List UInt8) : nameB xs = (!hdB xs && xs.all goeB) := by
  rw [Bool.eq_iff_iff]
  simp [nameB, hdB]
  constructor
  · rintro ⟨⟨⟨⟨h1, h2⟩, h3⟩, h4⟩, h5⟩; exact ⟨⟨⟨⟨h1, h2⟩, h3⟩, h5⟩, h4⟩
  · rintro ⟨⟨⟨⟨h1, h2⟩, h3⟩, h5⟩, h4⟩; exact ⟨⟨⟨⟨h1, h2⟩, h3⟩, h4⟩, h5⟩
theorem all_bad {p : UInt8 → Bool} {xs : List UInt8} {k : Nat} (hk : k < xs.length) (hp : p xs[k] = false) : xs.all p = false :=
  List.all_eq_false.2 ⟨xs[k], List.getElem_mem hk, by simp [hp]⟩
theorem all_more {p : UInt8 → Bool} {xs : List UInt8} {k : Nat} (hk : k < xs.length) (hp : p xs[k] = true) (h : (xs.take k).all p = true) : (xs.take (k + 1)).all p = true := by
  rw [List.take_succ_eq_append_getElem hk, List.all_append, h]; simp [hp]

theorem rword_spec (xs : List UInt8) (w0 : World) : Ca Try.prog 50 #[st xs] w0 (fun v w' => v = .bool (wordB xs) ∧ w' = w0) := by
  refine Ca.of Try.func50 Try.ntmps50 rfl rfl ?_
  refine W.seq ?_
  refine W.region ?_
  refine WL.c rfl (o_as ?_)
  refine WL.nil ?_
  refine W.seq ?_
  refine W.seq ?_
  refine W.region ?_
  refine WL.c rfl (o_mv ?_)
  refine WL.nil ?_
  refine W.block ?_
  refine W.seq ?_
  refine W.seq ?_
  refine W.region ?_
  refine WL.c rfl (o_eqT rfl rfl ?_)
  refine WL.c rfl (o_as ?_)
  refine WL.nil ?_
  refine W.cond rfl (fun c4 => ?_) (fun c4 => ?_)
  · try simp only [decide_eq_true_eq, decide_eq_false_iff_not, Bool.not_eq_true', Bool.not_eq_false', Bool.and_eq_true, Bool.or_eq_true, Bool.and_eq_false_iff, Bool.or_eq_false_iff] at c4
    refine W.skip ?_
    refine W.cond rfl (fun c4 => ?_) (fun c4 => ?_)
    · try simp only [decide_eq_true_eq, decide_eq_false_iff_not, Bool.not_eq_true', Bool.not_eq_false', Bool.and_eq_true, Bool.or_eq_true, Bool.and_eq_false_iff, Bool.or_eq_false_iff] at c4
      refine W.seq ?_
      refine W.region ?_
      refine WL.c rfl (o_as ?_)
      refine WL.nil ?_
      refine W.ret ?_
      refine ret1v rfl (show _ = Value.bool _ from rfl) ?_
      exact ⟨congrArg Value.bool (by simp_all [wordB, words]), rfl⟩
    · try simp only [decide_eq_true_eq, decide_eq_false_iff_not, Bool.not_eq_true', Bool.not_eq_false', Bool.and_eq_true, Bool.or_eq_true, Bool.and_eq_false_iff, Bool.or_eq_false_iff] at c4
      refine W.skip ?_
      refine W.seq ?_
      refine W.region ?_
      refine WL.c rfl (o_as ?_)
      refine WL.nil ?_
      refine W.ret ?_
      refine ret1v rfl (show _ = Value.bool _ from rfl) ?_
      exact ⟨congrArg Value.bool (by simp_all [wordB, words]), rfl⟩
  · try simp only [decide_eq_true_eq, decide_eq_false_iff_not, Bool.not_eq_true', Bool.not_eq_false', Bool.and_eq_true, Bool.or_eq_true, Bool.and_eq_false_iff, Bool.or_eq_false_iff] at c4
    refine W.seq ?_
    refine W.region ?_
    refine WL.c rfl (o_eqT rfl rfl ?_)
    refine WL.c rfl (o_as ?_)
    refine WL.nil ?_
    refine W.cond rfl (fun c4 => ?_) (fun c4 => ?_)
    · try simp only [decide_eq_true_eq, decide_eq_false_iff_not, Bool.not_eq_true', Bool.not_eq_false', Bool.and_eq_true, Bool.or_eq_true, Bool.and_eq_false_iff, Bool.or_eq_false_iff] at c4
      refine W.skip ?_
      refine W.cond rfl (fun c4 => ?_) (fun c4 => ?_)
      · try simp only [decide_eq_true_eq, decide_eq_false_iff_not, Bool.not_eq_true', Bool.not_eq_false', Bool.and_eq_true, Bool.or_eq_true, Bool.and_eq_false_iff, Bool.or_eq_false_iff] at c4
        refine W.seq ?_
        refine W.region ?_
        refine WL.c rfl (o_as ?_)
        refine WL.nil ?_
        refine W.ret ?_
        refine ret1v rfl (show _ = Value.bool _ from rfl) ?_
        exact ⟨congrArg Value.bool (by simp_all [wordB, words]), rfl⟩
      · try simp only [decide_eq_true_eq, decide_eq_false_iff_not, Bool.not_eq_true', Bool.not_eq_false', Bool.and_eq_true, Bool.or_eq_true, Bool.and_eq_false_iff, Bool.or_eq_false_iff] at c4
        refine W.skip ?_
        refine W.seq ?_
        refine W.region ?_
        refine WL.c rfl (o_as ?_)
        refine WL.nil ?_
        refine W.ret ?_
        refine ret1v rfl (show _ = Value.bool _ from rfl) ?_
        exact ⟨congrArg Value.bool (by simp_all [wordB, words]), rfl⟩
    · try simp only [decide_eq_true_eq, decide_eq_false_iff_not, Bool.not_eq_true', Bool.not_eq_false', Bool.and_eq_true, Bool.or_eq_true, Bool.and_eq_false_iff, Bool.or_eq_false_iff] at c4
      refine W.seq ?_
      refine W.region ?_
      refine WL.c rfl (o_eqT rfl rfl ?_)
      refine WL.c rfl (o_as ?_)
      refine WL.nil ?_
      refine W.cond rfl (fun c4 => ?_) (fun c4 => ?_)
      · try simp only [decide_eq_true_eq, decide_eq_false_iff_not, Bool.not_eq_true', Bool.not_eq_false', Bool.and_eq_true, Bool.or_eq_true, Bool.and_eq_false_iff, Bool.or_eq_false_iff] at c4
        refine W.skip ?_
        refine W.cond rfl (fun c4 => ?_) (fun c4 => ?_)
        · try simp only [decide_eq_true_eq, decide_eq_false_iff_not, Bool.not_eq_true', Bool.not_eq_false', Bool.and_eq_true, Bool.or_eq_true, Bool.and_eq_false_iff, Bool.or_eq_false_iff] at c4
          refine W.seq ?_
          refine W.region ?_
          refine WL.c rfl (o_as ?_)
          refine WL.nil ?_
          refine W.ret ?_
          refine ret1v rfl (show _ = Value.bool _ from rfl) ?_
          exact ⟨congrArg Value.bool (by simp_all [wordB, words]), rfl⟩
        · try simp only [decide_eq_true_eq, decide_eq_false_iff_not, Bool.not_eq_true', Bool.not_eq_false', Bool.and_eq_true, Bool.or_eq_true, Bool.and_eq_false_iff, Bool.or_eq_false_iff] at c4
          refine W.skip ?_
          refine W.seq ?_
          refine W.region ?_
          refine WL.c rfl (o_as ?_)
          refine WL.nil ?_
          refine W.ret ?_
          refine ret1v rfl (show _ = Value.bool _ from rfl) ?_
          exact ⟨congrArg Value.bool (by simp_all [wordB, words]), rfl⟩
      · try simp only [decide_eq_true_eq, decide_eq_false_iff_not, Bool.not_eq_true', Bool.not_eq_false', Bool.and_eq_true, Bool.or_eq_true, Bool.and_eq_false_iff, Bool.or_eq_false_iff] at c4
        refine W.seq ?_
        refine W.region ?_
        refine WL.c rfl (o_eqT rfl rfl ?_)
        refine WL.c rfl (o_as ?_)
        refine WL.nil ?_
        refine W.cond rfl (fun c4 => ?_) (fun c4 => ?_)
        · try simp only [decide_eq_true_eq, decide_eq_false_iff_not, Bool.not_eq_true', Bool.not_eq_false', Bool.and_eq_true, Bool.or_eq_true, Bool.and_eq_false_iff, Bool.or_eq_false_iff] at c4
          refine W.skip ?_
          refine W.cond rfl (fun c4 => ?_) (fun c4 => ?_)
          · try simp only [decide_eq_true_eq, decide_eq_false_iff_not, Bool.not_eq_true', Bool.not_eq_false', Bool.and_eq_true, Bool.or_eq_true, Bool.and_eq_false_iff, Bool.or_eq_false_iff] at c4
            refine W.seq ?_
            refine W.region ?_
            refine WL.c rfl (o_as ?_)
            refine WL.nil ?_
            refine W.ret ?_
            refine ret1v rfl (show _ = Value.bool _ from rfl) ?_
            exact ⟨congrArg Value.bool (by simp_all [wordB, words]), rfl⟩
          · try simp only [decide_eq_true_eq, decide_eq_false_iff_not, Bool.not_eq_true', Bool.not_eq_false', Bool.and_eq_true, Bool.or_eq_true, Bool.and_eq_false_iff, Bool.or_eq_false_iff] at c4
            refine W.skip ?_
            refine W.seq ?_
            refine W.region ?_
            refine WL.c rfl (o_as ?_)
            refine WL.nil ?_
            refine W.ret ?_
            refine ret1v rfl (show _ = Value.bool _ from rfl) ?_
            exact ⟨congrArg Value.bool (by simp_all [wordB, words]), rfl⟩
        · try simp only [decide_eq_true_eq, decide_eq_false_iff_not, Bool.not_eq_true', Bool.not_eq_false', Bool.and_eq_true, Bool.or_eq_true, Bool.and_eq_false_iff, Bool.or_eq_false_iff] at c4
          refine W.seq ?_
          refine W.region ?_
          refine WL.c rfl (o_eqT rfl rfl ?_)
          refine WL.c rfl (o_as ?_)
          refine WL.nil ?_
          refine W.cond rfl (fun c4 => ?_) (fun c4 => ?_)
          · try simp only [decide_eq_true_eq, decide_eq_false_iff_not, Bool.not_eq_true', Bool.not_eq_false', Bool.and_eq_true, Bool.or_eq_true, Bool.and_eq_false_iff, Bool.or_eq_false_iff] at c4
            refine W.skip ?_
            refine W.cond rfl (fun c4 => ?_) (fun c4 => ?_)
            · try simp only [decide_eq_true_eq, decide_eq_false_iff_not, Bool.not_eq_true', Bool.not_eq_false', Bool.and_eq_true, Bool.or_eq_true, Bool.and_eq_false_iff, Bool.or_eq_false_iff] at c4
              refine W.seq ?_
              refine W.region ?_
              refine WL.c rfl (o_as ?_)
              refine WL.nil ?_
              refine W.ret ?_
              refine ret1v rfl (show _ = Value.bool _ from rfl) ?_
              exact ⟨congrArg Value.bool (by simp_all [wordB, words]), rfl⟩
            · try simp only [decide_eq_true_eq, decide_eq_false_iff_not, Bool.not_eq_true', Bool.not_eq_false', Bool.and_eq_true, Bool.or_eq_true, Bool.and_eq_false_iff, Bool.or_eq_false_iff] at c4
              refine W.skip ?_
              refine W.seq ?_
              refine W.region ?_
              refine WL.c rfl (o_as ?_)
              refine WL.nil ?_
              refine W.ret ?_
              refine ret1v rfl (show _ = Value.bool _ from rfl) ?_
              exact ⟨congrArg Value.bool (by simp_all [wordB, words]), rfl⟩
          · try simp only [decide_eq_true_eq, decide_eq_false_iff_not, Bool.not_eq_true', Bool.not_eq_false', Bool.and_eq_true, Bool.or_eq_true, Bool.and_eq_false_iff, Bool.or_eq_false_iff] at c4
            refine W.seq ?_
            refine W.region ?_
            refine WL.c rfl (o_eqT rfl rfl ?_)
            refine WL.c rfl (o_as ?_)
            refine WL.nil ?_
            refine W.cond rfl (fun c4 => ?_) (fun c4 => ?_)
            · try simp only [decide_eq_true_eq, decide_eq_false_iff_not, Bool.not_eq_true', Bool.not_eq_false', Bool.and_eq_true, Bool.or_eq_true, Bool.and_eq_false_iff, Bool.or_eq_false_iff] at c4
              refine W.skip ?_
              refine W.cond rfl (fun c4 => ?_) (fun c4 => ?_)
              · try simp only [decide_eq_true_eq, decide_eq_false_iff_not, Bool.not_eq_true', Bool.not_eq_false', Bool.and_eq_true, Bool.or_eq_true, Bool.and_eq_false_iff, Bool.or_eq_false_iff] at c4
                refine W.seq ?_
                refine W.region ?_
                refine WL.c rfl (o_as ?_)
                refine WL.nil ?_
                refine W.ret ?_
                refine ret1v rfl (show _ = Value.bool _ from rfl) ?_
                exact ⟨congrArg Value.bool (by simp_all [wordB, words]), rfl⟩
              · try simp only [decide_eq_true_eq, decide_eq_false_iff_not, Bool.not_eq_true', Bool.not_eq_false', Bool.and_eq_true, Bool.or_eq_true, Bool.and_eq_false_iff, Bool.or_eq_false_iff] at c4
                refine W.skip ?_
                refine W.seq ?_
                refine W.region ?_
                refine WL.c rfl (o_as ?_)
                refine WL.nil ?_
                refine W.ret ?_
                refine ret1v rfl (show _ = Value.bool _ from rfl) ?_
                exact ⟨congrArg Value.bool (by simp_all [wordB, words]), rfl⟩
            · try simp only [decide_eq_true_eq, decide_eq_false_iff_not, Bool.not_eq_true', Bool.not_eq_false', Bool.and_eq_true, Bool.or_eq_true, Bool.and_eq_false_iff, Bool.or_eq_false_iff] at c4
              refine W.seq ?_
              refine W.region ?_
              refine WL.c rfl (o_eqT rfl rfl ?_)
              refine WL.c rfl (o_as ?_)
              refine WL.nil ?_
              refine W.cond rfl (fun c4 => ?_) (fun c4 => ?_)
              · try simp only [decide_eq_true_eq, decide_eq_false_iff_not, Bool.not_eq_true', Bool.not_eq_false', Bool.and_eq_true, Bool.or_eq_true, Bool.and_eq_false_iff, Bool.or_eq_false_iff] at c4
                refine W.skip ?_
                refine W.cond rfl (fun c4 => ?_) (fun c4 => ?_)
                · try simp only [decide_eq_true_eq, decide_eq_false_iff_not, Bool.not_eq_true', Bool.not_eq_false', Bool.and_eq_true, Bool.or_eq_true, Bool.and_eq_false_iff, Bool.or_eq_false_iff] at c4
                  refine W.seq ?_
                  refine W.region ?_
                  refine WL.c rfl (o_as ?_)
                  refine WL.nil ?_
                  refine W.ret ?_
                  refine ret1v rfl (show _ = Value.bool _ from rfl) ?_
                  exact ⟨congrArg Value.bool (by simp_all [wordB, words]), rfl⟩
                · try simp only [decide_eq_true_eq, decide_eq_false_iff_not, Bool.not_eq_true', Bool.not_eq_false', Bool.and_eq_true, Bool.or_eq_true, Bool.and_eq_false_iff, Bool.or_eq_false_iff] at c4
                  refine W.skip ?_
                  refine W.seq ?_
                  refine W.region ?_
                  refine WL.c rfl (o_as ?_)
                  refine WL.nil ?_
                  refine W.ret ?_
                  refine ret1v rfl (show _ = Value.bool _ from rfl) ?_
                  exact ⟨congrArg Value.bool (by simp_all [wordB, words]), rfl⟩
              · try simp only [decide_eq_true_eq, decide_eq_false_iff_not, Bool.not_eq_true', Bool.not_eq_false', Bool.and_eq_true, Bool.or_eq_true, Bool.and_eq_false_iff, Bool.or_eq_false_iff] at c4
                refine W.seq ?_
                refine W.region ?_
                refine WL.c rfl (o_eqT rfl rfl ?_)
                refine WL.c rfl (o_as ?_)
                refine WL.nil ?_
                refine W.cond rfl (fun c4 => ?_) (fun c4 => ?_)
                · try simp only [decide_eq_true_eq, decide_eq_false_iff_not, Bool.not_eq_true', Bool.not_eq_false', Bool.and_eq_true, Bool.or_eq_true, Bool.and_eq_false_iff, Bool.or_eq_false_iff] at c4
                  refine W.skip ?_
                  refine W.cond rfl (fun c4 => ?_) (fun c4 => ?_)
                  · try simp only [decide_eq_true_eq, decide_eq_false_iff_not, Bool.not_eq_true', Bool.not_eq_false', Bool.and_eq_true, Bool.or_eq_true, Bool.and_eq_false_iff, Bool.or_eq_false_iff] at c4
                    refine W.seq ?_
                    refine W.region ?_
                    refine WL.c rfl (o_as ?_)
                    refine WL.nil ?_
                    refine W.ret ?_
                    refine ret1v rfl (show _ = Value.bool _ from rfl) ?_
                    exact ⟨congrArg Value.bool (by simp_all [wordB, words]), rfl⟩
                  · try simp only [decide_eq_true_eq, decide_eq_false_iff_not, Bool.not_eq_true', Bool.not_eq_false', Bool.and_eq_true, Bool.or_eq_true, Bool.and_eq_false_iff, Bool.or_eq_false_iff] at c4
                    refine W.skip ?_
                    refine W.seq ?_
                    refine W.region ?_
                    refine WL.c rfl (o_as ?_)
                    refine WL.nil ?_
                    refine W.ret ?_
                    refine ret1v rfl (show _ = Value.bool _ from rfl) ?_
                    exact ⟨congrArg Value.bool (by simp_all [wordB, words]), rfl⟩
                · try simp only [decide_eq_true_eq, decide_eq_false_iff_not, Bool.not_eq_true', Bool.not_eq_false', Bool.and_eq_true, Bool.or_eq_true, Bool.and_eq_false_iff, Bool.or_eq_false_iff] at c4
                  refine W.seq ?_
                  refine W.region ?_
                  refine WL.c rfl (o_eqT rfl rfl ?_)
                  refine WL.c rfl (o_as ?_)
                  refine WL.nil ?_
                  refine W.cond rfl (fun c4 => ?_) (fun c4 => ?_)
                  · try simp only [decide_eq_true_eq, decide_eq_false_iff_not, Bool.not_eq_true', Bool.not_eq_false', Bool.and_eq_true, Bool.or_eq_true, Bool.and_eq_false_iff, Bool.or_eq_false_iff] at c4
                    refine W.skip ?_
                    refine W.cond rfl (fun c4 => ?_) (fun c4 => ?_)
                    · try simp only [decide_eq_true_eq, decide_eq_false_iff_not, Bool.not_eq_true', Bool.not_eq_false', Bool.and_eq_true, Bool.or_eq_true, Bool.and_eq_false_iff, Bool.or_eq_false_iff] at c4
                      refine W.seq ?_
                      refine W.region ?_
                      refine WL.c rfl (o_as ?_)
                      refine WL.nil ?_
                      refine W.ret ?_
                      refine ret1v rfl (show _ = Value.bool _ from rfl) ?_
                      exact ⟨congrArg Value.bool (by simp_all [wordB, words]), rfl⟩
                    · try simp only [decide_eq_true_eq, decide_eq_false_iff_not, Bool.not_eq_true', Bool.not_eq_false', Bool.and_eq_true, Bool.or_eq_true, Bool.and_eq_false_iff, Bool.or_eq_false_iff] at c4
                      refine W.skip ?_
                      refine W.seq ?_
                      refine W.region ?_
                      refine WL.c rfl (o_as ?_)
                      refine WL.nil ?_
                      refine W.ret ?_
                      refine ret1v rfl (show _ = Value.bool _ from rfl) ?_
                      exact ⟨congrArg Value.bool (by simp_all [wordB, words]), rfl⟩
                  · try simp only [decide_eq_true_eq, decide_eq_false_iff_not, Bool.not_eq_true', Bool.not_eq_false', Bool.and_eq_true, Bool.or_eq_true, Bool.and_eq_false_iff, Bool.or_eq_false_iff] at c4
                    refine W.seq ?_
                    refine W.region ?_
                    refine WL.c rfl (o_eqT rfl rfl ?_)
                    refine WL.c rfl (o_as ?_)
                    refine WL.nil ?_
                    refine W.cond rfl (fun c4 => ?_) (fun c4 => ?_)
                    · try simp only [decide_eq_true_eq, decide_eq_false_iff_not, Bool.not_eq_true', Bool.not_eq_false', Bool.and_eq_true, Bool.or_eq_true, Bool.and_eq_false_iff, Bool.or_eq_false_iff] at c4
                      refine W.skip ?_
                      refine W.cond rfl (fun c4 => ?_) (fun c4 => ?_)
                      · try simp only [decide_eq_true_eq, decide_eq_false_iff_not, Bool.not_eq_true', Bool.not_eq_false', Bool.and_eq_true, Bool.or_eq_true, Bool.and_eq_false_iff, Bool.or_eq_false_iff] at c4
                        refine W.seq ?_
                        refine W.region ?_
                        refine WL.c rfl (o_as ?_)
                        refine WL.nil ?_
                        refine W.ret ?_
                        refine ret1v rfl (show _ = Value.bool _ from rfl) ?_
                        exact ⟨congrArg Value.bool (by simp_all [wordB, words]), rfl⟩
                      · try simp only [decide_eq_true_eq, decide_eq_false_iff_not, Bool.not_eq_true', Bool.not_eq_false', Bool.and_eq_true, Bool.or_eq_true, Bool.and_eq_false_iff, Bool.or_eq_false_iff] at c4
                        refine W.skip ?_
                        refine W.seq ?_
                        refine W.region ?_
                        refine WL.c rfl (o_as ?_)
                        refine WL.nil ?_
                        refine W.ret ?_
                        refine ret1v rfl (show _ = Value.bool _ from rfl) ?_
                        exact ⟨congrArg Value.bool (by simp_all [wordB, words]), rfl⟩
                    · try simp only [decide_eq_true_eq, decide_eq_false_iff_not, Bool.not_eq_true', Bool.not_eq_false', Bool.and_eq_true, Bool.or_eq_true, Bool.and_eq_false_iff, Bool.or_eq_false_iff] at c4
                      refine W.seq ?_
                      refine W.region ?_
                      refine WL.c rfl (o_eqT rfl rfl ?_)
                      refine WL.c rfl (o_as ?_)
                      refine WL.nil ?_
                      refine W.cond rfl (fun c4 => ?_) (fun c4 => ?_)
                      · try simp only [decide_eq_true_eq, decide_eq_false_iff_not, Bool.not_eq_true', Bool.not_eq_false', Bool.and_eq_true, Bool.or_eq_true, Bool.and_eq_false_iff, Bool.or_eq_false_iff] at c4
                        refine W.skip ?_
                        refine W.cond rfl (fun c4 => ?_) (fun c4 => ?_)
                        · try simp only [decide_eq_true_eq, decide_eq_false_iff_not, Bool.not_eq_true', Bool.not_eq_false', Bool.and_eq_true, Bool.or_eq_true, Bool.and_eq_false_iff, Bool.or_eq_false_iff] at c4
                          refine W.seq ?_
                          refine W.region ?_
                          refine WL.c rfl (o_as ?_)
                          refine WL.nil ?_
                          refine W.ret ?_
                          refine ret1v rfl (show _ = Value.bool _ from rfl) ?_
                          exact ⟨congrArg Value.bool (by simp_all [wordB, words]), rfl⟩
                        · try simp only [decide_eq_true_eq, decide_eq_false_iff_not, Bool.not_eq_true', Bool.not_eq_false', Bool.and_eq_true, Bool.or_eq_true, Bool.and_eq_false_iff, Bool.or_eq_false_iff] at c4
                          refine W.skip ?_
                          refine W.seq ?_
                          refine W.region ?_
                          refine WL.c rfl (o_as ?_)
                          refine WL.nil ?_
                          refine W.ret ?_
                          refine ret1v rfl (show _ = Value.bool _ from rfl) ?_
                          exact ⟨congrArg Value.bool (by simp_all [wordB, words]), rfl⟩
                      · try simp only [decide_eq_true_eq, decide_eq_false_iff_not, Bool.not_eq_true', Bool.not_eq_false', Bool.and_eq_true, Bool.or_eq_true, Bool.and_eq_false_iff, Bool.or_eq_false_iff] at c4
                        refine W.region ?_
                        refine WL.c rfl (o_eqT rfl rfl ?_)
                        refine WL.c rfl (o_as ?_)
                        refine WL.nil ?_
                        refine W.cond rfl (fun c4 => ?_) (fun c4 => ?_)
                        · try simp only [decide_eq_true_eq, decide_eq_false_iff_not, Bool.not_eq_true', Bool.not_eq_false', Bool.and_eq_true, Bool.or_eq_true, Bool.and_eq_false_iff, Bool.or_eq_false_iff] at c4
                          refine W.seq ?_
                          refine W.region ?_
                          refine WL.c rfl (o_as ?_)
                          refine WL.nil ?_
                          refine W.ret ?_
                          refine ret1v rfl (show _ = Value.bool _ from rfl) ?_
                          exact ⟨congrArg Value.bool (by simp_all [wordB, words]), rfl⟩
                        · try simp only [decide_eq_true_eq, decide_eq_false_iff_not, Bool.not_eq_true', Bool.not_eq_false', Bool.and_eq_true, Bool.or_eq_true, Bool.and_eq_false_iff, Bool.or_eq_false_iff] at c4
                          refine W.skip ?_
                          refine W.seq ?_
                          refine W.region ?_
                          refine WL.c rfl (o_as ?_)
                          refine WL.nil ?_
                          refine W.ret ?_
                          refine ret1v rfl (show _ = Value.bool _ from rfl) ?_
                          exact ⟨congrArg Value.bool (by simp_all [wordB, words]), rfl⟩
theorem rletter_spec (c : UInt8) (w0 : World) : Ca Try.prog 49 #[bv c] w0 (fun v w' => v = .bool (letB c) ∧ w' = w0) := by
  refine Ca.of Try.func49 Try.ntmps49 rfl rfl ?_
  refine W.seq ?_
  refine W.region ?_
  refine WL.c rfl (o_as ?_)
  refine WL.nil ?_
  refine W.seq ?_
  refine W.region ?_
  refine WL.c rfl (o_mv ?_)
  refine WL.c rfl (o_ge rfl rfl ?_)
  refine WL.c rfl (o_mv ?_)
  refine WL.sp 2 rfl (fun g5 => ?_) (fun g5 => ?_)
  · skip
    refine WL.g rfl (g5) rfl (o_mv ?_)
    refine WL.g rfl (g5) rfl (o_le rfl rfl ?_)
    refine WL.c rfl (o_pickA rfl rfl ?_)
    refine WL.c rfl (o_as ?_)
    refine WL.nil ?_
    refine W.ret ?_
    refine ret1v rfl (show _ = Value.bool _ from rfl) ?_
    exact ⟨congrArg Value.bool (by rw [Bool.eq_iff_iff]; simp_all [letB] <;> omega), rfl⟩
  · skip
    refine WL.s rfl (g5) rfl ?_
    refine WL.s rfl (g5) rfl ?_
    refine WL.c rfl (o_pickF rfl (g5) ?_)
    refine WL.c rfl (o_as ?_)
    refine WL.nil ?_
    refine W.ret ?_
    refine ret1v rfl (show _ = Value.bool _ from rfl) ?_
    exact ⟨congrArg Value.bool (by rw [Bool.eq_iff_iff]; simp_all [letB] <;> omega), rfl⟩
theorem rdigit_spec (c : UInt8) (w0 : World) : Ca Try.prog 73 #[bv c] w0 (fun v w' => v = .bool (digB c) ∧ w' = w0) := by
  refine Ca.of Try.func73 Try.ntmps73 rfl rfl ?_
  refine W.seq ?_
  refine W.region ?_
  refine WL.c rfl (o_as ?_)
  refine WL.nil ?_
  refine W.seq ?_
  refine W.region ?_
  refine WL.c rfl (o_mv ?_)
  refine WL.c rfl (o_ge rfl rfl ?_)
  refine WL.c rfl (o_mv ?_)
  refine WL.sp 2 rfl (fun g5 => ?_) (fun g5 => ?_)
  · skip
    refine WL.g rfl (g5) rfl (o_mv ?_)
    refine WL.g rfl (g5) rfl (o_le rfl rfl ?_)
    refine WL.c rfl (o_pickA rfl rfl ?_)
    refine WL.c rfl (o_as ?_)
    refine WL.nil ?_
    refine W.ret ?_
    refine ret1v rfl (show _ = Value.bool _ from rfl) ?_
    exact ⟨congrArg Value.bool (by rw [Bool.eq_iff_iff]; simp_all [digB] <;> omega), rfl⟩
  · skip
    refine WL.s rfl (g5) rfl ?_
    refine WL.s rfl (g5) rfl ?_
    refine WL.c rfl (o_pickF rfl (g5) ?_)
    refine WL.c rfl (o_as ?_)
    refine WL.nil ?_
    refine W.ret ?_
    refine ret1v rfl (show _ = Value.bool _ from rfl) ?_
    exact ⟨congrArg Value.bool (by rw [Bool.eq_iff_iff]; simp_all [digB] <;> omega), rfl⟩
theorem rgoes_spec (c : UInt8) (w0 : World) : Ca Try.prog 51 #[bv c] w0 (fun v w' => v = .bool (goeB c) ∧ w' = w0) := by
  refine Ca.of Try.func51 Try.ntmps51 rfl rfl ?_
  refine W.seq ?_
  refine W.region ?_
  refine WL.c rfl (o_as ?_)
  refine WL.nil ?_
  refine W.seq ?_
  refine W.region ?_
  refine WL.c rfl (o_mv ?_)
  refine WL.c rfl (o_call Try.call49 (lc rfl ln) ((rletter_spec c _).mono ?_))
  rintro v4 w4 ⟨rfl, rfl⟩
  refine WL.c rfl (o_mv ?_)
  refine WL.sp 2 rfl (fun g5 => ?_) (fun g5 => ?_)
  · skip
    refine WL.s rfl (g5) rfl ?_
    refine WL.s rfl (g5) rfl ?_
    refine WL.c rfl (o_pickT rfl (g5) ?_)
    refine WL.c rfl (o_mv ?_)
    refine WL.s rfl (rfl) rfl ?_
    refine WL.s rfl (rfl) rfl ?_
    refine WL.c rfl (o_pickT rfl (rfl) ?_)
    refine WL.c rfl (o_as ?_)
    refine WL.nil ?_
    refine W.ret ?_
    refine ret1v rfl (show _ = Value.bool _ from rfl) ?_
    exact ⟨congrArg Value.bool (by rw [Bool.eq_iff_iff]; simp_all [goeB] <;> omega), rfl⟩
  · skip
    refine WL.g rfl (g5) rfl (o_mv ?_)
    refine WL.g rfl (g5) rfl (o_call Try.call73 (lc rfl ln) ((rdigit_spec c _).mono ?_))
    rintro v7 w7 ⟨rfl, rfl⟩
    refine WL.c rfl (o_pickO rfl rfl ?_)
    refine WL.c rfl (o_mv ?_)
    refine WL.sp 6 rfl (fun g9 => ?_) (fun g9 => ?_)
    · skip
      refine WL.s rfl (g9) rfl ?_
      refine WL.s rfl (g9) rfl ?_
      refine WL.c rfl (o_pickT rfl (g9) ?_)
      refine WL.c rfl (o_as ?_)
      refine WL.nil ?_
      refine W.ret ?_
      refine ret1v rfl (show _ = Value.bool _ from rfl) ?_
      exact ⟨congrArg Value.bool (by rw [Bool.eq_iff_iff]; simp_all [goeB] <;> omega), rfl⟩
    · skip
      refine WL.g rfl (g9) rfl (o_mv ?_)
      refine WL.g rfl (g9) rfl (o_eq rfl rfl ?_)
      refine WL.c rfl (o_pickO rfl rfl ?_)
      refine WL.c rfl (o_as ?_)
      refine WL.nil ?_
      refine W.ret ?_
      refine ret1v rfl (show _ = Value.bool _ from rfl) ?_
      exact ⟨congrArg Value.bool (by rw [Bool.eq_iff_iff]; simp_all [goeB] <;> omega), rfl⟩
theorem rname_spec (xs : List UInt8) (w0 : World) (hlen : xs.length ≤ 9223372036854775807) : Ca Try.prog 27 #[st xs] w0 (fun v w' => v = .bool (nameB xs) ∧ w' = w0) := by
  refine Ca.of Try.func27 Try.ntmps27 rfl rfl ?_
  refine W.seq ?_
  refine W.region ?_
  refine WL.c rfl (o_as ?_)
  refine WL.nil ?_
  refine W.seq ?_
  refine W.seq ?_
  refine W.region ?_
  refine WL.cut (fun e1 w1 => e1 20 = .bool (hdB xs) ∧ e1 0 = st xs ∧ w1 = w0) ?_ ?_
  · -- region 1
    refine WL.c rfl (o_mv ?_)
    refine WL.c rfl (o_eqT rfl rfl ?_)
    refine WL.c rfl (o_mv ?_)
    refine WL.sp 2 rfl (fun g6 => ?_) (fun g6 => ?_)
    · skip
      refine WL.s rfl (g6) rfl ?_
      refine WL.s rfl (g6) rfl ?_
      refine WL.s rfl (g6) rfl ?_
      refine WL.c rfl (o_pickT rfl (g6) ?_)
      refine WL.c rfl (o_mv ?_)
      try (have hne : xs ≠ [] := by simpa using g6)
      try (have h0 := List.length_pos_iff.2 hne)
      try (have hh := head_any letB h0)
      refine WL.s rfl (rfl) rfl ?_
      refine WL.s rfl (rfl) rfl ?_
      refine WL.s rfl (rfl) rfl ?_
      refine WL.s rfl (rfl) rfl ?_
      refine WL.c rfl (o_pickT rfl (rfl) ?_)
      refine WL.c rfl (o_mv ?_)
      refine WL.s rfl (rfl) rfl ?_
      refine WL.s rfl (rfl) rfl ?_
      refine WL.c rfl (o_pickT rfl (rfl) ?_)
      exact WL.nil (⟨congrArg Value.bool (by rw [Bool.eq_iff_iff]; simp_all [hdB] <;> first | omega | grind), rfl, rfl⟩)
    · skip
      refine WL.g rfl (g6) rfl (o_mv ?_)
      refine WL.g rfl (g6) rfl (o_lenT TI9 rfl ?_)
      refine WL.g rfl (g6) rfl (o_gt rfl rfl ?_)
      refine WL.c rfl (o_pickO rfl rfl ?_)
      refine WL.c rfl (o_mv ?_)
      try (have hne : xs ≠ [] := by simpa using g6)
      try (have h0 := List.length_pos_iff.2 hne)
      try (have hh := head_any letB h0)
      refine WL.sp 7 rfl (fun g11 => ?_) (fun g11 => ?_)
      · skip
        try (have hne : xs ≠ [] := by simpa using g6)
        try (have h0 := List.length_pos_iff.2 hne)
        try (have hh := head_any letB h0)
        refine WL.s rfl (g11) rfl ?_
        refine WL.s rfl (g11) rfl ?_
        refine WL.s rfl (g11) rfl ?_
        refine WL.s rfl (g11) rfl ?_
        refine WL.c rfl (o_pickT rfl (g11) ?_)
        refine WL.c rfl (o_mv ?_)
        refine WL.s rfl (rfl) rfl ?_
        refine WL.s rfl (rfl) rfl ?_
        refine WL.c rfl (o_pickT rfl (rfl) ?_)
        exact WL.nil (⟨congrArg Value.bool (by rw [Bool.eq_iff_iff]; simp_all [hdB] <;> first | omega | grind), rfl, rfl⟩)
      · skip
        try (have hne : xs ≠ [] := by simpa using g6)
        try (have h0 := List.length_pos_iff.2 hne)
        try (have hh := head_any letB h0)
        refine WL.g rfl (g11) rfl (o_mv ?_)
        refine WL.g rfl (g11) rfl (o_idT (i := 0) TI9 rfl rfl (by omega) ?_)
        refine WL.g rfl (g11) rfl (o_call Try.call49 (lc rfl ln) ((rletter_spec xs[0] _).mono ?_))
        rintro v14 w14 ⟨rfl, rfl⟩
        refine WL.g rfl (g11) rfl (o_not' rfl ?_)
        refine WL.c rfl (o_pickO rfl rfl ?_)
        refine WL.c rfl (o_mv ?_)
        refine WL.sp 13 rfl (fun g17 => ?_) (fun g17 => ?_)
        · skip
          refine WL.s rfl (g17) rfl ?_
          refine WL.s rfl (g17) rfl ?_
          refine WL.c rfl (o_pickT rfl (g17) ?_)
          exact WL.nil (⟨congrArg Value.bool (by rw [Bool.eq_iff_iff]; simp_all [hdB] <;> first | omega | grind), rfl, rfl⟩)
        · skip
          refine WL.g rfl (g17) rfl (o_mv ?_)
          refine WL.g rfl (g17) rfl (o_call Try.call50 (lc rfl ln) ((rword_spec xs _).mono ?_))
          rintro v19 w19 ⟨rfl, rfl⟩
          refine WL.c rfl (o_pickO rfl rfl ?_)
          exact WL.nil (⟨congrArg Value.bool (by rw [Bool.eq_iff_iff]; simp_all [hdB] <;> first | omega | grind), rfl, rfl⟩)
  rintro e w ⟨h20, h0, hw⟩
  refine W.cond h20 (fun c20 => ?_) (fun c20 => ?_)
  · try simp only [decide_eq_true_eq, decide_eq_false_iff_not, Bool.not_eq_true', Bool.not_eq_false', Bool.and_eq_true, Bool.or_eq_true, Bool.and_eq_false_iff, Bool.or_eq_false_iff] at c20
    refine W.seq ?_
    refine W.region ?_
    refine WL.c rfl (o_as ?_)
    refine WL.nil ?_
    refine W.ret ?_
    refine ret1v rfl (show _ = Value.bool _ from rfl) ?_
    exact ⟨by rw [nameB_hd, c20]; rfl, hw⟩
  · try simp only [decide_eq_true_eq, decide_eq_false_iff_not, Bool.not_eq_true', Bool.not_eq_false', Bool.and_eq_true, Bool.or_eq_true, Bool.and_eq_false_iff, Bool.or_eq_false_iff] at c20
    refine W.skip ?_
    refine W.seq ?_
    refine W.seq ?_
    refine W.region ?_
    refine WL.c rfl (o_as ?_)
    refine WL.nil ?_
    refine W.block ?_
    refine W.loop (fun e w => ∃ k : Nat, k ≤ xs.length ∧ e 0 = st xs ∧ e 3 = .int .i64 (k : Int) ∧ (xs.take k).all goeB = true ∧ w = w0) (fun e w => xs.length - (intOf (e 3)).toNat) ?_ ?_
    · exact ⟨0, Nat.zero_le _, h0, rfl, by simp, hw⟩
    rintro e w ⟨k, hk, h0, h3, hall, rfl⟩
    refine W.seq ?_
    refine W.seq ?_
    refine W.region ?_
    refine WL.c rfl (o_mvh h3 ?_)
    refine WL.c rfl (o_mvh h0 ?_)
    refine WL.c rfl (o_lenT TI9 rfl ?_)
    refine WL.c rfl (o_lt rfl rfl ?_)
    refine WL.nil ?_
    refine W.cond rfl (fun c24 => ?_) (fun c24 => ?_)
    · try simp only [decide_eq_true_eq, decide_eq_false_iff_not, Bool.not_eq_true', Bool.not_eq_false', Bool.and_eq_true, Bool.or_eq_true, Bool.and_eq_false_iff, Bool.or_eq_false_iff] at c24
      refine W.skip ?_
      refine W.seq ?_
      refine W.block ?_
      refine W.seq ?_
      have hk1 : k < xs.length := by omega
      refine W.region ?_
      refine WL.c rfl (o_mvh h0 ?_)
      refine WL.c rfl (o_mvh h3 ?_)
      refine WL.c rfl (o_idT TI9 rfl rfl (by omega) ?_)
      refine WL.c rfl (o_call Try.call51 (lc rfl ln) ((rgoes_spec xs[k] _).mono ?_))
      rintro v30 w30 ⟨rfl, rfl⟩
      refine WL.c rfl (o_not' rfl ?_)
      refine WL.nil ?_
      refine W.cond rfl (fun c31 => ?_) (fun c31 => ?_)
      · try simp only [decide_eq_true_eq, decide_eq_false_iff_not, Bool.not_eq_true', Bool.not_eq_false', Bool.and_eq_true, Bool.or_eq_true, Bool.and_eq_false_iff, Bool.or_eq_false_iff] at c31
        refine W.seq ?_
        refine W.region ?_
        refine WL.c rfl (o_as ?_)
        refine WL.nil ?_
        refine W.ret ?_
        refine ret1v rfl (show _ = Value.bool _ from rfl) ?_
        exact ⟨by rw [nameB_hd, all_bad hk1 c31]; simp, rfl⟩
      · try simp only [decide_eq_true_eq, decide_eq_false_iff_not, Bool.not_eq_true', Bool.not_eq_false', Bool.and_eq_true, Bool.or_eq_true, Bool.and_eq_false_iff, Bool.or_eq_false_iff] at c31
        refine W.skip ?_
        refine W.region ?_
        refine WL.c rfl (o_mvh h3 ?_)
        refine WL.c rfl (o_addi rfl rfl (by omega) ?_)
        refine WL.c rfl (o_as ?_)
        refine WL.nil ?_
        refine ⟨⟨k + 1, by omega, h0, rfl, all_more hk1 c31 hall, rfl⟩, ?_⟩
        show xs.length - ((k : Int) + 1).toNat < _
        rw [h3]; simp [intOf]; omega
    · try simp only [decide_eq_true_eq, decide_eq_false_iff_not, Bool.not_eq_true', Bool.not_eq_false', Bool.and_eq_true, Bool.or_eq_true, Bool.and_eq_false_iff, Bool.or_eq_false_iff] at c24
      refine W.exit ?_
      refine W.seq ?_
      refine W.region ?_
      refine WL.c rfl (o_as ?_)
      refine WL.nil ?_
      refine W.ret ?_
      refine ret1v rfl (show _ = Value.bool _ from rfl) ?_
      have hk2 : k = xs.length := by omega
      subst hk2
      rw [List.take_length] at hall
      exact ⟨by rw [nameB_hd, c20, hall]; rfl, rfl⟩

def valF (n : Nat) (xs : List UInt8) : Nat := xs.foldl (fun n c => 10 * n + (c.toNat - 48)) n
theorem valF_cons (n : Nat) (c : UInt8) (cs : List UInt8) : valF n (c :: cs) = valF (10 * n + (c.toNat - 48)) cs := by simp only [valF, List.foldl_cons]
theorem valF_ge : ∀ (xs : List UInt8) (n : Nat), n * 10 ^ xs.length ≤ valF n xs
  | [], n => by simp [valF]
  | c :: cs, n => by
    rw [valF_cons, List.length_cons, Nat.pow_succ]
    refine Nat.le_trans ?_ (valF_ge cs _)
    rw [Nat.mul_comm (10 ^ cs.length) 10, ← Nat.mul_assoc]
    exact Nat.mul_le_mul_right _ (by omega)
theorem numF_val : ∀ (xs : List UInt8) (n : Nat), n ≤ 2147483647 → numF n xs = if valF n xs ≤ 2147483647 then (valF n xs, 0) else (0, 51)
  | [], n, h => by simp [numF, valF, h]
  | c :: cs, n, h => by
    rw [valF_cons, numF]
    by_cases hh : 2147483647 < 10 * n + (c.toNat - 48)
    · rw [if_pos hh, if_neg]
      have := valF_ge cs (10 * n + (c.toNat - 48))
      have h1 : 1 ≤ 10 ^ cs.length := Nat.one_le_pow _ _ (by omega)
      have h2 := Nat.mul_le_mul_left (10 * n + (c.toNat - 48)) h1
      omega
    · rw [if_neg hh]; exact numF_val cs _ (by omega)
theorem numL_val (xs : List UInt8) (hl : lead xs = false) : numL xs = if valF 0 xs ≤ 2147483647 then (valF 0 xs, 0) else (0, 51) := by
  unfold numL
  rw [hl]; exact numF_val xs 0 (by omega)
theorem numL_long (xs : List UInt8) (hd : ∀ c ∈ xs, digB c = true) (h : 10 < xs.length) : numL xs = (0, 51) := by
  cases hl : lead xs with
  | true => simp [numL, hl]
  | false =>
    rw [numL_val xs hl, if_neg]
    cases xs with
    | nil => simp at h
    | cons c cs =>
      have h0 := hd c (List.mem_cons_self ..)
      simp only [List.length_cons] at h
      have hcs : 1 ≤ cs.length := by omega
      simp [digB] at h0
      simp [lead] at hl
      have hne := hl (by omega)
      rw [valF_cons]
      have h1 := valF_ge cs (10 * 0 + (c.toNat - 48))
      have h2 : 10 ^ 10 ≤ 10 ^ cs.length := Nat.pow_le_pow_right (by omega) (by omega)
      have h3 := Nat.mul_le_mul (show 1 ≤ 10 * 0 + (c.toNat - 48) by omega) h2
      omega

theorem rmark_spec (c : UInt8) (w0 : World) : Ca Try.prog 76 #[bv c] w0 (fun v w' => v = .bool (markB c) ∧ w' = w0) := by
  refine Ca.of Try.func76 Try.ntmps76 rfl rfl ?_
  refine W.seq ?_
  refine W.region ?_
  refine WL.c rfl (o_as ?_)
  refine WL.nil ?_
  refine W.seq ?_
  refine W.region ?_
  refine WL.c rfl (o_mv ?_)
  refine WL.c rfl (o_eq rfl rfl ?_)
  refine WL.c rfl (o_mv ?_)
  refine WL.sp 2 rfl (fun g5 => ?_) (fun g5 => ?_)
  · skip
    refine WL.s rfl (g5) rfl ?_
    refine WL.s rfl (g5) rfl ?_
    refine WL.c rfl (o_pickT rfl (g5) ?_)
    refine WL.c rfl (o_mv ?_)
    refine WL.s rfl (rfl) rfl ?_
    refine WL.s rfl (rfl) rfl ?_
    refine WL.c rfl (o_pickT rfl (rfl) ?_)
    refine WL.c rfl (o_mv ?_)
    refine WL.s rfl (rfl) rfl ?_
    refine WL.s rfl (rfl) rfl ?_
    refine WL.c rfl (o_pickT rfl (rfl) ?_)
    refine WL.c rfl (o_mv ?_)
    refine WL.s rfl (rfl) rfl ?_
    refine WL.s rfl (rfl) rfl ?_
    refine WL.c rfl (o_pickT rfl (rfl) ?_)
    refine WL.c rfl (o_mv ?_)
    refine WL.s rfl (rfl) rfl ?_
    refine WL.s rfl (rfl) rfl ?_
    refine WL.c rfl (o_pickT rfl (rfl) ?_)
    refine WL.c rfl (o_mv ?_)
    refine WL.s rfl (rfl) rfl ?_
    refine WL.s rfl (rfl) rfl ?_
    refine WL.c rfl (o_pickT rfl (rfl) ?_)
    refine WL.c rfl (o_mv ?_)
    refine WL.s rfl (rfl) rfl ?_
    refine WL.s rfl (rfl) rfl ?_
    refine WL.c rfl (o_pickT rfl (rfl) ?_)
    refine WL.c rfl (o_as ?_)
    refine WL.nil ?_
    refine W.ret ?_
    refine ret1v rfl (show _ = Value.bool _ from rfl) ?_
    exact ⟨congrArg Value.bool (by rw [mark_or, Bool.eq_iff_iff]; simp_all <;> omega), rfl⟩
  · skip
    refine WL.g rfl (g5) rfl (o_mv ?_)
    refine WL.g rfl (g5) rfl (o_eq rfl rfl ?_)
    refine WL.c rfl (o_pickO rfl rfl ?_)
    refine WL.c rfl (o_mv ?_)
    refine WL.sp 6 rfl (fun g9 => ?_) (fun g9 => ?_)
    · skip
      refine WL.s rfl (g9) rfl ?_
      refine WL.s rfl (g9) rfl ?_
      refine WL.c rfl (o_pickT rfl (g9) ?_)
      refine WL.c rfl (o_mv ?_)
      refine WL.s rfl (rfl) rfl ?_
      refine WL.s rfl (rfl) rfl ?_
      refine WL.c rfl (o_pickT rfl (rfl) ?_)
      refine WL.c rfl (o_mv ?_)
      refine WL.s rfl (rfl) rfl ?_
      refine WL.s rfl (rfl) rfl ?_
      refine WL.c rfl (o_pickT rfl (rfl) ?_)
      refine WL.c rfl (o_mv ?_)
      refine WL.s rfl (rfl) rfl ?_
      refine WL.s rfl (rfl) rfl ?_
      refine WL.c rfl (o_pickT rfl (rfl) ?_)
      refine WL.c rfl (o_mv ?_)
      refine WL.s rfl (rfl) rfl ?_
      refine WL.s rfl (rfl) rfl ?_
      refine WL.c rfl (o_pickT rfl (rfl) ?_)
      refine WL.c rfl (o_mv ?_)
      refine WL.s rfl (rfl) rfl ?_
      refine WL.s rfl (rfl) rfl ?_
      refine WL.c rfl (o_pickT rfl (rfl) ?_)
      refine WL.c rfl (o_as ?_)
      refine WL.nil ?_
      refine W.ret ?_
      refine ret1v rfl (show _ = Value.bool _ from rfl) ?_
      exact ⟨congrArg Value.bool (by rw [mark_or, Bool.eq_iff_iff]; simp_all <;> omega), rfl⟩
    · skip
      refine WL.g rfl (g9) rfl (o_mv ?_)
      refine WL.g rfl (g9) rfl (o_eq rfl rfl ?_)
      refine WL.c rfl (o_pickO rfl rfl ?_)
      refine WL.c rfl (o_mv ?_)
      refine WL.sp 10 rfl (fun g13 => ?_) (fun g13 => ?_)
      · skip
        refine WL.s rfl (g13) rfl ?_
        refine WL.s rfl (g13) rfl ?_
        refine WL.c rfl (o_pickT rfl (g13) ?_)
        refine WL.c rfl (o_mv ?_)
        refine WL.s rfl (rfl) rfl ?_
        refine WL.s rfl (rfl) rfl ?_
        refine WL.c rfl (o_pickT rfl (rfl) ?_)
        refine WL.c rfl (o_mv ?_)
        refine WL.s rfl (rfl) rfl ?_
        refine WL.s rfl (rfl) rfl ?_
        refine WL.c rfl (o_pickT rfl (rfl) ?_)
        refine WL.c rfl (o_mv ?_)
        refine WL.s rfl (rfl) rfl ?_
        refine WL.s rfl (rfl) rfl ?_
        refine WL.c rfl (o_pickT rfl (rfl) ?_)
        refine WL.c rfl (o_mv ?_)
        refine WL.s rfl (rfl) rfl ?_
        refine WL.s rfl (rfl) rfl ?_
        refine WL.c rfl (o_pickT rfl (rfl) ?_)
        refine WL.c rfl (o_as ?_)
        refine WL.nil ?_
        refine W.ret ?_
        refine ret1v rfl (show _ = Value.bool _ from rfl) ?_
        exact ⟨congrArg Value.bool (by rw [mark_or, Bool.eq_iff_iff]; simp_all <;> omega), rfl⟩
      · skip
        refine WL.g rfl (g13) rfl (o_mv ?_)
        refine WL.g rfl (g13) rfl (o_eq rfl rfl ?_)
        refine WL.c rfl (o_pickO rfl rfl ?_)
        refine WL.c rfl (o_mv ?_)
        refine WL.sp 14 rfl (fun g17 => ?_) (fun g17 => ?_)
        · skip
          refine WL.s rfl (g17) rfl ?_
          refine WL.s rfl (g17) rfl ?_
          refine WL.c rfl (o_pickT rfl (g17) ?_)
          refine WL.c rfl (o_mv ?_)
          refine WL.s rfl (rfl) rfl ?_
          refine WL.s rfl (rfl) rfl ?_
          refine WL.c rfl (o_pickT rfl (rfl) ?_)
          refine WL.c rfl (o_mv ?_)
          refine WL.s rfl (rfl) rfl ?_
          refine WL.s rfl (rfl) rfl ?_
          refine WL.c rfl (o_pickT rfl (rfl) ?_)
          refine WL.c rfl (o_mv ?_)
          refine WL.s rfl (rfl) rfl ?_
          refine WL.s rfl (rfl) rfl ?_
          refine WL.c rfl (o_pickT rfl (rfl) ?_)
          refine WL.c rfl (o_as ?_)
          refine WL.nil ?_
          refine W.ret ?_
          refine ret1v rfl (show _ = Value.bool _ from rfl) ?_
          exact ⟨congrArg Value.bool (by rw [mark_or, Bool.eq_iff_iff]; simp_all <;> omega), rfl⟩
        · skip
          refine WL.g rfl (g17) rfl (o_mv ?_)
          refine WL.g rfl (g17) rfl (o_eq rfl rfl ?_)
          refine WL.c rfl (o_pickO rfl rfl ?_)
          refine WL.c rfl (o_mv ?_)
          refine WL.sp 18 rfl (fun g21 => ?_) (fun g21 => ?_)
          · skip
            refine WL.s rfl (g21) rfl ?_
            refine WL.s rfl (g21) rfl ?_
            refine WL.c rfl (o_pickT rfl (g21) ?_)
            refine WL.c rfl (o_mv ?_)
            refine WL.s rfl (rfl) rfl ?_
            refine WL.s rfl (rfl) rfl ?_
            refine WL.c rfl (o_pickT rfl (rfl) ?_)
            refine WL.c rfl (o_mv ?_)
            refine WL.s rfl (rfl) rfl ?_
            refine WL.s rfl (rfl) rfl ?_
            refine WL.c rfl (o_pickT rfl (rfl) ?_)
            refine WL.c rfl (o_as ?_)
            refine WL.nil ?_
            refine W.ret ?_
            refine ret1v rfl (show _ = Value.bool _ from rfl) ?_
            exact ⟨congrArg Value.bool (by rw [mark_or, Bool.eq_iff_iff]; simp_all <;> omega), rfl⟩
          · skip
            refine WL.g rfl (g21) rfl (o_mv ?_)
            refine WL.g rfl (g21) rfl (o_eq rfl rfl ?_)
            refine WL.c rfl (o_pickO rfl rfl ?_)
            refine WL.c rfl (o_mv ?_)
            refine WL.sp 22 rfl (fun g25 => ?_) (fun g25 => ?_)
            · skip
              refine WL.s rfl (g25) rfl ?_
              refine WL.s rfl (g25) rfl ?_
              refine WL.c rfl (o_pickT rfl (g25) ?_)
              refine WL.c rfl (o_mv ?_)
              refine WL.s rfl (rfl) rfl ?_
              refine WL.s rfl (rfl) rfl ?_
              refine WL.c rfl (o_pickT rfl (rfl) ?_)
              refine WL.c rfl (o_as ?_)
              refine WL.nil ?_
              refine W.ret ?_
              refine ret1v rfl (show _ = Value.bool _ from rfl) ?_
              exact ⟨congrArg Value.bool (by rw [mark_or, Bool.eq_iff_iff]; simp_all <;> omega), rfl⟩
            · skip
              refine WL.g rfl (g25) rfl (o_mv ?_)
              refine WL.g rfl (g25) rfl (o_eq rfl rfl ?_)
              refine WL.c rfl (o_pickO rfl rfl ?_)
              refine WL.c rfl (o_mv ?_)
              refine WL.sp 26 rfl (fun g29 => ?_) (fun g29 => ?_)
              · skip
                refine WL.s rfl (g29) rfl ?_
                refine WL.s rfl (g29) rfl ?_
                refine WL.c rfl (o_pickT rfl (g29) ?_)
                refine WL.c rfl (o_as ?_)
                refine WL.nil ?_
                refine W.ret ?_
                refine ret1v rfl (show _ = Value.bool _ from rfl) ?_
                exact ⟨congrArg Value.bool (by rw [mark_or, Bool.eq_iff_iff]; simp_all <;> omega), rfl⟩
              · skip
                refine WL.g rfl (g29) rfl (o_mv ?_)
                refine WL.g rfl (g29) rfl (o_eq rfl rfl ?_)
                refine WL.c rfl (o_pickO rfl rfl ?_)
                refine WL.c rfl (o_as ?_)
                refine WL.nil ?_
                refine W.ret ?_
                refine ret1v rfl (show _ = Value.bool _ from rfl) ?_
                exact ⟨congrArg Value.bool (by rw [mark_or, Bool.eq_iff_iff]; simp_all <;> omega), rfl⟩
theorem rblank_spec (c : UInt8) (w0 : World) : Ca Try.prog 65 #[bv c] w0 (fun v w' => v = .bool (blankB c) ∧ w' = w0) := by
  refine Ca.of Try.func65 Try.ntmps65 rfl rfl ?_
  refine W.seq ?_
  refine W.region ?_
  refine WL.c rfl (o_as ?_)
  refine WL.nil ?_
  refine W.seq ?_
  refine W.region ?_
  refine WL.c rfl (o_mv ?_)
  refine WL.c rfl (o_eq rfl rfl ?_)
  refine WL.c rfl (o_mv ?_)
  refine WL.sp 2 rfl (fun g5 => ?_) (fun g5 => ?_)
  · skip
    refine WL.s rfl (g5) rfl ?_
    refine WL.s rfl (g5) rfl ?_
    refine WL.c rfl (o_pickT rfl (g5) ?_)
    refine WL.c rfl (o_mv ?_)
    refine WL.s rfl (rfl) rfl ?_
    refine WL.s rfl (rfl) rfl ?_
    refine WL.c rfl (o_pickT rfl (rfl) ?_)
    refine WL.c rfl (o_as ?_)
    refine WL.nil ?_
    refine W.ret ?_
    refine ret1v rfl (show _ = Value.bool _ from rfl) ?_
    exact ⟨congrArg Value.bool (by rw [Bool.eq_iff_iff]; simp_all [blankB] <;> omega), rfl⟩
  · skip
    refine WL.g rfl (g5) rfl (o_mv ?_)
    refine WL.g rfl (g5) rfl (o_eq rfl rfl ?_)
    refine WL.c rfl (o_pickO rfl rfl ?_)
    refine WL.c rfl (o_mv ?_)
    refine WL.sp 6 rfl (fun g9 => ?_) (fun g9 => ?_)
    · skip
      refine WL.s rfl (g9) rfl ?_
      refine WL.s rfl (g9) rfl ?_
      refine WL.c rfl (o_pickT rfl (g9) ?_)
      refine WL.c rfl (o_as ?_)
      refine WL.nil ?_
      refine W.ret ?_
      refine ret1v rfl (show _ = Value.bool _ from rfl) ?_
      exact ⟨congrArg Value.bool (by rw [Bool.eq_iff_iff]; simp_all [blankB] <;> omega), rfl⟩
    · skip
      refine WL.g rfl (g9) rfl (o_mv ?_)
      refine WL.g rfl (g9) rfl (o_eq rfl rfl ?_)
      refine WL.c rfl (o_pickO rfl rfl ?_)
      refine WL.c rfl (o_as ?_)
      refine WL.nil ?_
      refine W.ret ?_
      refine ret1v rfl (show _ = Value.bool _ from rfl) ?_
      exact ⟨congrArg Value.bool (by rw [Bool.eq_iff_iff]; simp_all [blankB] <;> omega), rfl⟩
theorem rnumber_spec (xs : List UInt8) (w0 : World) (hlen : xs.length ≤ 9223372036854775807) (hd : ∀ c ∈ xs, digB c = true) : Ca Try.prog 75 #[st xs] w0 (fun v w' => ∃ (n : Nat) (b : Bool), v = .tuple #[.int .i64 (n : Int), .bool b] ∧ numL xs = (if b then (n, 0) else (0, 51)) ∧ w' = w0) := by
  refine Ca.of Try.func75 Try.ntmps75 rfl rfl ?_
  refine W.seq ?_
  refine W.region ?_
  refine WL.c rfl (o_as ?_)
  refine WL.c rfl (o_as ?_)
  refine WL.nil ?_
  refine W.seq ?_
  refine W.seq ?_
  refine W.region ?_
  refine WL.cut (fun e1 w1 => e1 18 = .bool (lead xs || decide (10 < xs.length)) ∧ e1 0 = st xs ∧ w1 = w0) ?_ ?_
  · -- region 1
    refine WL.c rfl (o_mv ?_)
    refine WL.c rfl (o_lenT TI9 rfl ?_)
    refine WL.c rfl (o_gt rfl rfl ?_)
    refine WL.c rfl (o_mv ?_)
    refine WL.sp 3 rfl (fun g9 => ?_) (fun g9 => ?_)
    · skip
      refine WL.g rfl (g9) rfl (o_mv ?_)
      refine WL.g rfl (g9) rfl (o_idT (i := 0) TI9 rfl rfl (by simp at g9; omega) ?_)
      refine WL.g rfl (g9) rfl (o_eq rfl rfl ?_)
      refine WL.c rfl (o_pickA rfl rfl ?_)
      refine WL.c rfl (o_mv ?_)
      refine WL.sp 8 rfl (fun g14 => ?_) (fun g14 => ?_)
      · skip
        refine WL.s rfl (g14) rfl ?_
        refine WL.s rfl (g14) rfl ?_
        refine WL.s rfl (g14) rfl ?_
        refine WL.c rfl (o_pickT rfl (g14) ?_)
        exact WL.nil (⟨congrArg Value.bool (by rw [Bool.eq_iff_iff]; simp_all [lead] <;> first | omega | grind), rfl, rfl⟩)
      · skip
        refine WL.g rfl (g14) rfl (o_mv ?_)
        refine WL.g rfl (g14) rfl (o_lenT TI9 rfl ?_)
        refine WL.g rfl (g14) rfl (o_gt rfl rfl ?_)
        refine WL.c rfl (o_pickO rfl rfl ?_)
        exact WL.nil (⟨congrArg Value.bool (by rw [Bool.eq_iff_iff]; simp_all [lead] <;> first | omega | grind), rfl, rfl⟩)
    · skip
      refine WL.s rfl (g9) rfl ?_
      refine WL.s rfl (g9) rfl ?_
      refine WL.s rfl (g9) rfl ?_
      refine WL.c rfl (o_pickF rfl (g9) ?_)
      refine WL.c rfl (o_mv ?_)
      refine WL.g rfl (rfl) rfl (o_mv ?_)
      refine WL.g rfl (rfl) rfl (o_lenT TI9 rfl ?_)
      refine WL.g rfl (rfl) rfl (o_gt rfl rfl ?_)
      refine WL.c rfl (o_pickO rfl rfl ?_)
      exact WL.nil (⟨congrArg Value.bool (by rw [Bool.eq_iff_iff]; simp_all [lead] <;> first | omega | grind), rfl, rfl⟩)
  rintro e w ⟨h18, h0, hw⟩
  refine W.cond h18 (fun c18 => ?_) (fun c18 => ?_)
  · try simp only [decide_eq_true_eq, decide_eq_false_iff_not, Bool.not_eq_true', Bool.not_eq_false', Bool.and_eq_true, Bool.or_eq_true, Bool.and_eq_false_iff, Bool.or_eq_false_iff] at c18
    refine W.seq ?_
    refine W.region ?_
    refine WL.c rfl (o_as ?_)
    refine WL.c rfl (o_as ?_)
    refine WL.nil ?_
    refine W.ret ?_
    refine ret2v rfl (show _ = Value.int _ _ from rfl) (show _ = Value.bool _ from rfl) ?_
    refine ⟨0, false, rfl, ?_, hw⟩
    rcases c18 with h | h
    · simp [numL, h]
    · simp [numL_long xs hd h]
  · try simp only [decide_eq_true_eq, decide_eq_false_iff_not, Bool.not_eq_true', Bool.not_eq_false', Bool.and_eq_true, Bool.or_eq_true, Bool.and_eq_false_iff, Bool.or_eq_false_iff] at c18
    obtain ⟨hld, hle⟩ := c18
    refine W.skip ?_
    refine W.seq ?_
    refine W.region ?_
    refine WL.c rfl (o_as ?_)
    refine WL.nil ?_
    refine W.seq ?_
    refine W.seq ?_
    refine W.region ?_
    refine WL.c rfl (o_as ?_)
    refine WL.nil ?_
    refine W.block ?_
    refine W.loop (fun e w => ∃ k n : Nat, k ≤ xs.length ∧ e 0 = st xs ∧ e 4 = .int .i64 (n : Int) ∧ e 5 = .int .i64 (k : Int) ∧ n < 10 ^ k ∧ valF 0 xs = valF n (xs.drop k) ∧ w = w0) (fun e w => xs.length - (intOf (e 5)).toNat) ?_ ?_
    · exact ⟨0, 0, Nat.zero_le _, h0, rfl, rfl, by decide, rfl, hw⟩
    rintro e w ⟨k, n, hk, h0, h4, h5, hn, hg, rfl⟩
    refine W.seq ?_
    refine W.seq ?_
    refine W.region ?_
    refine WL.c rfl (o_mvh h5 ?_)
    refine WL.c rfl (o_mvh h0 ?_)
    refine WL.c rfl (o_lenT TI9 rfl ?_)
    refine WL.c rfl (o_lt rfl rfl ?_)
    refine WL.nil ?_
    refine W.cond rfl (fun c22 => ?_) (fun c22 => ?_)
    · try simp only [decide_eq_true_eq, decide_eq_false_iff_not, Bool.not_eq_true', Bool.not_eq_false', Bool.and_eq_true, Bool.or_eq_true, Bool.and_eq_false_iff, Bool.or_eq_false_iff] at c22
      refine W.skip ?_
      refine W.seq ?_
      refine W.block ?_
      have hk1 : k < xs.length := by omega
      have hcons : xs.drop k = xs[k] :: xs.drop (k + 1) := by rw [List.getElem_cons_drop]
      have hdk := hd xs[k] (List.getElem_mem hk1)
      have hc8 : (xs[k]).toNat < 256 := UInt8.toNat_lt _
      have h10 : 10 ^ k ≤ 10 ^ 9 := Nat.pow_le_pow_right (by omega) (by simp at hle; omega)
      simp [digB] at hdk
      refine W.region ?_
      refine WL.c rfl (o_mvh h4 ?_)
      refine WL.c rfl (o_muli rfl rfl (by omega) ?_)
      refine WL.c rfl (o_mvh h0 ?_)
      refine WL.c rfl (o_mvh h5 ?_)
      refine WL.c rfl (o_idT TI9 rfl rfl (by omega) ?_)
      refine WL.c rfl (n_sub8 (b := 48) rfl rfl (by omega) (by omega) ?_)
      refine WL.c rfl (o_cvU TI5 TI3 rfl (by omega) ?_)
      refine WL.c rfl (o_addi rfl rfl (by omega) ?_)
      refine WL.c rfl (o_as ?_)
      refine WL.nil ?_
      refine W.region ?_
      refine WL.c rfl (o_mvh h5 ?_)
      refine WL.c rfl (o_addi rfl rfl (by omega) ?_)
      refine WL.c rfl (o_as ?_)
      refine WL.nil ?_
      refine ⟨⟨k + 1, 10 * n + ((xs[k]).toNat - 48), by omega, h0, (by show Value.int .i64 (10 * (n : Int) + (((xs[k]).toNat - 48 : Nat) : Int)) = _; congr 1), rfl, by rw [Nat.pow_succ]; omega, by rw [hg, hcons, valF_cons], rfl⟩, ?_⟩
      show xs.length - ((k : Int) + 1).toNat < _
      rw [h5]; simp [intOf]; omega
    · try simp only [decide_eq_true_eq, decide_eq_false_iff_not, Bool.not_eq_true', Bool.not_eq_false', Bool.and_eq_true, Bool.or_eq_true, Bool.and_eq_false_iff, Bool.or_eq_false_iff] at c22
      refine W.exit ?_
      refine W.seq ?_
      refine W.region ?_
      refine WL.c rfl (o_mvh h4 ?_)
      refine WL.c rfl (o_mvh h4 ?_)
      refine WL.c rfl (o_le rfl rfl ?_)
      refine WL.c rfl (o_as ?_)
      refine WL.c rfl (o_as ?_)
      refine WL.nil ?_
      refine W.ret ?_
      refine ret2v rfl (show _ = Value.int _ _ from rfl) (show _ = Value.bool _ from rfl) ?_
      have hk2 : k = xs.length := by omega
      rw [hk2, List.drop_length] at hg
      refine ⟨n, decide (n ≤ 2147483647), by simp; omega, ?_, rfl⟩
      rw [numL_val xs (by simpa using hld), hg]
      by_cases hn2 : n ≤ 2147483647 <;> simp [valF, hn2]

def oneR (xs : List UInt8) (k : Nat) (h : k < xs.length) : Tk := if (oneL xs k h).1 = 0 then (oneL xs k h).2 else ⟨0, [], 0, 0, 0⟩

theorem rone_spec (xs : List UInt8) (k : Nat) (hk : k < xs.length) (w0 : World) (hlen : xs.length ≤ 9223372036854775807) : Ca Try.prog 66 #[st xs, .int .i64 (k : Int)] w0 (fun v w' => v = .tuple #[.agg (tokV (oneR xs k hk)), .int .i64 ((oneL xs k hk).1 : Int)] ∧ Ext w0 w') := by
  refine Ca.of Try.func66 Try.ntmps66 rfl rfl ?_
  refine W.seq ?_
  refine W.region ?_
  refine WL.c rfl (o_alB TI58 ?_)
  intro w4 hB4 hx4 hs4
  refine WL.c rfl (o_as ?_)
  refine WL.nil ?_
  refine W.seq ?_
  refine W.region ?_
  refine WL.c rfl (o_mv ?_)
  refine WL.c rfl (o_mv ?_)
  refine WL.c rfl (o_idT TI9 rfl rfl (hk) ?_)
  refine WL.c rfl (o_as ?_)
  refine WL.nil ?_
  refine W.seq ?_
  refine W.region ?_
  refine WL.c rfl (o_mv ?_)
  refine WL.c rfl (o_addi rfl rfl (by omega) ?_)
  refine WL.c rfl (o_as ?_)
  refine WL.nil ?_
  refine W.seq ?_
  refine W.block ?_
  refine W.seq ?_
  refine W.region ?_
  refine WL.c rfl (o_mv ?_)
  refine WL.c rfl (o_call Try.call49 (lc rfl ln) ((rletter_spec xs[k] _).mono ?_))
  rintro v17 w17 ⟨rfl, rfl⟩
  refine WL.c rfl (o_as ?_)
  refine WL.nil ?_
  refine W.cond rfl (fun c15 => ?_) (fun c15 => ?_)
  · try simp only [decide_eq_true_eq, decide_eq_false_iff_not, Bool.not_eq_true', Bool.not_eq_false', Bool.and_eq_true, Bool.or_eq_true, Bool.and_eq_false_iff, Bool.or_eq_false_iff] at c15
    refine W.seq ?_
    refine W.block ?_
    refine W.loop (fun e w => ∃ j : Nat, k + 1 ≤ j ∧ j ≤ xs.length ∧ e 0 = st xs ∧ e 1 = .int .i64 (k : Int) ∧ e 4 = .pointer (some ⟨w0.heap.size, 0, none⟩) ∧ e 7 = .int .i64 (j : Int) ∧ runL goeB xs k = runL goeB xs j ∧ w.heap[w0.heap.size]? = some (.cells (tokV ⟨0, [], 0, 0, 0⟩) 58 (0, 0)) ∧ Ext w0 w) (fun e w => xs.length - (intOf (e 7)).toNat) ?_ ?_
    · exact ⟨k + 1, Nat.le_refl _, hk, rfl, rfl, rfl, rfl, runL_go hk (by simp [goeB, c15]), hB4, hx4⟩
    rintro e w ⟨j, hj1, hj, h0, h1, h4, h7, hr, hB4, hx4⟩
    refine W.seq ?_
    refine W.seq ?_
    rcases runL_cases goeB xs j hj with ⟨hj2, hpj⟩ | ⟨hj2, hpj⟩ | hj2
    · skip
      refine W.region ?_
      refine WL.c rfl (o_mvh h7 ?_)
      refine WL.c rfl (o_mvh h0 ?_)
      refine WL.c rfl (o_lenT TI9 rfl ?_)
      refine WL.c rfl (o_lt rfl rfl ?_)
      refine WL.c rfl (o_mv ?_)
      refine WL.g rfl (by simp; omega) rfl (o_mvh h0 ?_)
      refine WL.g rfl (by simp; omega) rfl (o_mvh h7 ?_)
      refine WL.g rfl (by simp; omega) rfl (o_idT TI9 rfl rfl (by omega) ?_)
      refine WL.g rfl (by simp; omega) rfl (o_call Try.call51 (lc rfl ln) ((rgoes_spec xs[j] _).mono ?_))
      rintro v26 w26 ⟨rfl, rfl⟩
      refine WL.c rfl (o_pickA rfl rfl ?_)
      refine WL.nil ?_
      refine W.condT' rfl (by simp [hpj]; omega) ?_
      refine W.skip ?_
      refine W.block ?_
      refine W.region ?_
      refine WL.c rfl (o_mvh h7 ?_)
      refine WL.c rfl (o_addi rfl rfl (by omega) ?_)
      refine WL.c rfl (o_as ?_)
      refine WL.nil ?_
      refine ⟨⟨j + 1, by omega, by omega, h0, h1, h4, rfl, by rw [hr]; exact runL_go hj2 hpj, hB4, hx4⟩, ?_⟩
      show xs.length - ((j : Int) + 1).toNat < _
      rw [h7]; simp [intOf]; omega
    · skip
      rw [runL_stop hj2 hpj] at hr
      refine W.region ?_
      refine WL.c rfl (o_mvh h7 ?_)
      refine WL.c rfl (o_mvh h0 ?_)
      refine WL.c rfl (o_lenT TI9 rfl ?_)
      refine WL.c rfl (o_lt rfl rfl ?_)
      refine WL.c rfl (o_mv ?_)
      refine WL.g rfl (by simp; omega) rfl (o_mvh h0 ?_)
      refine WL.g rfl (by simp; omega) rfl (o_mvh h7 ?_)
      refine WL.g rfl (by simp; omega) rfl (o_idT TI9 rfl rfl (by omega) ?_)
      refine WL.g rfl (by simp; omega) rfl (o_call Try.call51 (lc rfl ln) ((rgoes_spec xs[j] _).mono ?_))
      rintro v26 w26 ⟨rfl, rfl⟩
      refine WL.c rfl (o_pickA rfl rfl ?_)
      refine WL.nil ?_
      refine W.condF' rfl (by simp [hpj]) ?_
      refine W.exit ?_
      refine W.seq ?_
      refine W.seq ?_
      refine W.region ?_
      refine WL.c rfl (o_mvh h7 ?_)
      refine WL.c rfl (o_mvh h1 ?_)
      refine WL.c rfl (o_subi rfl rfl (by omega) ?_)
      refine WL.c rfl (o_gt rfl rfl ?_)
      refine WL.nil ?_
      refine W.cond rfl (fun c33 => ?_) (fun c33 => ?_)
      · try simp only [decide_eq_true_eq, decide_eq_false_iff_not, Bool.not_eq_true', Bool.not_eq_false', Bool.and_eq_true, Bool.or_eq_true, Bool.and_eq_false_iff, Bool.or_eq_false_iff] at c33
        refine W.seq ?_
        refine W.region ?_
        refine WL.c rfl (o_bldC (cs := [(.int .i64 0), (.string ⟨#[]⟩), (.int .i64 0), (.int .i64 0), (.int .i64 0)]) TI58 (Sizes.cons TI3 (Sizes.cons TI9 (Sizes.cons TI3 (Sizes.cons TI3 (Sizes.cons TI3 Sizes.nil))))) rfl lnp rfl rfl ?_)
        refine WL.u (o_stA TI58 h4 rfl rfl rfl hB4 rfl ?_)
        intro wE hE hoE hsE
        have hxE := Ext.own hx4 (Nat.le_refl _) hoE
        refine WL.c rfl (o_as ?_)
        refine WL.nil ?_
        refine W.ret ?_
        refine retCT rfl TI58 rfl (show _ = Value.int _ _ from rfl) h4 (cells_all hE) rfl ?_
        have ho : oneL xs k hk = (52, ⟨1, [], 0, k, runL goeB xs k⟩) := by unfold oneL; rw [if_pos c15, if_pos (by omega)]
        exact ⟨by rw [oneR, ho]; rfl, hxE⟩
      · try simp only [decide_eq_true_eq, decide_eq_false_iff_not, Bool.not_eq_true', Bool.not_eq_false', Bool.and_eq_true, Bool.or_eq_true, Bool.and_eq_false_iff, Bool.or_eq_false_iff] at c33
        refine W.skip ?_
        refine W.seq ?_
        refine W.region ?_
        refine WL.c rfl (o_mvh h0 ?_)
        refine WL.c rfl (o_mvh h1 ?_)
        refine WL.c rfl (o_mvh h7 ?_)
        refine WL.c rfl (o_ssT TI9 rfl (Lo.s rfl) (Hi.s rfl) (by omega) (by omega) ?_)
        refine WL.c rfl (o_mvh h1 ?_)
        refine WL.c rfl (o_mvh h7 ?_)
        refine WL.c rfl (o_bldC (cs := [(.int .i64 1), _, (.int .i64 0), _, _]) TI58 (Sizes.cons TI3 (Sizes.cons TI9 (Sizes.cons TI3 (Sizes.cons TI3 (Sizes.cons TI3 Sizes.nil))))) rfl (lcp (show _ = Value.int _ _ from rfl) (lcp (show _ = Value.string _ from rfl) (lcp (show _ = Value.int _ _ from rfl) (lcp (show _ = Value.int _ _ from rfl) lnp)))) rfl rfl ?_)
        refine WL.u (o_stA TI58 h4 rfl rfl rfl hB4 rfl ?_)
        intro wE hE hoE hsE
        have hxE := Ext.own hx4 (Nat.le_refl _) hoE
        refine WL.c rfl (o_as ?_)
        refine WL.nil ?_
        refine W.ret ?_
        refine retCT rfl TI58 rfl (show _ = Value.int _ _ from rfl) h4 (cells_all hE) rfl ?_
        have ho : oneL xs k hk = (0, ⟨1, sub xs k (runL goeB xs k), 0, k, runL goeB xs k⟩) := by unfold oneL; rw [if_pos c15, if_neg (by omega)]
        exact ⟨by rw [oneR, ho, hr]; rfl, hxE⟩
    · skip
      rw [runL_end (k := j) (by omega)] at hr
      refine W.region ?_
      refine WL.c rfl (o_mvh h7 ?_)
      refine WL.c rfl (o_mvh h0 ?_)
      refine WL.c rfl (o_lenT TI9 rfl ?_)
      refine WL.c rfl (o_lt rfl rfl ?_)
      refine WL.c rfl (o_mv ?_)
      refine WL.s rfl (by simp; omega) rfl ?_
      refine WL.s rfl (by simp; omega) rfl ?_
      refine WL.s rfl (by simp; omega) rfl ?_
      refine WL.s rfl (by simp; omega) rfl ?_
      refine WL.c rfl (o_pickF rfl (by simp; omega) ?_)
      refine WL.nil ?_
      refine W.condF' rfl (rfl) ?_
      refine W.exit ?_
      refine W.seq ?_
      refine W.seq ?_
      refine W.region ?_
      refine WL.c rfl (o_mvh h7 ?_)
      refine WL.c rfl (o_mvh h1 ?_)
      refine WL.c rfl (o_subi rfl rfl (by omega) ?_)
      refine WL.c rfl (o_gt rfl rfl ?_)
      refine WL.nil ?_
      refine W.cond rfl (fun c33 => ?_) (fun c33 => ?_)
      · try simp only [decide_eq_true_eq, decide_eq_false_iff_not, Bool.not_eq_true', Bool.not_eq_false', Bool.and_eq_true, Bool.or_eq_true, Bool.and_eq_false_iff, Bool.or_eq_false_iff] at c33
        refine W.seq ?_
        refine W.region ?_
        refine WL.c rfl (o_bldC (cs := [(.int .i64 0), (.string ⟨#[]⟩), (.int .i64 0), (.int .i64 0), (.int .i64 0)]) TI58 (Sizes.cons TI3 (Sizes.cons TI9 (Sizes.cons TI3 (Sizes.cons TI3 (Sizes.cons TI3 Sizes.nil))))) rfl lnp rfl rfl ?_)
        refine WL.u (o_stA TI58 h4 rfl rfl rfl hB4 rfl ?_)
        intro wE hE hoE hsE
        have hxE := Ext.own hx4 (Nat.le_refl _) hoE
        refine WL.c rfl (o_as ?_)
        refine WL.nil ?_
        refine W.ret ?_
        refine retCT rfl TI58 rfl (show _ = Value.int _ _ from rfl) h4 (cells_all hE) rfl ?_
        have ho : oneL xs k hk = (52, ⟨1, [], 0, k, runL goeB xs k⟩) := by unfold oneL; rw [if_pos c15, if_pos (by omega)]
        exact ⟨by rw [oneR, ho]; rfl, hxE⟩
      · try simp only [decide_eq_true_eq, decide_eq_false_iff_not, Bool.not_eq_true', Bool.not_eq_false', Bool.and_eq_true, Bool.or_eq_true, Bool.and_eq_false_iff, Bool.or_eq_false_iff] at c33
        refine W.skip ?_
        refine W.seq ?_
        refine W.region ?_
        refine WL.c rfl (o_mvh h0 ?_)
        refine WL.c rfl (o_mvh h1 ?_)
        refine WL.c rfl (o_mvh h7 ?_)
        refine WL.c rfl (o_ssT TI9 rfl (Lo.s rfl) (Hi.s rfl) (by omega) (by omega) ?_)
        refine WL.c rfl (o_mvh h1 ?_)
        refine WL.c rfl (o_mvh h7 ?_)
        refine WL.c rfl (o_bldC (cs := [(.int .i64 1), _, (.int .i64 0), _, _]) TI58 (Sizes.cons TI3 (Sizes.cons TI9 (Sizes.cons TI3 (Sizes.cons TI3 (Sizes.cons TI3 Sizes.nil))))) rfl (lcp (show _ = Value.int _ _ from rfl) (lcp (show _ = Value.string _ from rfl) (lcp (show _ = Value.int _ _ from rfl) (lcp (show _ = Value.int _ _ from rfl) lnp)))) rfl rfl ?_)
        refine WL.u (o_stA TI58 h4 rfl rfl rfl hB4 rfl ?_)
        intro wE hE hoE hsE
        have hxE := Ext.own hx4 (Nat.le_refl _) hoE
        refine WL.c rfl (o_as ?_)
        refine WL.nil ?_
        refine W.ret ?_
        refine retCT rfl TI58 rfl (show _ = Value.int _ _ from rfl) h4 (cells_all hE) rfl ?_
        have ho : oneL xs k hk = (0, ⟨1, sub xs k (runL goeB xs k), 0, k, runL goeB xs k⟩) := by unfold oneL; rw [if_pos c15, if_neg (by omega)]
        exact ⟨by rw [oneR, ho, hr]; rfl, hxE⟩
  · try simp only [decide_eq_true_eq, decide_eq_false_iff_not, Bool.not_eq_true', Bool.not_eq_false', Bool.and_eq_true, Bool.or_eq_true, Bool.and_eq_false_iff, Bool.or_eq_false_iff] at c15
    refine W.seq ?_
    refine W.region ?_
    refine WL.c rfl (o_mv ?_)
    refine WL.c rfl (o_call Try.call73 (lc rfl ln) ((rdigit_spec xs[k] _).mono ?_))
    rintro v44 w44 ⟨rfl, rfl⟩
    refine WL.c rfl (o_as ?_)
    refine WL.nil ?_
    refine W.cond rfl (fun c42 => ?_) (fun c42 => ?_)
    · try simp only [decide_eq_true_eq, decide_eq_false_iff_not, Bool.not_eq_true', Bool.not_eq_false', Bool.and_eq_true, Bool.or_eq_true, Bool.and_eq_false_iff, Bool.or_eq_false_iff] at c42
      refine W.seq ?_
      refine W.block ?_
      refine W.loop (fun e w => ∃ j : Nat, k + 1 ≤ j ∧ j ≤ xs.length ∧ e 0 = st xs ∧ e 1 = .int .i64 (k : Int) ∧ e 4 = .pointer (some ⟨w0.heap.size, 0, none⟩) ∧ e 7 = .int .i64 (j : Int) ∧ runL digB xs k = runL digB xs j ∧ w.heap[w0.heap.size]? = some (.cells (tokV ⟨0, [], 0, 0, 0⟩) 58 (0, 0)) ∧ Ext w0 w) (fun e w => xs.length - (intOf (e 7)).toNat) ?_ ?_
      · exact ⟨k + 1, Nat.le_refl _, hk, rfl, rfl, rfl, rfl, runL_go hk (by exact c42), hB4, hx4⟩
      rintro e w ⟨j, hj1, hj, h0, h1, h4, h7, hr, hB4, hx4⟩
      refine W.seq ?_
      refine W.seq ?_
      rcases runL_cases digB xs j hj with ⟨hj2, hpj⟩ | ⟨hj2, hpj⟩ | hj2
      · skip
        refine W.region ?_
        refine WL.c rfl (o_mvh h7 ?_)
        refine WL.c rfl (o_mvh h0 ?_)
        refine WL.c rfl (o_lenT TI9 rfl ?_)
        refine WL.c rfl (o_lt rfl rfl ?_)
        refine WL.c rfl (o_mv ?_)
        refine WL.g rfl (by simp; omega) rfl (o_mvh h0 ?_)
        refine WL.g rfl (by simp; omega) rfl (o_mvh h7 ?_)
        refine WL.g rfl (by simp; omega) rfl (o_idT TI9 rfl rfl (by omega) ?_)
        refine WL.g rfl (by simp; omega) rfl (o_call Try.call73 (lc rfl ln) ((rdigit_spec xs[j] _).mono ?_))
        rintro v53 w53 ⟨rfl, rfl⟩
        refine WL.c rfl (o_pickA rfl rfl ?_)
        refine WL.nil ?_
        refine W.condT' rfl (by simp [hpj]; omega) ?_
        refine W.skip ?_
        refine W.block ?_
        refine W.region ?_
        refine WL.c rfl (o_mvh h7 ?_)
        refine WL.c rfl (o_addi rfl rfl (by omega) ?_)
        refine WL.c rfl (o_as ?_)
        refine WL.nil ?_
        refine ⟨⟨j + 1, by omega, by omega, h0, h1, h4, rfl, by rw [hr]; exact runL_go hj2 hpj, hB4, hx4⟩, ?_⟩
        show xs.length - ((j : Int) + 1).toNat < _
        rw [h7]; simp [intOf]; omega
      · skip
        rw [runL_stop hj2 hpj] at hr
        refine W.region ?_
        refine WL.c rfl (o_mvh h7 ?_)
        refine WL.c rfl (o_mvh h0 ?_)
        refine WL.c rfl (o_lenT TI9 rfl ?_)
        refine WL.c rfl (o_lt rfl rfl ?_)
        refine WL.c rfl (o_mv ?_)
        refine WL.g rfl (by simp; omega) rfl (o_mvh h0 ?_)
        refine WL.g rfl (by simp; omega) rfl (o_mvh h7 ?_)
        refine WL.g rfl (by simp; omega) rfl (o_idT TI9 rfl rfl (by omega) ?_)
        refine WL.g rfl (by simp; omega) rfl (o_call Try.call73 (lc rfl ln) ((rdigit_spec xs[j] _).mono ?_))
        rintro v53 w53 ⟨rfl, rfl⟩
        refine WL.c rfl (o_pickA rfl rfl ?_)
        refine WL.nil ?_
        refine W.condF' rfl (by simp [hpj]) ?_
        refine W.exit ?_
        refine W.seq ?_
        refine W.region ?_
        refine WL.c rfl (o_mvh h0 ?_)
        refine WL.c rfl (o_mvh h1 ?_)
        refine WL.c rfl (o_mvh h7 ?_)
        refine WL.c rfl (o_ssT TI9 rfl (Lo.s rfl) (Hi.s rfl) (by omega) (by omega) ?_)
        refine WL.c rfl (o_call Try.call75 (lc rfl ln) ((rnumber_spec (sub xs k j) _ (by have := sub_len xs k j; omega) (by rw [← hr, sub_run]; exact takeWhile_all digB _)).mono ?_))
        rintro v62 w62 ⟨n, b, rfl, hnum, rfl⟩
        refine WL.c rfl (o_mv ?_)
        refine WL.c rfl (o_ext rfl rfl ?_)
        refine WL.c rfl (o_ext rfl rfl ?_)
        refine WL.c rfl (o_as ?_)
        refine WL.c rfl (o_as ?_)
        refine WL.nil ?_
        refine W.seq ?_
        refine W.seq ?_
        refine W.region ?_
        refine WL.c rfl (o_mv ?_)
        refine WL.c rfl (o_not' rfl ?_)
        refine WL.nil ?_
        refine W.cond rfl (fun c66 => ?_) (fun c66 => ?_)
        · try simp only [decide_eq_true_eq, decide_eq_false_iff_not, Bool.not_eq_true', Bool.not_eq_false', Bool.and_eq_true, Bool.or_eq_true, Bool.and_eq_false_iff, Bool.or_eq_false_iff] at c66
          refine W.seq ?_
          refine W.region ?_
          refine WL.c rfl (o_bldC (cs := [(.int .i64 0), (.string ⟨#[]⟩), (.int .i64 0), (.int .i64 0), (.int .i64 0)]) TI58 (Sizes.cons TI3 (Sizes.cons TI9 (Sizes.cons TI3 (Sizes.cons TI3 (Sizes.cons TI3 Sizes.nil))))) rfl lnp rfl rfl ?_)
          refine WL.u (o_stA TI58 h4 rfl rfl rfl hB4 rfl ?_)
          intro wE hE hoE hsE
          have hxE := Ext.own hx4 (Nat.le_refl _) hoE
          refine WL.c rfl (o_as ?_)
          refine WL.nil ?_
          refine W.ret ?_
          refine retCT rfl TI58 rfl (show _ = Value.int _ _ from rfl) h4 (cells_all hE) rfl ?_
          rw [c66] at hnum
          have ho : oneL xs k hk = (51, ⟨2, [], 0, k, runL digB xs k⟩) := by unfold oneL; rw [if_neg (by simp [c15]), if_pos c42, hr, hnum]; rfl
          exact ⟨by rw [oneR, ho]; rfl, hxE⟩
        · try simp only [decide_eq_true_eq, decide_eq_false_iff_not, Bool.not_eq_true', Bool.not_eq_false', Bool.and_eq_true, Bool.or_eq_true, Bool.and_eq_false_iff, Bool.or_eq_false_iff] at c66
          refine W.skip ?_
          refine W.seq ?_
          refine W.region ?_
          refine WL.c rfl (o_mv ?_)
          refine WL.c rfl (o_mvh h1 ?_)
          refine WL.c rfl (o_mvh h7 ?_)
          refine WL.c rfl (o_bldC (cs := [(.int .i64 2), (.string ⟨#[]⟩), _, _, _]) TI58 (Sizes.cons TI3 (Sizes.cons TI9 (Sizes.cons TI3 (Sizes.cons TI3 (Sizes.cons TI3 Sizes.nil))))) rfl (lcp (show _ = Value.int _ _ from rfl) (lcp (show _ = Value.int _ _ from rfl) (lcp (show _ = Value.int _ _ from rfl) (lcp (show _ = Value.int _ _ from rfl) lnp)))) rfl rfl ?_)
          refine WL.u (o_stA TI58 h4 rfl rfl rfl hB4 rfl ?_)
          intro wE hE hoE hsE
          have hxE := Ext.own hx4 (Nat.le_refl _) hoE
          refine WL.c rfl (o_as ?_)
          refine WL.nil ?_
          refine W.ret ?_
          refine retCT rfl TI58 rfl (show _ = Value.int _ _ from rfl) h4 (cells_all hE) rfl ?_
          rw [c66] at hnum
          have ho : oneL xs k hk = (0, ⟨2, [], n, k, runL digB xs k⟩) := by unfold oneL; rw [if_neg (by simp [c15]), if_pos c42, hr, hnum]; rfl
          exact ⟨by rw [oneR, ho, hr]; rfl, hxE⟩
      · skip
        rw [runL_end (k := j) (by omega)] at hr
        refine W.region ?_
        refine WL.c rfl (o_mvh h7 ?_)
        refine WL.c rfl (o_mvh h0 ?_)
        refine WL.c rfl (o_lenT TI9 rfl ?_)
        refine WL.c rfl (o_lt rfl rfl ?_)
        refine WL.c rfl (o_mv ?_)
        refine WL.s rfl (by simp; omega) rfl ?_
        refine WL.s rfl (by simp; omega) rfl ?_
        refine WL.s rfl (by simp; omega) rfl ?_
        refine WL.s rfl (by simp; omega) rfl ?_
        refine WL.c rfl (o_pickF rfl (by simp; omega) ?_)
        refine WL.nil ?_
        refine W.condF' rfl (rfl) ?_
        refine W.exit ?_
        refine W.seq ?_
        refine W.region ?_
        refine WL.c rfl (o_mvh h0 ?_)
        refine WL.c rfl (o_mvh h1 ?_)
        refine WL.c rfl (o_mvh h7 ?_)
        refine WL.c rfl (o_ssT TI9 rfl (Lo.s rfl) (Hi.s rfl) (by omega) (by omega) ?_)
        refine WL.c rfl (o_call Try.call75 (lc rfl ln) ((rnumber_spec (sub xs k j) _ (by have := sub_len xs k j; omega) (by rw [← hr, sub_run]; exact takeWhile_all digB _)).mono ?_))
        rintro v62 w62 ⟨n, b, rfl, hnum, rfl⟩
        refine WL.c rfl (o_mv ?_)
        refine WL.c rfl (o_ext rfl rfl ?_)
        refine WL.c rfl (o_ext rfl rfl ?_)
        refine WL.c rfl (o_as ?_)
        refine WL.c rfl (o_as ?_)
        refine WL.nil ?_
        refine W.seq ?_
        refine W.seq ?_
        refine W.region ?_
        refine WL.c rfl (o_mv ?_)
        refine WL.c rfl (o_not' rfl ?_)
        refine WL.nil ?_
        refine W.cond rfl (fun c66 => ?_) (fun c66 => ?_)
        · try simp only [decide_eq_true_eq, decide_eq_false_iff_not, Bool.not_eq_true', Bool.not_eq_false', Bool.and_eq_true, Bool.or_eq_true, Bool.and_eq_false_iff, Bool.or_eq_false_iff] at c66
          refine W.seq ?_
          refine W.region ?_
          refine WL.c rfl (o_bldC (cs := [(.int .i64 0), (.string ⟨#[]⟩), (.int .i64 0), (.int .i64 0), (.int .i64 0)]) TI58 (Sizes.cons TI3 (Sizes.cons TI9 (Sizes.cons TI3 (Sizes.cons TI3 (Sizes.cons TI3 Sizes.nil))))) rfl lnp rfl rfl ?_)
          refine WL.u (o_stA TI58 h4 rfl rfl rfl hB4 rfl ?_)
          intro wE hE hoE hsE
          have hxE := Ext.own hx4 (Nat.le_refl _) hoE
          refine WL.c rfl (o_as ?_)
          refine WL.nil ?_
          refine W.ret ?_
          refine retCT rfl TI58 rfl (show _ = Value.int _ _ from rfl) h4 (cells_all hE) rfl ?_
          rw [c66] at hnum
          have ho : oneL xs k hk = (51, ⟨2, [], 0, k, runL digB xs k⟩) := by unfold oneL; rw [if_neg (by simp [c15]), if_pos c42, hr, hnum]; rfl
          exact ⟨by rw [oneR, ho]; rfl, hxE⟩
        · try simp only [decide_eq_true_eq, decide_eq_false_iff_not, Bool.not_eq_true', Bool.not_eq_false', Bool.and_eq_true, Bool.or_eq_true, Bool.and_eq_false_iff, Bool.or_eq_false_iff] at c66
          refine W.skip ?_
          refine W.seq ?_
          refine W.region ?_
          refine WL.c rfl (o_mv ?_)
          refine WL.c rfl (o_mvh h1 ?_)
          refine WL.c rfl (o_mvh h7 ?_)
          refine WL.c rfl (o_bldC (cs := [(.int .i64 2), (.string ⟨#[]⟩), _, _, _]) TI58 (Sizes.cons TI3 (Sizes.cons TI9 (Sizes.cons TI3 (Sizes.cons TI3 (Sizes.cons TI3 Sizes.nil))))) rfl (lcp (show _ = Value.int _ _ from rfl) (lcp (show _ = Value.int _ _ from rfl) (lcp (show _ = Value.int _ _ from rfl) (lcp (show _ = Value.int _ _ from rfl) lnp)))) rfl rfl ?_)
          refine WL.u (o_stA TI58 h4 rfl rfl rfl hB4 rfl ?_)
          intro wE hE hoE hsE
          have hxE := Ext.own hx4 (Nat.le_refl _) hoE
          refine WL.c rfl (o_as ?_)
          refine WL.nil ?_
          refine W.ret ?_
          refine retCT rfl TI58 rfl (show _ = Value.int _ _ from rfl) h4 (cells_all hE) rfl ?_
          rw [c66] at hnum
          have ho : oneL xs k hk = (0, ⟨2, [], n, k, runL digB xs k⟩) := by unfold oneL; rw [if_neg (by simp [c15]), if_pos c42, hr, hnum]; rfl
          exact ⟨by rw [oneR, ho, hr]; rfl, hxE⟩
    · try simp only [decide_eq_true_eq, decide_eq_false_iff_not, Bool.not_eq_true', Bool.not_eq_false', Bool.and_eq_true, Bool.or_eq_true, Bool.and_eq_false_iff, Bool.or_eq_false_iff] at c42
      refine W.seq ?_
      refine W.region ?_
      refine WL.c rfl (o_mv ?_)
      refine WL.c rfl (o_call Try.call76 (lc rfl ln) ((rmark_spec xs[k] _).mono ?_))
      rintro v74 w74 ⟨rfl, rfl⟩
      refine WL.c rfl (o_as ?_)
      refine WL.nil ?_
      refine W.cond rfl (fun c72 => ?_) (fun c72 => ?_)
      · try simp only [decide_eq_true_eq, decide_eq_false_iff_not, Bool.not_eq_true', Bool.not_eq_false', Bool.and_eq_true, Bool.or_eq_true, Bool.and_eq_false_iff, Bool.or_eq_false_iff] at c72
        refine W.seq ?_
        refine W.region ?_
        refine WL.c rfl (o_mv ?_)
        refine WL.c rfl (o_mv ?_)
        refine WL.c rfl (o_mv ?_)
        refine WL.c rfl (o_ssT TI9 rfl (Lo.s rfl) (Hi.s rfl) (by show k ≤ k + 1; omega) (by show k + 1 ≤ _; omega) ?_)
        refine WL.c rfl (o_mv ?_)
        refine WL.c rfl (o_mv ?_)
        refine WL.c rfl (o_bldC (cs := [(.int .i64 3), _, (.int .i64 0), _, _]) TI58 (Sizes.cons TI3 (Sizes.cons TI9 (Sizes.cons TI3 (Sizes.cons TI3 (Sizes.cons TI3 Sizes.nil))))) rfl (lcp (show _ = Value.int _ _ from rfl) (lcp (show _ = Value.string _ from rfl) (lcp (show _ = Value.int _ _ from rfl) (lcp (show _ = Value.int _ _ from rfl) lnp)))) rfl rfl ?_)
        refine WL.u (o_stA TI58 rfl rfl rfl rfl hB4 rfl ?_)
        intro wE hE hoE hsE
        have hxE := Ext.own hx4 (Nat.le_refl _) hoE
        refine WL.c rfl (o_as ?_)
        refine WL.nil ?_
        refine W.ret ?_
        refine retCT rfl TI58 rfl (show _ = Value.int _ _ from rfl) rfl (cells_all hE) rfl ?_
        have ho : oneL xs k hk = (0, ⟨3, sub xs k (k + 1), 0, k, k + 1⟩) := by unfold oneL; rw [if_neg (by simp [c15]), if_neg (by simp [c42]), if_pos c72]
        exact ⟨by rw [oneR, ho]; rfl, hxE⟩
      · try simp only [decide_eq_true_eq, decide_eq_false_iff_not, Bool.not_eq_true', Bool.not_eq_false', Bool.and_eq_true, Bool.or_eq_true, Bool.and_eq_false_iff, Bool.or_eq_false_iff] at c72
        refine W.skip ?_
        refine W.seq ?_
        refine W.region ?_
        refine WL.c rfl (o_bldC (cs := [(.int .i64 0), (.string ⟨#[]⟩), (.int .i64 0), (.int .i64 0), (.int .i64 0)]) TI58 (Sizes.cons TI3 (Sizes.cons TI9 (Sizes.cons TI3 (Sizes.cons TI3 (Sizes.cons TI3 Sizes.nil))))) rfl lnp rfl rfl ?_)
        refine WL.u (o_stA TI58 rfl rfl rfl rfl hB4 rfl ?_)
        intro wE hE hoE hsE
        have hxE := Ext.own hx4 (Nat.le_refl _) hoE
        refine WL.c rfl (o_as ?_)
        refine WL.nil ?_
        refine W.ret ?_
        refine retCT rfl TI58 rfl (show _ = Value.int _ _ from rfl) rfl (cells_all hE) rfl ?_
        have ho : oneL xs k hk = (50, ⟨0, [], 0, k, 0⟩) := by unfold oneL; rw [if_neg (by simp [c15]), if_neg (by simp [c42]), if_neg (by simp [c72])]
        exact ⟨by rw [oneR, ho]; rfl, hxE⟩
set_option maxHeartbeats 1000000 in
theorem rcut_spec (xs : List UInt8) (w0 : World) (hlen : xs.length ≤ 9223372036854775807) : Ca Try.prog 41 #[st xs] w0 (fun v w' => ∃ v1, v = .tuple #[v1, .int .i64 ((cutA xs).2.1 : Int), .int .i64 ((cutA xs).2.2 : Int)] ∧ w'.ownsRow w0.heap.size 58 5 v1 (cutA xs).1.length (flat (cutA xs).1) ∧ Ext w0 w') := by
  refine Ca.of Try.func41 Try.ntmps41 rfl rfl ?_
  refine W.seq ?_
  refine W.region ?_
  refine WL.c rfl (o_as ?_)
  refine WL.c rfl (o_as ?_)
  refine WL.c rfl (o_as ?_)
  refine WL.nil ?_
  refine W.seq ?_
  refine W.seq ?_
  refine W.region ?_
  refine WL.c rfl (o_mv ?_)
  refine WL.c rfl (o_lenT TI9 rfl ?_)
  refine WL.c rfl (o_gt rfl rfl ?_)
  refine WL.nil ?_
  refine W.cond rfl (fun c13 => ?_) (fun c13 => ?_)
  · try simp only [decide_eq_true_eq, decide_eq_false_iff_not, Bool.not_eq_true', Bool.not_eq_false', Bool.and_eq_true, Bool.or_eq_true, Bool.and_eq_false_iff, Bool.or_eq_false_iff] at c13
    refine W.seq ?_
    refine W.region ?_
    refine WL.c rfl (o_as ?_)
    refine WL.c rfl (o_as ?_)
    refine WL.c rfl (o_as ?_)
    refine WL.nil ?_
    refine W.ret ?_
    refine ret3v rfl rfl (show _ = Value.int _ _ from rfl) (show _ = Value.int _ _ from rfl) ?_
    have ha : cutA xs = ([], 4, 0) := by unfold cutA; rw [if_pos (by omega)]
    rw [ha]; exact ⟨_, rfl, World.ownsRow_nil _ _ _ _, Only.refl No _⟩
  · try simp only [decide_eq_true_eq, decide_eq_false_iff_not, Bool.not_eq_true', Bool.not_eq_false', Bool.and_eq_true, Bool.or_eq_true, Bool.and_eq_false_iff, Bool.or_eq_false_iff] at c13
    refine W.skip ?_
    refine W.seq ?_
    refine W.region ?_
    refine WL.c rfl (o_as ?_)
    refine WL.nil ?_
    refine W.seq ?_
    refine W.region ?_
    refine WL.c rfl (o_as ?_)
    refine WL.nil ?_
    refine W.seq ?_
    refine W.seq ?_
    refine W.region ?_
    refine WL.c rfl (o_as ?_)
    refine WL.nil ?_
    refine W.block ?_
    refine W.loop (fun e w => ∃ (k : Nat) (ts : List Tk) (v5 : Value) (rm : Bool), k ≤ xs.length ∧ ts.length ≤ k ∧ e 0 = st xs ∧ e 5 = v5 ∧ e 6 = .bool rm ∧ e 7 = .int .i64 (k : Int) ∧ w.ownsRow w0.heap.size 58 5 v5 ts.length (flat ts) ∧ cutL xs 0 = (ts ++ (cutL xs (if rm then runL nnlB xs k else k)).1, (cutL xs (if rm then runL nnlB xs k else k)).2) ∧ Ext w0 w) (fun e w => xs.length - (intOf (e 7)).toNat) ?_ ?_
    · exact ⟨0, [], _, false, Nat.zero_le _, Nat.le_refl _, rfl, rfl, rfl, rfl, World.ownsRow_nil _ _ _ _, by simp, Only.refl No _⟩
    rintro e w ⟨k, ts, v5, rm, hk, hts, h0, h5, h6, h7, hown, hcut, hx⟩
    have hm7 := h7
    have hc0 := cutL_eq xs k
    refine W.seq ?_
    refine W.seq ?_
    by_cases hk1 : k < xs.length
    · skip
      rw [dif_pos hk1] at hc0
      have hlen5 : k < 65536 := by omega
      refine W.region ?_
      refine WL.c rfl (o_mvh h7 ?_)
      refine WL.c rfl (o_mvh h0 ?_)
      refine WL.c rfl (o_lenT TI9 rfl ?_)
      refine WL.c rfl (o_lt rfl rfl ?_)
      refine WL.nil ?_
      refine W.condT' rfl (by simp; omega) ?_
      refine W.skip ?_
      refine W.seq ?_
      refine W.block ?_
      refine W.seq ?_
      refine W.region ?_
      refine WL.c rfl (o_mvh h0 ?_)
      refine WL.c rfl (o_mvh h7 ?_)
      refine WL.c rfl (o_idT TI9 rfl rfl (hk1) ?_)
      refine WL.c rfl (o_as ?_)
      refine WL.nil ?_
      refine W.seq ?_
      refine W.seq ?_
      refine W.region ?_
      refine WL.c rfl (o_mvh h6 ?_)
      refine WL.nil ?_
      refine W.cond rfl (fun c23 => ?_) (fun c23 => ?_)
      · try simp only [decide_eq_true_eq, decide_eq_false_iff_not, Bool.not_eq_true', Bool.not_eq_false', Bool.and_eq_true, Bool.or_eq_true, Bool.and_eq_false_iff, Bool.or_eq_false_iff] at c23
        rw [c23] at hcut
        refine W.seq ?_
        refine W.region ?_
        refine WL.c rfl (o_mv ?_)
        refine WL.c rfl (o_ne rfl rfl ?_)
        refine WL.c rfl (o_as ?_)
        refine WL.nil ?_
        refine W.exit ?_
        refine W.region ?_
        refine WL.c rfl (o_mvh h7 ?_)
        refine WL.c rfl (o_addi rfl rfl (by omega) ?_)
        refine WL.c rfl (o_as ?_)
        refine WL.nil ?_
        first
        | (have hA : rm = true := c23
           refine ⟨⟨k + 1, ts, v5, _, by omega, by omega, h0, h5, rfl, rfl, hown, ?_, hx⟩, by show xs.length - ((k : Int) + 1).toNat < _; rw [hm7]; simp [intOf]; omega⟩
           by_cases hc : (xs[k]).toNat = 10
           · have hs := runL_stop (p := nnlB) hk1 (by simp [nnlB, hc])
             rw [if_pos rfl, hs, hc0, if_neg (by omega), if_pos (by simp [blankB, hc])] at hcut
             simpa [hc] using hcut
           · have hg := runL_go (p := nnlB) hk1 (by simp [nnlB, hc])
             rw [if_pos rfl, hg] at hcut
             have hc' : ¬ ((xs[k]).toNat : Int) = 10 := by omega
             simpa [hc'] using hcut)
        | (have hB : blankB xs[k] = true := c27
           refine ⟨⟨k + 1, ts, v5, false, by omega, by omega, h0, h5, h6.trans (congrArg Value.bool c23), rfl, hown, ?_, hx⟩, by show xs.length - ((k : Int) + 1).toNat < _; rw [hm7]; simp [intOf]; omega⟩
           have hn : ¬ (xs[k]).toNat = 35 := by simp [blankB] at hB; omega
           rw [hc0, if_neg hn, if_pos hB] at hcut
           exact hcut)
        | (have hD := hfin
           refine ⟨⟨(oneL xs k hk1).2.fin, ts ++ [(oneL xs k hk1).2], v43, false, by omega, by simp; omega, h0, rfl, h6.trans (congrArg Value.bool c23), (by show Value.int .i64 ((((oneL xs k hk1).2.fin : Nat) : Int) - 1 + 1) = _; congr 1; omega), by rw [List.length_append]; exact hown43, ?_, hx43⟩, by show xs.length - ((((oneL xs k hk1).2.fin : Nat) : Int) - 1 + 1).toNat < _; rw [hm7]; simp [intOf]; omega⟩
           rw [hc0] at hcut
           rw [hcut]; simp)
        | (have hC : (xs[k]).toNat = 35 := by omega
           refine ⟨⟨k + 1, ts, v5, true, by omega, by omega, h0, h5, rfl, rfl, hown, ?_, hx⟩, by show xs.length - ((k : Int) + 1).toNat < _; rw [hm7]; simp [intOf]; omega⟩
           rw [hc0, if_pos hC] at hcut
           exact hcut)
      · try simp only [decide_eq_true_eq, decide_eq_false_iff_not, Bool.not_eq_true', Bool.not_eq_false', Bool.and_eq_true, Bool.or_eq_true, Bool.and_eq_false_iff, Bool.or_eq_false_iff] at c23
        have hrm : rm = false := c23
        rw [hrm] at hcut
        have hnn : (if false = true then runL nnlB xs k else k) = k := rfl
        rw [hnn] at hcut
        refine W.skip ?_
        refine W.seq ?_
        refine W.seq ?_
        refine W.region ?_
        refine WL.c rfl (o_mv ?_)
        refine WL.c rfl (o_call Try.call65 (lc rfl ln) ((rblank_spec xs[k] _).mono ?_))
        rintro v27 w27 ⟨rfl, rfl⟩
        refine WL.nil ?_
        refine W.cond rfl (fun c27 => ?_) (fun c27 => ?_)
        · try simp only [decide_eq_true_eq, decide_eq_false_iff_not, Bool.not_eq_true', Bool.not_eq_false', Bool.and_eq_true, Bool.or_eq_true, Bool.and_eq_false_iff, Bool.or_eq_false_iff] at c27
          refine W.exit ?_
          refine W.region ?_
          refine WL.c rfl (o_mvh h7 ?_)
          refine WL.c rfl (o_addi rfl rfl (by omega) ?_)
          refine WL.c rfl (o_as ?_)
          refine WL.nil ?_
          first
          | (have hA : rm = true := c23
             refine ⟨⟨k + 1, ts, v5, _, by omega, by omega, h0, h5, rfl, rfl, hown, ?_, hx⟩, by show xs.length - ((k : Int) + 1).toNat < _; rw [hm7]; simp [intOf]; omega⟩
             by_cases hc : (xs[k]).toNat = 10
             · have hs := runL_stop (p := nnlB) hk1 (by simp [nnlB, hc])
               rw [if_pos rfl, hs, hc0, if_neg (by omega), if_pos (by simp [blankB, hc])] at hcut
               simpa [hc] using hcut
             · have hg := runL_go (p := nnlB) hk1 (by simp [nnlB, hc])
               rw [if_pos rfl, hg] at hcut
               have hc' : ¬ ((xs[k]).toNat : Int) = 10 := by omega
               simpa [hc'] using hcut)
          | (have hB : blankB xs[k] = true := c27
             refine ⟨⟨k + 1, ts, v5, false, by omega, by omega, h0, h5, h6.trans (congrArg Value.bool c23), rfl, hown, ?_, hx⟩, by show xs.length - ((k : Int) + 1).toNat < _; rw [hm7]; simp [intOf]; omega⟩
             have hn : ¬ (xs[k]).toNat = 35 := by simp [blankB] at hB; omega
             rw [hc0, if_neg hn, if_pos hB] at hcut
             exact hcut)
          | (have hD := hfin
             refine ⟨⟨(oneL xs k hk1).2.fin, ts ++ [(oneL xs k hk1).2], v43, false, by omega, by simp; omega, h0, rfl, h6.trans (congrArg Value.bool c23), (by show Value.int .i64 ((((oneL xs k hk1).2.fin : Nat) : Int) - 1 + 1) = _; congr 1; omega), by rw [List.length_append]; exact hown43, ?_, hx43⟩, by show xs.length - ((((oneL xs k hk1).2.fin : Nat) : Int) - 1 + 1).toNat < _; rw [hm7]; simp [intOf]; omega⟩
             rw [hc0] at hcut
             rw [hcut]; simp)
          | (have hC : (xs[k]).toNat = 35 := by omega
             refine ⟨⟨k + 1, ts, v5, true, by omega, by omega, h0, h5, rfl, rfl, hown, ?_, hx⟩, by show xs.length - ((k : Int) + 1).toNat < _; rw [hm7]; simp [intOf]; omega⟩
             rw [hc0, if_pos hC] at hcut
             exact hcut)
        · try simp only [decide_eq_true_eq, decide_eq_false_iff_not, Bool.not_eq_true', Bool.not_eq_false', Bool.and_eq_true, Bool.or_eq_true, Bool.and_eq_false_iff, Bool.or_eq_false_iff] at c27
          refine W.skip ?_
          refine W.seq ?_
          refine W.seq ?_
          refine W.region ?_
          refine WL.c rfl (o_mv ?_)
          refine WL.c rfl (o_eq rfl rfl ?_)
          refine WL.nil ?_
          refine W.cond rfl (fun c29 => ?_) (fun c29 => ?_)
          · try simp only [decide_eq_true_eq, decide_eq_false_iff_not, Bool.not_eq_true', Bool.not_eq_false', Bool.and_eq_true, Bool.or_eq_true, Bool.and_eq_false_iff, Bool.or_eq_false_iff] at c29
            refine W.seq ?_
            refine W.region ?_
            refine WL.c rfl (o_as ?_)
            refine WL.nil ?_
            refine W.exit ?_
            refine W.region ?_
            refine WL.c rfl (o_mvh h7 ?_)
            refine WL.c rfl (o_addi rfl rfl (by omega) ?_)
            refine WL.c rfl (o_as ?_)
            refine WL.nil ?_
            first
            | (have hA : rm = true := c23
               refine ⟨⟨k + 1, ts, v5, _, by omega, by omega, h0, h5, rfl, rfl, hown, ?_, hx⟩, by show xs.length - ((k : Int) + 1).toNat < _; rw [hm7]; simp [intOf]; omega⟩
               by_cases hc : (xs[k]).toNat = 10
               · have hs := runL_stop (p := nnlB) hk1 (by simp [nnlB, hc])
                 rw [if_pos rfl, hs, hc0, if_neg (by omega), if_pos (by simp [blankB, hc])] at hcut
                 simpa [hc] using hcut
               · have hg := runL_go (p := nnlB) hk1 (by simp [nnlB, hc])
                 rw [if_pos rfl, hg] at hcut
                 have hc' : ¬ ((xs[k]).toNat : Int) = 10 := by omega
                 simpa [hc'] using hcut)
            | (have hB : blankB xs[k] = true := c27
               refine ⟨⟨k + 1, ts, v5, false, by omega, by omega, h0, h5, h6.trans (congrArg Value.bool c23), rfl, hown, ?_, hx⟩, by show xs.length - ((k : Int) + 1).toNat < _; rw [hm7]; simp [intOf]; omega⟩
               have hn : ¬ (xs[k]).toNat = 35 := by simp [blankB] at hB; omega
               rw [hc0, if_neg hn, if_pos hB] at hcut
               exact hcut)
            | (have hD := hfin
               refine ⟨⟨(oneL xs k hk1).2.fin, ts ++ [(oneL xs k hk1).2], v43, false, by omega, by simp; omega, h0, rfl, h6.trans (congrArg Value.bool c23), (by show Value.int .i64 ((((oneL xs k hk1).2.fin : Nat) : Int) - 1 + 1) = _; congr 1; omega), by rw [List.length_append]; exact hown43, ?_, hx43⟩, by show xs.length - ((((oneL xs k hk1).2.fin : Nat) : Int) - 1 + 1).toNat < _; rw [hm7]; simp [intOf]; omega⟩
               rw [hc0] at hcut
               rw [hcut]; simp)
            | (have hC : (xs[k]).toNat = 35 := by omega
               refine ⟨⟨k + 1, ts, v5, true, by omega, by omega, h0, h5, rfl, rfl, hown, ?_, hx⟩, by show xs.length - ((k : Int) + 1).toNat < _; rw [hm7]; simp [intOf]; omega⟩
               rw [hc0, if_pos hC] at hcut
               exact hcut)
          · try simp only [decide_eq_true_eq, decide_eq_false_iff_not, Bool.not_eq_true', Bool.not_eq_false', Bool.and_eq_true, Bool.or_eq_true, Bool.and_eq_false_iff, Bool.or_eq_false_iff] at c29
            refine W.skip ?_
            refine W.seq ?_
            refine W.region ?_
            refine WL.c rfl (o_mvh h0 ?_)
            refine WL.c rfl (o_mvh h7 ?_)
            refine WL.c rfl (o_call Try.call66 (lc rfl (lc rfl ln)) ((rone_spec xs k hk1 _ hlen).mono ?_))
            rintro v33 w33 ⟨rfl, hx33⟩
            replace hown := own_ext hown hx33
            replace hx := hx.tr hx33
            have hsz := hx.size
            refine WL.c rfl (o_mv ?_)
            refine WL.c rfl (o_ext rfl rfl ?_)
            refine WL.c rfl (o_ext rfl rfl ?_)
            refine WL.c rfl (o_alB TI58 ?_)
            intro w9 hB9 hx9 hs9
            have hlt := hown.lt
            replace hown := own_ext hown hx9
            replace hx := hx.tr hx9
            refine WL.u (o_stA TI58 rfl rfl rfl rfl hB9 rfl ?_)
            intro w36 hB9 ho9 hs36
            replace hown := own_only hown ho9 (fun j hj he => by have := hlt j hj; omega)
            replace hx := Ext.own hx (by omega) ho9
            refine WL.c rfl (o_as ?_)
            refine WL.nil ?_
            refine W.seq ?_
            refine W.seq ?_
            refine W.region ?_
            refine WL.c rfl (o_mv ?_)
            refine WL.c rfl (o_ne rfl rfl ?_)
            refine WL.nil ?_
            refine W.cond rfl (fun c37 => ?_) (fun c37 => ?_)
            · try simp only [decide_eq_true_eq, decide_eq_false_iff_not, Bool.not_eq_true', Bool.not_eq_false', Bool.and_eq_true, Bool.or_eq_true, Bool.and_eq_false_iff, Bool.or_eq_false_iff] at c37
              refine W.seq ?_
              refine W.region ?_
              refine WL.c rfl (o_mv ?_)
              refine WL.c rfl (o_mvh h7 ?_)
              refine WL.c rfl (o_as ?_)
              refine WL.c rfl (o_as ?_)
              refine WL.c rfl (o_as ?_)
              refine WL.nil ?_
              refine W.ret ?_
              refine ret3v rfl rfl (show _ = Value.int .i64 ((oneL xs k hk1).1 : Int) from rfl) (show _ = Value.int _ _ from rfl) ?_
              rw [if_neg (by omega), if_neg (by simp [c27]), dif_neg (by omega)] at hc0
              have ha : cutA xs = ([], (oneL xs k hk1).1, k) := by unfold cutA; rw [if_neg (by omega), hcut, hc0, if_neg (by show ¬ (oneL xs k hk1).1 = 0; omega)]
              rw [ha]; exact ⟨_, rfl, World.ownsRow_nil _ _ _ _, hx⟩
            · try simp only [decide_eq_true_eq, decide_eq_false_iff_not, Bool.not_eq_true', Bool.not_eq_false', Bool.and_eq_true, Bool.or_eq_true, Bool.and_eq_false_iff, Bool.or_eq_false_iff] at c37
              have hz : (oneL xs k hk1).1 = 0 := by omega
              have hfin := oneL_fin xs k hk1 hz
              rw [if_neg (by omega), if_neg (by simp [c27]), dif_pos hz] at hc0
              have hoR : oneR xs k hk1 = (oneL xs k hk1).2 := by unfold oneR; rw [if_pos hz]
              rw [hoR] at hB9
              refine W.skip ?_
              refine W.seq ?_
              refine W.region ?_
              refine WL.c rfl (o_mvh h5 ?_)
              refine WL.c rfl (o_ldA TI58 rfl rfl (cells_all hB9) rfl ?_)
              refine WL.ap1 (w0.heap.size) rfl rfl TI54 TI58 (show _ = Value.agg (tokV (oneL xs k hk1).2) from rfl) rfl hown (by decide) (by decide) rfl (tok_one _) rfl (by rw [maxLen_eq]; omega) (by omega) (by omega) ?_
              intro v43 w43 hown43 ho43
              replace hB9 := ho43.blk hB9 (fun h => by have := (hlt _ h).2; omega)
              rw [← flat_snoc] at hown43
              have hx43 : Ext w0 w43 := hx.trans' ho43 (fun _ h => h) (fun j hj he => by have := (hown.lt _ he).1; omega)
              refine WL.c rfl (o_as ?_)
              refine WL.nil ?_
              refine W.region ?_
              refine WL.c rfl (o_fa 4 TI58 rfl TI3 rfl rfl ?_)
              refine WL.c rfl (o_ld TI3 rfl rfl (cell_of hB9 rfl) ?_)
              refine WL.c rfl (o_subi rfl rfl (by omega) ?_)
              refine WL.c rfl (o_as ?_)
              refine WL.nil ?_
              refine W.region ?_
              refine WL.c rfl (o_mv ?_)
              refine WL.c rfl (o_addi rfl rfl (by omega) ?_)
              refine WL.c rfl (o_as ?_)
              refine WL.nil ?_
              first
              | (have hA : rm = true := c23
                 refine ⟨⟨k + 1, ts, v5, _, by omega, by omega, h0, h5, rfl, rfl, hown, ?_, hx⟩, by show xs.length - ((k : Int) + 1).toNat < _; rw [hm7]; simp [intOf]; omega⟩
                 by_cases hc : (xs[k]).toNat = 10
                 · have hs := runL_stop (p := nnlB) hk1 (by simp [nnlB, hc])
                   rw [if_pos rfl, hs, hc0, if_neg (by omega), if_pos (by simp [blankB, hc])] at hcut
                   simpa [hc] using hcut
                 · have hg := runL_go (p := nnlB) hk1 (by simp [nnlB, hc])
                   rw [if_pos rfl, hg] at hcut
                   have hc' : ¬ ((xs[k]).toNat : Int) = 10 := by omega
                   simpa [hc'] using hcut)
              | (have hB : blankB xs[k] = true := c27
                 refine ⟨⟨k + 1, ts, v5, false, by omega, by omega, h0, h5, h6.trans (congrArg Value.bool c23), rfl, hown, ?_, hx⟩, by show xs.length - ((k : Int) + 1).toNat < _; rw [hm7]; simp [intOf]; omega⟩
                 have hn : ¬ (xs[k]).toNat = 35 := by simp [blankB] at hB; omega
                 rw [hc0, if_neg hn, if_pos hB] at hcut
                 exact hcut)
              | (have hD := hfin
                 refine ⟨⟨(oneL xs k hk1).2.fin, ts ++ [(oneL xs k hk1).2], v43, false, by omega, by simp; omega, h0, rfl, h6.trans (congrArg Value.bool c23), (by show Value.int .i64 ((((oneL xs k hk1).2.fin : Nat) : Int) - 1 + 1) = _; congr 1; omega), by rw [List.length_append]; exact hown43, ?_, hx43⟩, by show xs.length - ((((oneL xs k hk1).2.fin : Nat) : Int) - 1 + 1).toNat < _; rw [hm7]; simp [intOf]; omega⟩
                 rw [hc0] at hcut
                 rw [hcut]; simp)
              | (have hC : (xs[k]).toNat = 35 := by omega
                 refine ⟨⟨k + 1, ts, v5, true, by omega, by omega, h0, h5, rfl, rfl, hown, ?_, hx⟩, by show xs.length - ((k : Int) + 1).toNat < _; rw [hm7]; simp [intOf]; omega⟩
                 rw [hc0, if_pos hC] at hcut
                 exact hcut)
    · skip
      rw [dif_neg hk1] at hc0
      refine W.region ?_
      refine WL.c rfl (o_mvh h7 ?_)
      refine WL.c rfl (o_mvh h0 ?_)
      refine WL.c rfl (o_lenT TI9 rfl ?_)
      refine WL.c rfl (o_lt rfl rfl ?_)
      refine WL.nil ?_
      refine W.condF' rfl (by simp; omega) ?_
      refine W.exit ?_
      refine W.seq ?_
      refine W.region ?_
      refine WL.c rfl (o_mvh h5 ?_)
      refine WL.c rfl (o_as ?_)
      refine WL.c rfl (o_as ?_)
      refine WL.c rfl (o_as ?_)
      refine WL.nil ?_
      refine W.ret ?_
      refine ret3v rfl rfl (show _ = Value.int _ _ from rfl) (show _ = Value.int _ _ from rfl) ?_
      have hk2 : k = xs.length := by omega
      have hz : (if rm = true then runL nnlB xs k else k) = k := by cases rm <;> simp [runL_end (p := nnlB) (xs := xs) (k := k) (by omega)]
      have ha : cutA xs = (ts, 0, 0) := by unfold cutA; rw [if_neg (by omega), hcut, hz, hc0]; simp
      rw [ha]; exact ⟨_, rfl, hown, hx⟩
end Go.Proofs.Ytcljkkfpcomdcaa
