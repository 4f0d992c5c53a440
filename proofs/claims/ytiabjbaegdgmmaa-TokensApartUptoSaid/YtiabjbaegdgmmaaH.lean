/-
  Walks. Written by program out of specs of mine.
-/
import Derived.Test.YtiabjbaegdgmmaaG
set_option linter.unusedSimpArgs false
set_option linter.unusedVariables false
namespace Go.Proofs.Ytiabjbaegdgmmaa
open Go Go.Vc Go.RowKit Go.Proofs

def hdB (xs : List UInt8) : Bool := decide (xs = []) || decide (32 < xs.length) || !(xs.head?.any letB) || wordB xs
theorem nameB_hd (xs : List UInt8) : nameB xs = (!hdB xs && xs.all goeB) := by
  rw [Bool.eq_iff_iff]
  simp [nameB, hdB]
  constructor
  · rintro ⟨⟨⟨⟨h1, h2⟩, h3⟩, h4⟩, h5⟩; exact ⟨⟨⟨⟨h1, h2⟩, h3⟩, h5⟩, h4⟩
  · rintro ⟨⟨⟨⟨h1, h2⟩, h3⟩, h5⟩, h4⟩; exact ⟨⟨⟨⟨h1, h2⟩, h3⟩, h4⟩, h5⟩
theorem all_bad {p : UInt8 → Bool} {xs : List UInt8} {k : Nat} (hk : k < xs.length) (hp : p xs[k] = false) : xs.all p = false :=
  List.all_eq_false.2 ⟨xs[k], List.getElem_mem hk, by simp [hp]⟩
theorem all_more {p : UInt8 → Bool} {xs : List UInt8} {k : Nat} (hk : k < xs.length) (hp : p xs[k] = true) (h : (xs.take k).all p = true) : (xs.take (k + 1)).all p = true := by
  rw [List.take_succ_eq_append_getElem hk, List.all_append, h]; simp [hp]

theorem rword_spec (xs : List UInt8) (w0 : World) : Ca Try.prog 12 #[st xs] w0 (fun v w' => v = .bool (wordB xs) ∧ w' = w0) := by
  refine Ca.of Try.func12 Try.ntmps12 rfl rfl ?_
  refine W.seq ?_
  refine W.region ?_
  refine WL.c rfl (o_as ?_)
  refine WL.nil ?_
  refine W.seq ?_
  refine W.seq ?_
  refine W.region ?_
  refine WL.c rfl (o_mv ?_)
  refine WL.nil ?_
  refine W.block ?_
  refine W.seq ?_
  refine W.seq ?_
  refine W.region ?_
  refine WL.c rfl (o_eqT rfl rfl ?_)
  refine WL.c rfl (o_as ?_)
  refine WL.nil ?_
  refine W.cond rfl (fun c4 => ?_) (fun c4 => ?_)
  · try simp only [decide_eq_true_eq, decide_eq_false_iff_not, Bool.not_eq_true', Bool.not_eq_false', Bool.and_eq_true, Bool.or_eq_true, Bool.and_eq_false_iff, Bool.or_eq_false_iff] at c4
    refine W.skip ?_
    refine W.cond rfl (fun c4 => ?_) (fun c4 => ?_)
    · try simp only [decide_eq_true_eq, decide_eq_false_iff_not, Bool.not_eq_true', Bool.not_eq_false', Bool.and_eq_true, Bool.or_eq_true, Bool.and_eq_false_iff, Bool.or_eq_false_iff] at c4
      refine W.seq ?_
      refine W.region ?_
      refine WL.c rfl (o_as ?_)
      refine WL.nil ?_
      refine W.ret ?_
      refine ret1v rfl (show _ = Value.bool _ from rfl) ?_
      exact ⟨congrArg Value.bool (by simp_all [wordB, words]), rfl⟩
    · try simp only [decide_eq_true_eq, decide_eq_false_iff_not, Bool.not_eq_true', Bool.not_eq_false', Bool.and_eq_true, Bool.or_eq_true, Bool.and_eq_false_iff, Bool.or_eq_false_iff] at c4
      refine W.skip ?_
      refine W.seq ?_
      refine W.region ?_
      refine WL.c rfl (o_as ?_)
      refine WL.nil ?_
      refine W.ret ?_
      refine ret1v rfl (show _ = Value.bool _ from rfl) ?_
      exact ⟨congrArg Value.bool (by simp_all [wordB, words]), rfl⟩
  · try simp only [decide_eq_true_eq, decide_eq_false_iff_not, Bool.not_eq_true', Bool.not_eq_false', Bool.and_eq_true, Bool.or_eq_true, Bool.and_eq_false_iff, Bool.or_eq_false_iff] at c4
    refine W.seq ?_
    refine W.region ?_
    refine WL.c rfl (o_eqT rfl rfl ?_)
    refine WL.c rfl (o_as ?_)
    refine WL.nil ?_
    refine W.cond rfl (fun c4 => ?_) (fun c4 => ?_)
    · try simp only [decide_eq_true_eq, decide_eq_false_iff_not, Bool.not_eq_true', Bool.not_eq_false', Bool.and_eq_true, Bool.or_eq_true, Bool.and_eq_false_iff, Bool.or_eq_false_iff] at c4
      refine W.skip ?_
      refine W.cond rfl (fun c4 => ?_) (fun c4 => ?_)
      · try simp only [decide_eq_true_eq, decide_eq_false_iff_not, Bool.not_eq_true', Bool.not_eq_false', Bool.and_eq_true, Bool.or_eq_true, Bool.and_eq_false_iff, Bool.or_eq_false_iff] at c4
        refine W.seq ?_
        refine W.region ?_
        refine WL.c rfl (o_as ?_)
        refine WL.nil ?_
        refine W.ret ?_
        refine ret1v rfl (show _ = Value.bool _ from rfl) ?_
        exact ⟨congrArg Value.bool (by simp_all [wordB, words]), rfl⟩
      · try simp only [decide_eq_true_eq, decide_eq_false_iff_not, Bool.not_eq_true', Bool.not_eq_false', Bool.and_eq_true, Bool.or_eq_true, Bool.and_eq_false_iff, Bool.or_eq_false_iff] at c4
        refine W.skip ?_
        refine W.seq ?_
        refine W.region ?_
        refine WL.c rfl (o_as ?_)
        refine WL.nil ?_
        refine W.ret ?_
        refine ret1v rfl (show _ = Value.bool _ from rfl) ?_
        exact ⟨congrArg Value.bool (by simp_all [wordB, words]), rfl⟩
    · try simp only [decide_eq_true_eq, decide_eq_false_iff_not, Bool.not_eq_true', Bool.not_eq_false', Bool.and_eq_true, Bool.or_eq_true, Bool.and_eq_false_iff, Bool.or_eq_false_iff] at c4
      refine W.seq ?_
      refine W.region ?_
      refine WL.c rfl (o_eqT rfl rfl ?_)
      refine WL.c rfl (o_as ?_)
      refine WL.nil ?_
      refine W.cond rfl (fun c4 => ?_) (fun c4 => ?_)
      · try simp only [decide_eq_true_eq, decide_eq_false_iff_not, Bool.not_eq_true', Bool.not_eq_false', Bool.and_eq_true, Bool.or_eq_true, Bool.and_eq_false_iff, Bool.or_eq_false_iff] at c4
        refine W.skip ?_
        refine W.cond rfl (fun c4 => ?_) (fun c4 => ?_)
        · try simp only [decide_eq_true_eq, decide_eq_false_iff_not, Bool.not_eq_true', Bool.not_eq_false', Bool.and_eq_true, Bool.or_eq_true, Bool.and_eq_false_iff, Bool.or_eq_false_iff] at c4
          refine W.seq ?_
          refine W.region ?_
          refine WL.c rfl (o_as ?_)
          refine WL.nil ?_
          refine W.ret ?_
          refine ret1v rfl (show _ = Value.bool _ from rfl) ?_
          exact ⟨congrArg Value.bool (by simp_all [wordB, words]), rfl⟩
        · try simp only [decide_eq_true_eq, decide_eq_false_iff_not, Bool.not_eq_true', Bool.not_eq_false', Bool.and_eq_true, Bool.or_eq_true, Bool.and_eq_false_iff, Bool.or_eq_false_iff] at c4
          refine W.skip ?_
          refine W.seq ?_
          refine W.region ?_
          refine WL.c rfl (o_as ?_)
          refine WL.nil ?_
          refine W.ret ?_
          refine ret1v rfl (show _ = Value.bool _ from rfl) ?_
          exact ⟨congrArg Value.bool (by simp_all [wordB, words]), rfl⟩
      · try simp only [decide_eq_true_eq, decide_eq_false_iff_not, Bool.not_eq_true', Bool.not_eq_false', Bool.and_eq_true, Bool.or_eq_true, Bool.and_eq_false_iff, Bool.or_eq_false_iff] at c4
        refine W.seq ?_
        refine W.region ?_
        refine WL.c rfl (o_eqT rfl rfl ?_)
        refine WL.c rfl (o_as ?_)
        refine WL.nil ?_
        refine W.cond rfl (fun c4 => ?_) (fun c4 => ?_)
        · try simp only [decide_eq_true_eq, decide_eq_false_iff_not, Bool.not_eq_true', Bool.not_eq_false', Bool.and_eq_true, Bool.or_eq_true, Bool.and_eq_false_iff, Bool.or_eq_false_iff] at c4
          refine W.skip ?_
          refine W.cond rfl (fun c4 => ?_) (fun c4 => ?_)
          · try simp only [decide_eq_true_eq, decide_eq_false_iff_not, Bool.not_eq_true', Bool.not_eq_false', Bool.and_eq_true, Bool.or_eq_true, Bool.and_eq_false_iff, Bool.or_eq_false_iff] at c4
            refine W.seq ?_
            refine W.region ?_
            refine WL.c rfl (o_as ?_)
            refine WL.nil ?_
            refine W.ret ?_
            refine ret1v rfl (show _ = Value.bool _ from rfl) ?_
            exact ⟨congrArg Value.bool (by simp_all [wordB, words]), rfl⟩
          · try simp only [decide_eq_true_eq, decide_eq_false_iff_not, Bool.not_eq_true', Bool.not_eq_false', Bool.and_eq_true, Bool.or_eq_true, Bool.and_eq_false_iff, Bool.or_eq_false_iff] at c4
            refine W.skip ?_
            refine W.seq ?_
            refine W.region ?_
            refine WL.c rfl (o_as ?_)
            refine WL.nil ?_
            refine W.ret ?_
            refine ret1v rfl (show _ = Value.bool _ from rfl) ?_
            exact ⟨congrArg Value.bool (by simp_all [wordB, words]), rfl⟩
        · try simp only [decide_eq_true_eq, decide_eq_false_iff_not, Bool.not_eq_true', Bool.not_eq_false', Bool.and_eq_true, Bool.or_eq_true, Bool.and_eq_false_iff, Bool.or_eq_false_iff] at c4
          refine W.seq ?_
          refine W.region ?_
          refine WL.c rfl (o_eqT rfl rfl ?_)
          refine WL.c rfl (o_as ?_)
          refine WL.nil ?_
          refine W.cond rfl (fun c4 => ?_) (fun c4 => ?_)
          · try simp only [decide_eq_true_eq, decide_eq_false_iff_not, Bool.not_eq_true', Bool.not_eq_false', Bool.and_eq_true, Bool.or_eq_true, Bool.and_eq_false_iff, Bool.or_eq_false_iff] at c4
            refine W.skip ?_
            refine W.cond rfl (fun c4 => ?_) (fun c4 => ?_)
            · try simp only [decide_eq_true_eq, decide_eq_false_iff_not, Bool.not_eq_true', Bool.not_eq_false', Bool.and_eq_true, Bool.or_eq_true, Bool.and_eq_false_iff, Bool.or_eq_false_iff] at c4
              refine W.seq ?_
              refine W.region ?_
              refine WL.c rfl (o_as ?_)
              refine WL.nil ?_
              refine W.ret ?_
              refine ret1v rfl (show _ = Value.bool _ from rfl) ?_
              exact ⟨congrArg Value.bool (by simp_all [wordB, words]), rfl⟩
            · try simp only [decide_eq_true_eq, decide_eq_false_iff_not, Bool.not_eq_true', Bool.not_eq_false', Bool.and_eq_true, Bool.or_eq_true, Bool.and_eq_false_iff, Bool.or_eq_false_iff] at c4
              refine W.skip ?_
              refine W.seq ?_
              refine W.region ?_
              refine WL.c rfl (o_as ?_)
              refine WL.nil ?_
              refine W.ret ?_
              refine ret1v rfl (show _ = Value.bool _ from rfl) ?_
              exact ⟨congrArg Value.bool (by simp_all [wordB, words]), rfl⟩
          · try simp only [decide_eq_true_eq, decide_eq_false_iff_not, Bool.not_eq_true', Bool.not_eq_false', Bool.and_eq_true, Bool.or_eq_true, Bool.and_eq_false_iff, Bool.or_eq_false_iff] at c4
            refine W.seq ?_
            refine W.region ?_
            refine WL.c rfl (o_eqT rfl rfl ?_)
            refine WL.c rfl (o_as ?_)
            refine WL.nil ?_
            refine W.cond rfl (fun c4 => ?_) (fun c4 => ?_)
            · try simp only [decide_eq_true_eq, decide_eq_false_iff_not, Bool.not_eq_true', Bool.not_eq_false', Bool.and_eq_true, Bool.or_eq_true, Bool.and_eq_false_iff, Bool.or_eq_false_iff] at c4
              refine W.skip ?_
              refine W.cond rfl (fun c4 => ?_) (fun c4 => ?_)
              · try simp only [decide_eq_true_eq, decide_eq_false_iff_not, Bool.not_eq_true', Bool.not_eq_false', Bool.and_eq_true, Bool.or_eq_true, Bool.and_eq_false_iff, Bool.or_eq_false_iff] at c4
                refine W.seq ?_
                refine W.region ?_
                refine WL.c rfl (o_as ?_)
                refine WL.nil ?_
                refine W.ret ?_
                refine ret1v rfl (show _ = Value.bool _ from rfl) ?_
                exact ⟨congrArg Value.bool (by simp_all [wordB, words]), rfl⟩
              · try simp only [decide_eq_true_eq, decide_eq_false_iff_not, Bool.not_eq_true', Bool.not_eq_false', Bool.and_eq_true, Bool.or_eq_true, Bool.and_eq_false_iff, Bool.or_eq_false_iff] at c4
                refine W.skip ?_
                refine W.seq ?_
                refine W.region ?_
                refine WL.c rfl (o_as ?_)
                refine WL.nil ?_
                refine W.ret ?_
                refine ret1v rfl (show _ = Value.bool _ from rfl) ?_
                exact ⟨congrArg Value.bool (by simp_all [wordB, words]), rfl⟩
            · try simp only [decide_eq_true_eq, decide_eq_false_iff_not, Bool.not_eq_true', Bool.not_eq_false', Bool.and_eq_true, Bool.or_eq_true, Bool.and_eq_false_iff, Bool.or_eq_false_iff] at c4
              refine W.seq ?_
              refine W.region ?_
              refine WL.c rfl (o_eqT rfl rfl ?_)
              refine WL.c rfl (o_as ?_)
              refine WL.nil ?_
              refine W.cond rfl (fun c4 => ?_) (fun c4 => ?_)
              · try simp only [decide_eq_true_eq, decide_eq_false_iff_not, Bool.not_eq_true', Bool.not_eq_false', Bool.and_eq_true, Bool.or_eq_true, Bool.and_eq_false_iff, Bool.or_eq_false_iff] at c4
                refine W.skip ?_
                refine W.cond rfl (fun c4 => ?_) (fun c4 => ?_)
                · try simp only [decide_eq_true_eq, decide_eq_false_iff_not, Bool.not_eq_true', Bool.not_eq_false', Bool.and_eq_true, Bool.or_eq_true, Bool.and_eq_false_iff, Bool.or_eq_false_iff] at c4
                  refine W.seq ?_
                  refine W.region ?_
                  refine WL.c rfl (o_as ?_)
                  refine WL.nil ?_
                  refine W.ret ?_
                  refine ret1v rfl (show _ = Value.bool _ from rfl) ?_
                  exact ⟨congrArg Value.bool (by simp_all [wordB, words]), rfl⟩
                · try simp only [decide_eq_true_eq, decide_eq_false_iff_not, Bool.not_eq_true', Bool.not_eq_false', Bool.and_eq_true, Bool.or_eq_true, Bool.and_eq_false_iff, Bool.or_eq_false_iff] at c4
                  refine W.skip ?_
                  refine W.seq ?_
                  refine W.region ?_
                  refine WL.c rfl (o_as ?_)
                  refine WL.nil ?_
                  refine W.ret ?_
                  refine ret1v rfl (show _ = Value.bool _ from rfl) ?_
                  exact ⟨congrArg Value.bool (by simp_all [wordB, words]), rfl⟩
              · try simp only [decide_eq_true_eq, decide_eq_false_iff_not, Bool.not_eq_true', Bool.not_eq_false', Bool.and_eq_true, Bool.or_eq_true, Bool.and_eq_false_iff, Bool.or_eq_false_iff] at c4
                refine W.seq ?_
                refine W.region ?_
                refine WL.c rfl (o_eqT rfl rfl ?_)
                refine WL.c rfl (o_as ?_)
                refine WL.nil ?_
                refine W.cond rfl (fun c4 => ?_) (fun c4 => ?_)
                · try simp only [decide_eq_true_eq, decide_eq_false_iff_not, Bool.not_eq_true', Bool.not_eq_false', Bool.and_eq_true, Bool.or_eq_true, Bool.and_eq_false_iff, Bool.or_eq_false_iff] at c4
                  refine W.skip ?_
                  refine W.cond rfl (fun c4 => ?_) (fun c4 => ?_)
                  · try simp only [decide_eq_true_eq, decide_eq_false_iff_not, Bool.not_eq_true', Bool.not_eq_false', Bool.and_eq_true, Bool.or_eq_true, Bool.and_eq_false_iff, Bool.or_eq_false_iff] at c4
                    refine W.seq ?_
                    refine W.region ?_
                    refine WL.c rfl (o_as ?_)
                    refine WL.nil ?_
                    refine W.ret ?_
                    refine ret1v rfl (show _ = Value.bool _ from rfl) ?_
                    exact ⟨congrArg Value.bool (by simp_all [wordB, words]), rfl⟩
                  · try simp only [decide_eq_true_eq, decide_eq_false_iff_not, Bool.not_eq_true', Bool.not_eq_false', Bool.and_eq_true, Bool.or_eq_true, Bool.and_eq_false_iff, Bool.or_eq_false_iff] at c4
                    refine W.skip ?_
                    refine W.seq ?_
                    refine W.region ?_
                    refine WL.c rfl (o_as ?_)
                    refine WL.nil ?_
                    refine W.ret ?_
                    refine ret1v rfl (show _ = Value.bool _ from rfl) ?_
                    exact ⟨congrArg Value.bool (by simp_all [wordB, words]), rfl⟩
                · try simp only [decide_eq_true_eq, decide_eq_false_iff_not, Bool.not_eq_true', Bool.not_eq_false', Bool.and_eq_true, Bool.or_eq_true, Bool.and_eq_false_iff, Bool.or_eq_false_iff] at c4
                  refine W.seq ?_
                  refine W.region ?_
                  refine WL.c rfl (o_eqT rfl rfl ?_)
                  refine WL.c rfl (o_as ?_)
                  refine WL.nil ?_
                  refine W.cond rfl (fun c4 => ?_) (fun c4 => ?_)
                  · try simp only [decide_eq_true_eq, decide_eq_false_iff_not, Bool.not_eq_true', Bool.not_eq_false', Bool.and_eq_true, Bool.or_eq_true, Bool.and_eq_false_iff, Bool.or_eq_false_iff] at c4
                    refine W.skip ?_
                    refine W.cond rfl (fun c4 => ?_) (fun c4 => ?_)
                    · try simp only [decide_eq_true_eq, decide_eq_false_iff_not, Bool.not_eq_true', Bool.not_eq_false', Bool.and_eq_true, Bool.or_eq_true, Bool.and_eq_false_iff, Bool.or_eq_false_iff] at c4
                      refine W.seq ?_
                      refine W.region ?_
                      refine WL.c rfl (o_as ?_)
                      refine WL.nil ?_
                      refine W.ret ?_
                      refine ret1v rfl (show _ = Value.bool _ from rfl) ?_
                      exact ⟨congrArg Value.bool (by simp_all [wordB, words]), rfl⟩
                    · try simp only [decide_eq_true_eq, decide_eq_false_iff_not, Bool.not_eq_true', Bool.not_eq_false', Bool.and_eq_true, Bool.or_eq_true, Bool.and_eq_false_iff, Bool.or_eq_false_iff] at c4
                      refine W.skip ?_
                      refine W.seq ?_
                      refine W.region ?_
                      refine WL.c rfl (o_as ?_)
                      refine WL.nil ?_
                      refine W.ret ?_
                      refine ret1v rfl (show _ = Value.bool _ from rfl) ?_
                      exact ⟨congrArg Value.bool (by simp_all [wordB, words]), rfl⟩
                  · try simp only [decide_eq_true_eq, decide_eq_false_iff_not, Bool.not_eq_true', Bool.not_eq_false', Bool.and_eq_true, Bool.or_eq_true, Bool.and_eq_false_iff, Bool.or_eq_false_iff] at c4
                    refine W.seq ?_
                    refine W.region ?_
                    refine WL.c rfl (o_eqT rfl rfl ?_)
                    refine WL.c rfl (o_as ?_)
                    refine WL.nil ?_
                    refine W.cond rfl (fun c4 => ?_) (fun c4 => ?_)
                    · try simp only [decide_eq_true_eq, decide_eq_false_iff_not, Bool.not_eq_true', Bool.not_eq_false', Bool.and_eq_true, Bool.or_eq_true, Bool.and_eq_false_iff, Bool.or_eq_false_iff] at c4
                      refine W.skip ?_
                      refine W.cond rfl (fun c4 => ?_) (fun c4 => ?_)
                      · try simp only [decide_eq_true_eq, decide_eq_false_iff_not, Bool.not_eq_true', Bool.not_eq_false', Bool.and_eq_true, Bool.or_eq_true, Bool.and_eq_false_iff, Bool.or_eq_false_iff] at c4
                        refine W.seq ?_
                        refine W.region ?_
                        refine WL.c rfl (o_as ?_)
                        refine WL.nil ?_
                        refine W.ret ?_
                        refine ret1v rfl (show _ = Value.bool _ from rfl) ?_
                        exact ⟨congrArg Value.bool (by simp_all [wordB, words]), rfl⟩
                      · try simp only [decide_eq_true_eq, decide_eq_false_iff_not, Bool.not_eq_true', Bool.not_eq_false', Bool.and_eq_true, Bool.or_eq_true, Bool.and_eq_false_iff, Bool.or_eq_false_iff] at c4
                        refine W.skip ?_
                        refine W.seq ?_
                        refine W.region ?_
                        refine WL.c rfl (o_as ?_)
                        refine WL.nil ?_
                        refine W.ret ?_
                        refine ret1v rfl (show _ = Value.bool _ from rfl) ?_
                        exact ⟨congrArg Value.bool (by simp_all [wordB, words]), rfl⟩
                    · try simp only [decide_eq_true_eq, decide_eq_false_iff_not, Bool.not_eq_true', Bool.not_eq_false', Bool.and_eq_true, Bool.or_eq_true, Bool.and_eq_false_iff, Bool.or_eq_false_iff] at c4
                      refine W.seq ?_
                      refine W.region ?_
                      refine WL.c rfl (o_eqT rfl rfl ?_)
                      refine WL.c rfl (o_as ?_)
                      refine WL.nil ?_
                      refine W.cond rfl (fun c4 => ?_) (fun c4 => ?_)
                      · try simp only [decide_eq_true_eq, decide_eq_false_iff_not, Bool.not_eq_true', Bool.not_eq_false', Bool.and_eq_true, Bool.or_eq_true, Bool.and_eq_false_iff, Bool.or_eq_false_iff] at c4
                        refine W.skip ?_
                        refine W.cond rfl (fun c4 => ?_) (fun c4 => ?_)
                        · try simp only [decide_eq_true_eq, decide_eq_false_iff_not, Bool.not_eq_true', Bool.not_eq_false', Bool.and_eq_true, Bool.or_eq_true, Bool.and_eq_false_iff, Bool.or_eq_false_iff] at c4
                          refine W.seq ?_
                          refine W.region ?_
                          refine WL.c rfl (o_as ?_)
                          refine WL.nil ?_
                          refine W.ret ?_
                          refine ret1v rfl (show _ = Value.bool _ from rfl) ?_
                          exact ⟨congrArg Value.bool (by simp_all [wordB, words]), rfl⟩
                        · try simp only [decide_eq_true_eq, decide_eq_false_iff_not, Bool.not_eq_true', Bool.not_eq_false', Bool.and_eq_true, Bool.or_eq_true, Bool.and_eq_false_iff, Bool.or_eq_false_iff] at c4
                          refine W.skip ?_
                          refine W.seq ?_
                          refine W.region ?_
                          refine WL.c rfl (o_as ?_)
                          refine WL.nil ?_
                          refine W.ret ?_
                          refine ret1v rfl (show _ = Value.bool _ from rfl) ?_
                          exact ⟨congrArg Value.bool (by simp_all [wordB, words]), rfl⟩
                      · try simp only [decide_eq_true_eq, decide_eq_false_iff_not, Bool.not_eq_true', Bool.not_eq_false', Bool.and_eq_true, Bool.or_eq_true, Bool.and_eq_false_iff, Bool.or_eq_false_iff] at c4
                        refine W.region ?_
                        refine WL.c rfl (o_eqT rfl rfl ?_)
                        refine WL.c rfl (o_as ?_)
                        refine WL.nil ?_
                        refine W.cond rfl (fun c4 => ?_) (fun c4 => ?_)
                        · try simp only [decide_eq_true_eq, decide_eq_false_iff_not, Bool.not_eq_true', Bool.not_eq_false', Bool.and_eq_true, Bool.or_eq_true, Bool.and_eq_false_iff, Bool.or_eq_false_iff] at c4
                          refine W.seq ?_
                          refine W.region ?_
                          refine WL.c rfl (o_as ?_)
                          refine WL.nil ?_
                          refine W.ret ?_
                          refine ret1v rfl (show _ = Value.bool _ from rfl) ?_
                          exact ⟨congrArg Value.bool (by simp_all [wordB, words]), rfl⟩
                        · try simp only [decide_eq_true_eq, decide_eq_false_iff_not, Bool.not_eq_true', Bool.not_eq_false', Bool.and_eq_true, Bool.or_eq_true, Bool.and_eq_false_iff, Bool.or_eq_false_iff] at c4
                          refine W.skip ?_
                          refine W.seq ?_
                          refine W.region ?_
                          refine WL.c rfl (o_as ?_)
                          refine WL.nil ?_
                          refine W.ret ?_
                          refine ret1v rfl (show _ = Value.bool _ from rfl) ?_
                          exact ⟨congrArg Value.bool (by simp_all [wordB, words]), rfl⟩
theorem rletter_spec (c : UInt8) (w0 : World) : Ca Try.prog 24 #[bv c] w0 (fun v w' => v = .bool (letB c) ∧ w' = w0) := by
  refine Ca.of Try.func24 Try.ntmps24 rfl rfl ?_
  refine W.seq ?_
  refine W.region ?_
  refine WL.c rfl (o_as ?_)
  refine WL.nil ?_
  refine W.seq ?_
  refine W.region ?_
  refine WL.c rfl (o_mv ?_)
  refine WL.c rfl (o_ge rfl rfl ?_)
  refine WL.c rfl (o_mv ?_)
  refine WL.sp 2 rfl (fun g5 => ?_) (fun g5 => ?_)
  · skip
    refine WL.g rfl (g5) rfl (o_mv ?_)
    refine WL.g rfl (g5) rfl (o_le rfl rfl ?_)
    refine WL.c rfl (o_pickA rfl rfl ?_)
    refine WL.c rfl (o_as ?_)
    refine WL.nil ?_
    refine W.ret ?_
    refine ret1v rfl (show _ = Value.bool _ from rfl) ?_
    exact ⟨congrArg Value.bool (by rw [Bool.eq_iff_iff]; simp_all [letB] <;> omega), rfl⟩
  · skip
    refine WL.s rfl (g5) rfl ?_
    refine WL.s rfl (g5) rfl ?_
    refine WL.c rfl (o_pickF rfl (g5) ?_)
    refine WL.c rfl (o_as ?_)
    refine WL.nil ?_
    refine W.ret ?_
    refine ret1v rfl (show _ = Value.bool _ from rfl) ?_
    exact ⟨congrArg Value.bool (by rw [Bool.eq_iff_iff]; simp_all [letB] <;> omega), rfl⟩
theorem rdigit_spec (c : UInt8) (w0 : World) : Ca Try.prog 31 #[bv c] w0 (fun v w' => v = .bool (digB c) ∧ w' = w0) := by
  refine Ca.of Try.func31 Try.ntmps31 rfl rfl ?_
  refine W.seq ?_
  refine W.region ?_
  refine WL.c rfl (o_as ?_)
  refine WL.nil ?_
  refine W.seq ?_
  refine W.region ?_
  refine WL.c rfl (o_mv ?_)
  refine WL.c rfl (o_ge rfl rfl ?_)
  refine WL.c rfl (o_mv ?_)
  refine WL.sp 2 rfl (fun g5 => ?_) (fun g5 => ?_)
  · skip
    refine WL.g rfl (g5) rfl (o_mv ?_)
    refine WL.g rfl (g5) rfl (o_le rfl rfl ?_)
    refine WL.c rfl (o_pickA rfl rfl ?_)
    refine WL.c rfl (o_as ?_)
    refine WL.nil ?_
    refine W.ret ?_
    refine ret1v rfl (show _ = Value.bool _ from rfl) ?_
    exact ⟨congrArg Value.bool (by rw [Bool.eq_iff_iff]; simp_all [digB] <;> omega), rfl⟩
  · skip
    refine WL.s rfl (g5) rfl ?_
    refine WL.s rfl (g5) rfl ?_
    refine WL.c rfl (o_pickF rfl (g5) ?_)
    refine WL.c rfl (o_as ?_)
    refine WL.nil ?_
    refine W.ret ?_
    refine ret1v rfl (show _ = Value.bool _ from rfl) ?_
    exact ⟨congrArg Value.bool (by rw [Bool.eq_iff_iff]; simp_all [digB] <;> omega), rfl⟩
theorem rgoes_spec (c : UInt8) (w0 : World) : Ca Try.prog 25 #[bv c] w0 (fun v w' => v = .bool (goeB c) ∧ w' = w0) := by
  refine Ca.of Try.func25 Try.ntmps25 rfl rfl ?_
  refine W.seq ?_
  refine W.region ?_
  refine WL.c rfl (o_as ?_)
  refine WL.nil ?_
  refine W.seq ?_
  refine W.region ?_
  refine WL.c rfl (o_mv ?_)
  refine WL.c rfl (o_call Try.call24 (lc rfl ln) ((rletter_spec c _).mono ?_))
  rintro v4 w4 ⟨rfl, rfl⟩
  refine WL.c rfl (o_mv ?_)
  refine WL.sp 2 rfl (fun g5 => ?_) (fun g5 => ?_)
  · skip
    refine WL.s rfl (g5) rfl ?_
    refine WL.s rfl (g5) rfl ?_
    refine WL.c rfl (o_pickT rfl (g5) ?_)
    refine WL.c rfl (o_mv ?_)
    refine WL.s rfl (rfl) rfl ?_
    refine WL.s rfl (rfl) rfl ?_
    refine WL.c rfl (o_pickT rfl (rfl) ?_)
    refine WL.c rfl (o_as ?_)
    refine WL.nil ?_
    refine W.ret ?_
    refine ret1v rfl (show _ = Value.bool _ from rfl) ?_
    exact ⟨congrArg Value.bool (by rw [Bool.eq_iff_iff]; simp_all [goeB] <;> omega), rfl⟩
  · skip
    refine WL.g rfl (g5) rfl (o_mv ?_)
    refine WL.g rfl (g5) rfl (o_call Try.call31 (lc rfl ln) ((rdigit_spec c _).mono ?_))
    rintro v7 w7 ⟨rfl, rfl⟩
    refine WL.c rfl (o_pickO rfl rfl ?_)
    refine WL.c rfl (o_mv ?_)
    refine WL.sp 6 rfl (fun g9 => ?_) (fun g9 => ?_)
    · skip
      refine WL.s rfl (g9) rfl ?_
      refine WL.s rfl (g9) rfl ?_
      refine WL.c rfl (o_pickT rfl (g9) ?_)
      refine WL.c rfl (o_as ?_)
      refine WL.nil ?_
      refine W.ret ?_
      refine ret1v rfl (show _ = Value.bool _ from rfl) ?_
      exact ⟨congrArg Value.bool (by rw [Bool.eq_iff_iff]; simp_all [goeB] <;> omega), rfl⟩
    · skip
      refine WL.g rfl (g9) rfl (o_mv ?_)
      refine WL.g rfl (g9) rfl (o_eq rfl rfl ?_)
      refine WL.c rfl (o_pickO rfl rfl ?_)
      refine WL.c rfl (o_as ?_)
      refine WL.nil ?_
      refine W.ret ?_
      refine ret1v rfl (show _ = Value.bool _ from rfl) ?_
      exact ⟨congrArg Value.bool (by rw [Bool.eq_iff_iff]; simp_all [goeB] <;> omega), rfl⟩
theorem rname_spec (xs : List UInt8) (w0 : World) (hlen : xs.length ≤ 9223372036854775807) : Ca Try.prog 14 #[st xs] w0 (fun v w' => v = .bool (nameB xs) ∧ w' = w0) := by
  refine Ca.of Try.func14 Try.ntmps14 rfl rfl ?_
  refine W.seq ?_
  refine W.region ?_
  refine WL.c rfl (o_as ?_)
  refine WL.nil ?_
  refine W.seq ?_
  refine W.seq ?_
  refine W.region ?_
  refine WL.cut (fun e1 w1 => e1 20 = .bool (hdB xs) ∧ e1 0 = st xs ∧ w1 = w0) ?_ ?_
  · -- region 1
    refine WL.c rfl (o_mv ?_)
    refine WL.c rfl (o_eqT rfl rfl ?_)
    refine WL.c rfl (o_mv ?_)
    refine WL.sp 2 rfl (fun g6 => ?_) (fun g6 => ?_)
    · skip
      refine WL.s rfl (g6) rfl ?_
      refine WL.s rfl (g6) rfl ?_
      refine WL.s rfl (g6) rfl ?_
      refine WL.c rfl (o_pickT rfl (g6) ?_)
      refine WL.c rfl (o_mv ?_)
      try (have hne : xs ≠ [] := by simpa using g6)
      try (have h0 := List.length_pos_iff.2 hne)
      try (have hh := head_any letB h0)
      refine WL.s rfl (rfl) rfl ?_
      refine WL.s rfl (rfl) rfl ?_
      refine WL.s rfl (rfl) rfl ?_
      refine WL.s rfl (rfl) rfl ?_
      refine WL.c rfl (o_pickT rfl (rfl) ?_)
      refine WL.c rfl (o_mv ?_)
      refine WL.s rfl (rfl) rfl ?_
      refine WL.s rfl (rfl) rfl ?_
      refine WL.c rfl (o_pickT rfl (rfl) ?_)
      exact WL.nil (⟨congrArg Value.bool (by rw [Bool.eq_iff_iff]; simp_all [hdB] <;> first | omega | grind), rfl, rfl⟩)
    · skip
      refine WL.g rfl (g6) rfl (o_mv ?_)
      refine WL.g rfl (g6) rfl (o_lenT TI9 rfl ?_)
      refine WL.g rfl (g6) rfl (o_gt rfl rfl ?_)
      refine WL.c rfl (o_pickO rfl rfl ?_)
      refine WL.c rfl (o_mv ?_)
      try (have hne : xs ≠ [] := by simpa using g6)
      try (have h0 := List.length_pos_iff.2 hne)
      try (have hh := head_any letB h0)
      refine WL.sp 7 rfl (fun g11 => ?_) (fun g11 => ?_)
      · skip
        try (have hne : xs ≠ [] := by simpa using g6)
        try (have h0 := List.length_pos_iff.2 hne)
        try (have hh := head_any letB h0)
        refine WL.s rfl (g11) rfl ?_
        refine WL.s rfl (g11) rfl ?_
        refine WL.s rfl (g11) rfl ?_
        refine WL.s rfl (g11) rfl ?_
        refine WL.c rfl (o_pickT rfl (g11) ?_)
        refine WL.c rfl (o_mv ?_)
        refine WL.s rfl (rfl) rfl ?_
        refine WL.s rfl (rfl) rfl ?_
        refine WL.c rfl (o_pickT rfl (rfl) ?_)
        exact WL.nil (⟨congrArg Value.bool (by rw [Bool.eq_iff_iff]; simp_all [hdB] <;> first | omega | grind), rfl, rfl⟩)
      · skip
        try (have hne : xs ≠ [] := by simpa using g6)
        try (have h0 := List.length_pos_iff.2 hne)
        try (have hh := head_any letB h0)
        refine WL.g rfl (g11) rfl (o_mv ?_)
        refine WL.g rfl (g11) rfl (o_idT (i := 0) TI9 rfl rfl (by omega) ?_)
        refine WL.g rfl (g11) rfl (o_call Try.call24 (lc rfl ln) ((rletter_spec xs[0] _).mono ?_))
        rintro v14 w14 ⟨rfl, rfl⟩
        refine WL.g rfl (g11) rfl (o_not' rfl ?_)
        refine WL.c rfl (o_pickO rfl rfl ?_)
        refine WL.c rfl (o_mv ?_)
        refine WL.sp 13 rfl (fun g17 => ?_) (fun g17 => ?_)
        · skip
          refine WL.s rfl (g17) rfl ?_
          refine WL.s rfl (g17) rfl ?_
          refine WL.c rfl (o_pickT rfl (g17) ?_)
          exact WL.nil (⟨congrArg Value.bool (by rw [Bool.eq_iff_iff]; simp_all [hdB] <;> first | omega | grind), rfl, rfl⟩)
        · skip
          refine WL.g rfl (g17) rfl (o_mv ?_)
          refine WL.g rfl (g17) rfl (o_call Try.call12 (lc rfl ln) ((rword_spec xs _).mono ?_))
          rintro v19 w19 ⟨rfl, rfl⟩
          refine WL.c rfl (o_pickO rfl rfl ?_)
          exact WL.nil (⟨congrArg Value.bool (by rw [Bool.eq_iff_iff]; simp_all [hdB] <;> first | omega | grind), rfl, rfl⟩)
  rintro e w ⟨h20, h0, hw⟩
  refine W.cond h20 (fun c20 => ?_) (fun c20 => ?_)
  · try simp only [decide_eq_true_eq, decide_eq_false_iff_not, Bool.not_eq_true', Bool.not_eq_false', Bool.and_eq_true, Bool.or_eq_true, Bool.and_eq_false_iff, Bool.or_eq_false_iff] at c20
    refine W.seq ?_
    refine W.region ?_
    refine WL.c rfl (o_as ?_)
    refine WL.nil ?_
    refine W.ret ?_
    refine ret1v rfl (show _ = Value.bool _ from rfl) ?_
    exact ⟨by rw [nameB_hd, c20]; rfl, hw⟩
  · try simp only [decide_eq_true_eq, decide_eq_false_iff_not, Bool.not_eq_true', Bool.not_eq_false', Bool.and_eq_true, Bool.or_eq_true, Bool.and_eq_false_iff, Bool.or_eq_false_iff] at c20
    refine W.skip ?_
    refine W.seq ?_
    refine W.seq ?_
    refine W.region ?_
    refine WL.c rfl (o_as ?_)
    refine WL.nil ?_
    refine W.block ?_
    refine W.loop (fun e w => ∃ k : Nat, k ≤ xs.length ∧ e 0 = st xs ∧ e 3 = .int .i64 (k : Int) ∧ (xs.take k).all goeB = true ∧ w = w0) (fun e w => xs.length - (intOf (e 3)).toNat) ?_ ?_
    · exact ⟨0, Nat.zero_le _, h0, rfl, by simp, hw⟩
    rintro e w ⟨k, hk, h0, h3, hall, rfl⟩
    refine W.seq ?_
    refine W.seq ?_
    refine W.region ?_
    refine WL.c rfl (o_mvh h3 ?_)
    refine WL.c rfl (o_mvh h0 ?_)
    refine WL.c rfl (o_lenT TI9 rfl ?_)
    refine WL.c rfl (o_lt rfl rfl ?_)
    refine WL.nil ?_
    refine W.cond rfl (fun c24 => ?_) (fun c24 => ?_)
    · try simp only [decide_eq_true_eq, decide_eq_false_iff_not, Bool.not_eq_true', Bool.not_eq_false', Bool.and_eq_true, Bool.or_eq_true, Bool.and_eq_false_iff, Bool.or_eq_false_iff] at c24
      refine W.skip ?_
      refine W.seq ?_
      refine W.block ?_
      refine W.seq ?_
      have hk1 : k < xs.length := by omega
      refine W.region ?_
      refine WL.c rfl (o_mvh h0 ?_)
      refine WL.c rfl (o_mvh h3 ?_)
      refine WL.c rfl (o_idT TI9 rfl rfl (by omega) ?_)
      refine WL.c rfl (o_call Try.call25 (lc rfl ln) ((rgoes_spec xs[k] _).mono ?_))
      rintro v30 w30 ⟨rfl, rfl⟩
      refine WL.c rfl (o_not' rfl ?_)
      refine WL.nil ?_
      refine W.cond rfl (fun c31 => ?_) (fun c31 => ?_)
      · try simp only [decide_eq_true_eq, decide_eq_false_iff_not, Bool.not_eq_true', Bool.not_eq_false', Bool.and_eq_true, Bool.or_eq_true, Bool.and_eq_false_iff, Bool.or_eq_false_iff] at c31
        refine W.seq ?_
        refine W.region ?_
        refine WL.c rfl (o_as ?_)
        refine WL.nil ?_
        refine W.ret ?_
        refine ret1v rfl (show _ = Value.bool _ from rfl) ?_
        exact ⟨by rw [nameB_hd, all_bad hk1 c31]; simp, rfl⟩
      · try simp only [decide_eq_true_eq, decide_eq_false_iff_not, Bool.not_eq_true', Bool.not_eq_false', Bool.and_eq_true, Bool.or_eq_true, Bool.and_eq_false_iff, Bool.or_eq_false_iff] at c31
        refine W.skip ?_
        refine W.region ?_
        refine WL.c rfl (o_mvh h3 ?_)
        refine WL.c rfl (o_addi rfl rfl (by omega) ?_)
        refine WL.c rfl (o_as ?_)
        refine WL.nil ?_
        refine ⟨⟨k + 1, by omega, h0, rfl, all_more hk1 c31 hall, rfl⟩, ?_⟩
        show xs.length - ((k : Int) + 1).toNat < _
        rw [h3]; simp [intOf]; omega
    · try simp only [decide_eq_true_eq, decide_eq_false_iff_not, Bool.not_eq_true', Bool.not_eq_false', Bool.and_eq_true, Bool.or_eq_true, Bool.and_eq_false_iff, Bool.or_eq_false_iff] at c24
      refine W.exit ?_
      refine W.seq ?_
      refine W.region ?_
      refine WL.c rfl (o_as ?_)
      refine WL.nil ?_
      refine W.ret ?_
      refine ret1v rfl (show _ = Value.bool _ from rfl) ?_
      have hk2 : k = xs.length := by omega
      subst hk2
      rw [List.take_length] at hall
      exact ⟨by rw [nameB_hd, c20, hall]; rfl, rfl⟩
theorem words_walk0 (w0 : World) (xs : List UInt8) (hlen : xs.length ≤ 9223372036854775807) : Ca Try.prog 4 #[st xs] w0 (fun v w' => v = .bool true ∧ Ext w0 w') := by
  refine Ca.of Try.func4 Try.ntmps4 rfl rfl ?_
  refine W.seq ?_
  refine W.region ?_
  refine WL.c rfl (o_as ?_)
  refine WL.nil ?_
  refine W.seq ?_
  refine W.region ?_
  refine WL.c rfl (o_call Try.call9 ln ((first_spec _).mono ?_))
  rintro v3 w3 ⟨rfl, hx3⟩
  refine WL.c rfl (o_mv ?_)
  refine WL.g rfl (rfl) rfl (o_mv ?_)
  refine WL.g rfl (rfl) rfl (o_call Try.call11 (lc rfl ln) ((word_spec xs _).mono ?_))
  rintro v6 w6 ⟨rfl, rfl⟩
  refine WL.g rfl (rfl) rfl (o_mv ?_)
  refine WL.g rfl (rfl) rfl (o_call Try.call12 (lc rfl ln) ((rword_spec xs _).mono ?_))
  rintro v8 w8 ⟨rfl, rfl⟩
  refine WL.g rfl (rfl) rfl (o_eqB TI4 rfl rfl ?_)
  refine WL.c rfl (o_pickA rfl rfl ?_)
  refine WL.c rfl (o_mv ?_)
  refine WL.g rfl (by simp) rfl (o_mv ?_)
  refine WL.g rfl (by simp) rfl (o_call Try.call13 (lc rfl ln) ((name_spec xs _ hlen).mono ?_))
  rintro v13 w13 ⟨rfl, rfl⟩
  refine WL.g rfl (by simp) rfl (o_mv ?_)
  refine WL.g rfl (by simp) rfl (o_call Try.call14 (lc rfl ln) ((rname_spec xs _ hlen).mono ?_))
  rintro v15 w15 ⟨rfl, rfl⟩
  refine WL.g rfl (by simp) rfl (o_eqB TI4 rfl rfl ?_)
  refine WL.c rfl (o_pickA rfl rfl ?_)
  refine WL.c rfl (o_as ?_)
  refine WL.nil ?_
  refine W.ret ?_
  refine ret1v rfl (show _ = Value.bool _ from rfl) ?_
  exact ⟨congrArg Value.bool (by simp), hx3⟩

theorem words_walk (w0 : World) (s : ByteArray) (hs : s.size ≤ maxLen) : Ca Try.prog 4 #[.string s] w0 (fun v w' => v = .bool true ∧ Ext w0 w') := by
  obtain ⟨⟨xs⟩⟩ := s
  exact words_walk0 w0 xs hs

end Go.Proofs.Ytiabjbaegdgmmaa
