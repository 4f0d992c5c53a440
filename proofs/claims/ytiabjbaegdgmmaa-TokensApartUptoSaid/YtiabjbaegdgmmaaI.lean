/-
  Walks. Written by program out of specs of mine.
-/
import Derived.Test.YtiabjbaegdgmmaaH
set_option linter.unusedSimpArgs false
set_option linter.unusedVariables false
namespace Go.Proofs.Ytiabjbaegdgmmaa
open Go Go.Vc Go.RowKit Go.Proofs

def valF (n : Nat) (xs : List UInt8) : Nat := xs.foldl (fun n c => 10 * n + (c.toNat - 48)) n
theorem valF_cons (n : Nat) (c : UInt8) (cs : List UInt8) : valF n (c :: cs) = valF (10 * n + (c.toNat - 48)) cs := by simp only [valF, List.foldl_cons]
theorem valF_ge : ∀ (xs : List UInt8) (n : Nat), n * 10 ^ xs.length ≤ valF n xs
  | [], n => by simp [valF]
  | c :: cs, n => by
    rw [valF_cons, List.length_cons, Nat.pow_succ]
    refine Nat.le_trans ?_ (valF_ge cs _)
    rw [Nat.mul_comm (10 ^ cs.length) 10, ← Nat.mul_assoc]
    exact Nat.mul_le_mul_right _ (by omega)
theorem numF_val : ∀ (xs : List UInt8) (n : Nat), n ≤ 2147483647 → numF n xs = if valF n xs ≤ 2147483647 then (valF n xs, 0) else (0, 51)
  | [], n, h => by simp [numF, valF, h]
  | c :: cs, n, h => by
    rw [valF_cons, numF]
    by_cases hh : 2147483647 < 10 * n + (c.toNat - 48)
    · rw [if_pos hh, if_neg]
      have := valF_ge cs (10 * n + (c.toNat - 48))
      have h1 : 1 ≤ 10 ^ cs.length := Nat.one_le_pow _ _ (by omega)
      have h2 := Nat.mul_le_mul_left (10 * n + (c.toNat - 48)) h1
      omega
    · rw [if_neg hh]; exact numF_val cs _ (by omega)
theorem numL_val (xs : List UInt8) (hl : lead xs = false) : numL xs = if valF 0 xs ≤ 2147483647 then (valF 0 xs, 0) else (0, 51) := by
  unfold numL
  rw [hl]; exact numF_val xs 0 (by omega)
theorem numL_long (xs : List UInt8) (hd : ∀ c ∈ xs, digB c = true) (h : 10 < xs.length) : numL xs = (0, 51) := by
  cases hl : lead xs with
  | true => simp [numL, hl]
  | false =>
    rw [numL_val xs hl, if_neg]
    cases xs with
    | nil => simp at h
    | cons c cs =>
      have h0 := hd c (List.mem_cons_self ..)
      simp only [List.length_cons] at h
      have hcs : 1 ≤ cs.length := by omega
      simp [digB] at h0
      simp [lead] at hl
      have hne := hl (by omega)
      rw [valF_cons]
      have h1 := valF_ge cs (10 * 0 + (c.toNat - 48))
      have h2 : 10 ^ 10 ≤ 10 ^ cs.length := Nat.pow_le_pow_right (by omega) (by omega)
      have h3 := Nat.mul_le_mul (show 1 ≤ 10 * 0 + (c.toNat - 48) by omega) h2
      omega

theorem rmark_spec (c : UInt8) (w0 : World) : Ca Try.prog 35 #[bv c] w0 (fun v w' => v = .bool (markB c) ∧ w' = w0) := by
  refine Ca.of Try.func35 Try.ntmps35 rfl rfl ?_
  refine W.seq ?_
  refine W.region ?_
  refine WL.c rfl (o_as ?_)
  refine WL.nil ?_
  refine W.seq ?_
  refine W.region ?_
  refine WL.c rfl (o_mv ?_)
  refine WL.c rfl (o_eq rfl rfl ?_)
  refine WL.c rfl (o_mv ?_)
  refine WL.sp 2 rfl (fun g5 => ?_) (fun g5 => ?_)
  · skip
    refine WL.s rfl (g5) rfl ?_
    refine WL.s rfl (g5) rfl ?_
    refine WL.c rfl (o_pickT rfl (g5) ?_)
    refine WL.c rfl (o_mv ?_)
    refine WL.s rfl (rfl) rfl ?_
    refine WL.s rfl (rfl) rfl ?_
    refine WL.c rfl (o_pickT rfl (rfl) ?_)
    refine WL.c rfl (o_mv ?_)
    refine WL.s rfl (rfl) rfl ?_
    refine WL.s rfl (rfl) rfl ?_
    refine WL.c rfl (o_pickT rfl (rfl) ?_)
    refine WL.c rfl (o_mv ?_)
    refine WL.s rfl (rfl) rfl ?_
    refine WL.s rfl (rfl) rfl ?_
    refine WL.c rfl (o_pickT rfl (rfl) ?_)
    refine WL.c rfl (o_mv ?_)
    refine WL.s rfl (rfl) rfl ?_
    refine WL.s rfl (rfl) rfl ?_
    refine WL.c rfl (o_pickT rfl (rfl) ?_)
    refine WL.c rfl (o_mv ?_)
    refine WL.s rfl (rfl) rfl ?_
    refine WL.s rfl (rfl) rfl ?_
    refine WL.c rfl (o_pickT rfl (rfl) ?_)
    refine WL.c rfl (o_mv ?_)
    refine WL.s rfl (rfl) rfl ?_
    refine WL.s rfl (rfl) rfl ?_
    refine WL.c rfl (o_pickT rfl (rfl) ?_)
    refine WL.c rfl (o_as ?_)
    refine WL.nil ?_
    refine W.ret ?_
    refine ret1v rfl (show _ = Value.bool _ from rfl) ?_
    exact ⟨congrArg Value.bool (by rw [mark_or, Bool.eq_iff_iff]; simp_all <;> omega), rfl⟩
  · skip
    refine WL.g rfl (g5) rfl (o_mv ?_)
    refine WL.g rfl (g5) rfl (o_eq rfl rfl ?_)
    refine WL.c rfl (o_pickO rfl rfl ?_)
    refine WL.c rfl (o_mv ?_)
    refine WL.sp 6 rfl (fun g9 => ?_) (fun g9 => ?_)
    · skip
      refine WL.s rfl (g9) rfl ?_
      refine WL.s rfl (g9) rfl ?_
      refine WL.c rfl (o_pickT rfl (g9) ?_)
      refine WL.c rfl (o_mv ?_)
      refine WL.s rfl (rfl) rfl ?_
      refine WL.s rfl (rfl) rfl ?_
      refine WL.c rfl (o_pickT rfl (rfl) ?_)
      refine WL.c rfl (o_mv ?_)
      refine WL.s rfl (rfl) rfl ?_
      refine WL.s rfl (rfl) rfl ?_
      refine WL.c rfl (o_pickT rfl (rfl) ?_)
      refine WL.c rfl (o_mv ?_)
      refine WL.s rfl (rfl) rfl ?_
      refine WL.s rfl (rfl) rfl ?_
      refine WL.c rfl (o_pickT rfl (rfl) ?_)
      refine WL.c rfl (o_mv ?_)
      refine WL.s rfl (rfl) rfl ?_
      refine WL.s rfl (rfl) rfl ?_
      refine WL.c rfl (o_pickT rfl (rfl) ?_)
      refine WL.c rfl (o_mv ?_)
      refine WL.s rfl (rfl) rfl ?_
      refine WL.s rfl (rfl) rfl ?_
      refine WL.c rfl (o_pickT rfl (rfl) ?_)
      refine WL.c rfl (o_as ?_)
      refine WL.nil ?_
      refine W.ret ?_
      refine ret1v rfl (show _ = Value.bool _ from rfl) ?_
      exact ⟨congrArg Value.bool (by rw [mark_or, Bool.eq_iff_iff]; simp_all <;> omega), rfl⟩
    · skip
      refine WL.g rfl (g9) rfl (o_mv ?_)
      refine WL.g rfl (g9) rfl (o_eq rfl rfl ?_)
      refine WL.c rfl (o_pickO rfl rfl ?_)
      refine WL.c rfl (o_mv ?_)
      refine WL.sp 10 rfl (fun g13 => ?_) (fun g13 => ?_)
      · skip
        refine WL.s rfl (g13) rfl ?_
        refine WL.s rfl (g13) rfl ?_
        refine WL.c rfl (o_pickT rfl (g13) ?_)
        refine WL.c rfl (o_mv ?_)
        refine WL.s rfl (rfl) rfl ?_
        refine WL.s rfl (rfl) rfl ?_
        refine WL.c rfl (o_pickT rfl (rfl) ?_)
        refine WL.c rfl (o_mv ?_)
        refine WL.s rfl (rfl) rfl ?_
        refine WL.s rfl (rfl) rfl ?_
        refine WL.c rfl (o_pickT rfl (rfl) ?_)
        refine WL.c rfl (o_mv ?_)
        refine WL.s rfl (rfl) rfl ?_
        refine WL.s rfl (rfl) rfl ?_
        refine WL.c rfl (o_pickT rfl (rfl) ?_)
        refine WL.c rfl (o_mv ?_)
        refine WL.s rfl (rfl) rfl ?_
        refine WL.s rfl (rfl) rfl ?_
        refine WL.c rfl (o_pickT rfl (rfl) ?_)
        refine WL.c rfl (o_as ?_)
        refine WL.nil ?_
        refine W.ret ?_
        refine ret1v rfl (show _ = Value.bool _ from rfl) ?_
        exact ⟨congrArg Value.bool (by rw [mark_or, Bool.eq_iff_iff]; simp_all <;> omega), rfl⟩
      · skip
        refine WL.g rfl (g13) rfl (o_mv ?_)
        refine WL.g rfl (g13) rfl (o_eq rfl rfl ?_)
        refine WL.c rfl (o_pickO rfl rfl ?_)
        refine WL.c rfl (o_mv ?_)
        refine WL.sp 14 rfl (fun g17 => ?_) (fun g17 => ?_)
        · skip
          refine WL.s rfl (g17) rfl ?_
          refine WL.s rfl (g17) rfl ?_
          refine WL.c rfl (o_pickT rfl (g17) ?_)
          refine WL.c rfl (o_mv ?_)
          refine WL.s rfl (rfl) rfl ?_
          refine WL.s rfl (rfl) rfl ?_
          refine WL.c rfl (o_pickT rfl (rfl) ?_)
          refine WL.c rfl (o_mv ?_)
          refine WL.s rfl (rfl) rfl ?_
          refine WL.s rfl (rfl) rfl ?_
          refine WL.c rfl (o_pickT rfl (rfl) ?_)
          refine WL.c rfl (o_mv ?_)
          refine WL.s rfl (rfl) rfl ?_
          refine WL.s rfl (rfl) rfl ?_
          refine WL.c rfl (o_pickT rfl (rfl) ?_)
          refine WL.c rfl (o_as ?_)
          refine WL.nil ?_
          refine W.ret ?_
          refine ret1v rfl (show _ = Value.bool _ from rfl) ?_
          exact ⟨congrArg Value.bool (by rw [mark_or, Bool.eq_iff_iff]; simp_all <;> omega), rfl⟩
        · skip
          refine WL.g rfl (g17) rfl (o_mv ?_)
          refine WL.g rfl (g17) rfl (o_eq rfl rfl ?_)
          refine WL.c rfl (o_pickO rfl rfl ?_)
          refine WL.c rfl (o_mv ?_)
          refine WL.sp 18 rfl (fun g21 => ?_) (fun g21 => ?_)
          · skip
            refine WL.s rfl (g21) rfl ?_
            refine WL.s rfl (g21) rfl ?_
            refine WL.c rfl (o_pickT rfl (g21) ?_)
            refine WL.c rfl (o_mv ?_)
            refine WL.s rfl (rfl) rfl ?_
            refine WL.s rfl (rfl) rfl ?_
            refine WL.c rfl (o_pickT rfl (rfl) ?_)
            refine WL.c rfl (o_mv ?_)
            refine WL.s rfl (rfl) rfl ?_
            refine WL.s rfl (rfl) rfl ?_
            refine WL.c rfl (o_pickT rfl (rfl) ?_)
            refine WL.c rfl (o_as ?_)
            refine WL.nil ?_
            refine W.ret ?_
            refine ret1v rfl (show _ = Value.bool _ from rfl) ?_
            exact ⟨congrArg Value.bool (by rw [mark_or, Bool.eq_iff_iff]; simp_all <;> omega), rfl⟩
          · skip
            refine WL.g rfl (g21) rfl (o_mv ?_)
            refine WL.g rfl (g21) rfl (o_eq rfl rfl ?_)
            refine WL.c rfl (o_pickO rfl rfl ?_)
            refine WL.c rfl (o_mv ?_)
            refine WL.sp 22 rfl (fun g25 => ?_) (fun g25 => ?_)
            · skip
              refine WL.s rfl (g25) rfl ?_
              refine WL.s rfl (g25) rfl ?_
              refine WL.c rfl (o_pickT rfl (g25) ?_)
              refine WL.c rfl (o_mv ?_)
              refine WL.s rfl (rfl) rfl ?_
              refine WL.s rfl (rfl) rfl ?_
              refine WL.c rfl (o_pickT rfl (rfl) ?_)
              refine WL.c rfl (o_as ?_)
              refine WL.nil ?_
              refine W.ret ?_
              refine ret1v rfl (show _ = Value.bool _ from rfl) ?_
              exact ⟨congrArg Value.bool (by rw [mark_or, Bool.eq_iff_iff]; simp_all <;> omega), rfl⟩
            · skip
              refine WL.g rfl (g25) rfl (o_mv ?_)
              refine WL.g rfl (g25) rfl (o_eq rfl rfl ?_)
              refine WL.c rfl (o_pickO rfl rfl ?_)
              refine WL.c rfl (o_mv ?_)
              refine WL.sp 26 rfl (fun g29 => ?_) (fun g29 => ?_)
              · skip
                refine WL.s rfl (g29) rfl ?_
                refine WL.s rfl (g29) rfl ?_
                refine WL.c rfl (o_pickT rfl (g29) ?_)
                refine WL.c rfl (o_as ?_)
                refine WL.nil ?_
                refine W.ret ?_
                refine ret1v rfl (show _ = Value.bool _ from rfl) ?_
                exact ⟨congrArg Value.bool (by rw [mark_or, Bool.eq_iff_iff]; simp_all <;> omega), rfl⟩
              · skip
                refine WL.g rfl (g29) rfl (o_mv ?_)
                refine WL.g rfl (g29) rfl (o_eq rfl rfl ?_)
                refine WL.c rfl (o_pickO rfl rfl ?_)
                refine WL.c rfl (o_as ?_)
                refine WL.nil ?_
                refine W.ret ?_
                refine ret1v rfl (show _ = Value.bool _ from rfl) ?_
                exact ⟨congrArg Value.bool (by rw [mark_or, Bool.eq_iff_iff]; simp_all <;> omega), rfl⟩
theorem rblank_spec (c : UInt8) (w0 : World) : Ca Try.prog 28 #[bv c] w0 (fun v w' => v = .bool (blankB c) ∧ w' = w0) := by
  refine Ca.of Try.func28 Try.ntmps28 rfl rfl ?_
  refine W.seq ?_
  refine W.region ?_
  refine WL.c rfl (o_as ?_)
  refine WL.nil ?_
  refine W.seq ?_
  refine W.region ?_
  refine WL.c rfl (o_mv ?_)
  refine WL.c rfl (o_eq rfl rfl ?_)
  refine WL.c rfl (o_mv ?_)
  refine WL.sp 2 rfl (fun g5 => ?_) (fun g5 => ?_)
  · skip
    refine WL.s rfl (g5) rfl ?_
    refine WL.s rfl (g5) rfl ?_
    refine WL.c rfl (o_pickT rfl (g5) ?_)
    refine WL.c rfl (o_mv ?_)
    refine WL.s rfl (rfl) rfl ?_
    refine WL.s rfl (rfl) rfl ?_
    refine WL.c rfl (o_pickT rfl (rfl) ?_)
    refine WL.c rfl (o_as ?_)
    refine WL.nil ?_
    refine W.ret ?_
    refine ret1v rfl (show _ = Value.bool _ from rfl) ?_
    exact ⟨congrArg Value.bool (by rw [Bool.eq_iff_iff]; simp_all [blankB] <;> omega), rfl⟩
  · skip
    refine WL.g rfl (g5) rfl (o_mv ?_)
    refine WL.g rfl (g5) rfl (o_eq rfl rfl ?_)
    refine WL.c rfl (o_pickO rfl rfl ?_)
    refine WL.c rfl (o_mv ?_)
    refine WL.sp 6 rfl (fun g9 => ?_) (fun g9 => ?_)
    · skip
      refine WL.s rfl (g9) rfl ?_
      refine WL.s rfl (g9) rfl ?_
      refine WL.c rfl (o_pickT rfl (g9) ?_)
      refine WL.c rfl (o_as ?_)
      refine WL.nil ?_
      refine W.ret ?_
      refine ret1v rfl (show _ = Value.bool _ from rfl) ?_
      exact ⟨congrArg Value.bool (by rw [Bool.eq_iff_iff]; simp_all [blankB] <;> omega), rfl⟩
    · skip
      refine WL.g rfl (g9) rfl (o_mv ?_)
      refine WL.g rfl (g9) rfl (o_eq rfl rfl ?_)
      refine WL.c rfl (o_pickO rfl rfl ?_)
      refine WL.c rfl (o_as ?_)
      refine WL.nil ?_
      refine W.ret ?_
      refine ret1v rfl (show _ = Value.bool _ from rfl) ?_
      exact ⟨congrArg Value.bool (by rw [Bool.eq_iff_iff]; simp_all [blankB] <;> omega), rfl⟩
theorem rnumber_spec (xs : List UInt8) (w0 : World) (hlen : xs.length ≤ 9223372036854775807) (hd : ∀ c ∈ xs, digB c = true) : Ca Try.prog 34 #[st xs] w0 (fun v w' => ∃ (n : Nat) (b : Bool), v = .tuple #[.int .i64 (n : Int), .bool b] ∧ numL xs = (if b then (n, 0) else (0, 51)) ∧ w' = w0) := by
  refine Ca.of Try.func34 Try.ntmps34 rfl rfl ?_
  refine W.seq ?_
  refine W.region ?_
  refine WL.c rfl (o_as ?_)
  refine WL.c rfl (o_as ?_)
  refine WL.nil ?_
  refine W.seq ?_
  refine W.seq ?_
  refine W.region ?_
  refine WL.cut (fun e1 w1 => e1 18 = .bool (lead xs || decide (10 < xs.length)) ∧ e1 0 = st xs ∧ w1 = w0) ?_ ?_
  · -- region 1
    refine WL.c rfl (o_mv ?_)
    refine WL.c rfl (o_lenT TI9 rfl ?_)
    refine WL.c rfl (o_gt rfl rfl ?_)
    refine WL.c rfl (o_mv ?_)
    refine WL.sp 3 rfl (fun g9 => ?_) (fun g9 => ?_)
    · skip
      refine WL.g rfl (g9) rfl (o_mv ?_)
      refine WL.g rfl (g9) rfl (o_idT (i := 0) TI9 rfl rfl (by simp at g9; omega) ?_)
      refine WL.g rfl (g9) rfl (o_eq rfl rfl ?_)
      refine WL.c rfl (o_pickA rfl rfl ?_)
      refine WL.c rfl (o_mv ?_)
      refine WL.sp 8 rfl (fun g14 => ?_) (fun g14 => ?_)
      · skip
        refine WL.s rfl (g14) rfl ?_
        refine WL.s rfl (g14) rfl ?_
        refine WL.s rfl (g14) rfl ?_
        refine WL.c rfl (o_pickT rfl (g14) ?_)
        exact WL.nil (⟨congrArg Value.bool (by rw [Bool.eq_iff_iff]; simp_all [lead] <;> first | omega | grind), rfl, rfl⟩)
      · skip
        refine WL.g rfl (g14) rfl (o_mv ?_)
        refine WL.g rfl (g14) rfl (o_lenT TI9 rfl ?_)
        refine WL.g rfl (g14) rfl (o_gt rfl rfl ?_)
        refine WL.c rfl (o_pickO rfl rfl ?_)
        exact WL.nil (⟨congrArg Value.bool (by rw [Bool.eq_iff_iff]; simp_all [lead] <;> first | omega | grind), rfl, rfl⟩)
    · skip
      refine WL.s rfl (g9) rfl ?_
      refine WL.s rfl (g9) rfl ?_
      refine WL.s rfl (g9) rfl ?_
      refine WL.c rfl (o_pickF rfl (g9) ?_)
      refine WL.c rfl (o_mv ?_)
      refine WL.g rfl (rfl) rfl (o_mv ?_)
      refine WL.g rfl (rfl) rfl (o_lenT TI9 rfl ?_)
      refine WL.g rfl (rfl) rfl (o_gt rfl rfl ?_)
      refine WL.c rfl (o_pickO rfl rfl ?_)
      exact WL.nil (⟨congrArg Value.bool (by rw [Bool.eq_iff_iff]; simp_all [lead] <;> first | omega | grind), rfl, rfl⟩)
  rintro e w ⟨h18, h0, hw⟩
  refine W.cond h18 (fun c18 => ?_) (fun c18 => ?_)
  · try simp only [decide_eq_true_eq, decide_eq_false_iff_not, Bool.not_eq_true', Bool.not_eq_false', Bool.and_eq_true, Bool.or_eq_true, Bool.and_eq_false_iff, Bool.or_eq_false_iff] at c18
    refine W.seq ?_
    refine W.region ?_
    refine WL.c rfl (o_as ?_)
    refine WL.c rfl (o_as ?_)
    refine WL.nil ?_
    refine W.ret ?_
    refine ret2v rfl (show _ = Value.int _ _ from rfl) (show _ = Value.bool _ from rfl) ?_
    refine ⟨0, false, rfl, ?_, hw⟩
    rcases c18 with h | h
    · simp [numL, h]
    · simp [numL_long xs hd h]
  · try simp only [decide_eq_true_eq, decide_eq_false_iff_not, Bool.not_eq_true', Bool.not_eq_false', Bool.and_eq_true, Bool.or_eq_true, Bool.and_eq_false_iff, Bool.or_eq_false_iff] at c18
    obtain ⟨hld, hle⟩ := c18
    refine W.skip ?_
    refine W.seq ?_
    refine W.region ?_
    refine WL.c rfl (o_as ?_)
    refine WL.nil ?_
    refine W.seq ?_
    refine W.seq ?_
    refine W.region ?_
    refine WL.c rfl (o_as ?_)
    refine WL.nil ?_
    refine W.block ?_
    refine W.loop (fun e w => ∃ k n : Nat, k ≤ xs.length ∧ e 0 = st xs ∧ e 4 = .int .i64 (n : Int) ∧ e 5 = .int .i64 (k : Int) ∧ n < 10 ^ k ∧ valF 0 xs = valF n (xs.drop k) ∧ w = w0) (fun e w => xs.length - (intOf (e 5)).toNat) ?_ ?_
    · exact ⟨0, 0, Nat.zero_le _, h0, rfl, rfl, by decide, rfl, hw⟩
    rintro e w ⟨k, n, hk, h0, h4, h5, hn, hg, rfl⟩
    refine W.seq ?_
    refine W.seq ?_
    refine W.region ?_
    refine WL.c rfl (o_mvh h5 ?_)
    refine WL.c rfl (o_mvh h0 ?_)
    refine WL.c rfl (o_lenT TI9 rfl ?_)
    refine WL.c rfl (o_lt rfl rfl ?_)
    refine WL.nil ?_
    refine W.cond rfl (fun c22 => ?_) (fun c22 => ?_)
    · try simp only [decide_eq_true_eq, decide_eq_false_iff_not, Bool.not_eq_true', Bool.not_eq_false', Bool.and_eq_true, Bool.or_eq_true, Bool.and_eq_false_iff, Bool.or_eq_false_iff] at c22
      refine W.skip ?_
      refine W.seq ?_
      refine W.block ?_
      have hk1 : k < xs.length := by omega
      have hcons : xs.drop k = xs[k] :: xs.drop (k + 1) := by rw [List.getElem_cons_drop]
      have hdk := hd xs[k] (List.getElem_mem hk1)
      have hc8 : (xs[k]).toNat < 256 := UInt8.toNat_lt _
      have h10 : 10 ^ k ≤ 10 ^ 9 := Nat.pow_le_pow_right (by omega) (by simp at hle; omega)
      simp [digB] at hdk
      refine W.region ?_
      refine WL.c rfl (o_mvh h4 ?_)
      refine WL.c rfl (o_muli rfl rfl (by omega) ?_)
      refine WL.c rfl (o_mvh h0 ?_)
      refine WL.c rfl (o_mvh h5 ?_)
      refine WL.c rfl (o_idT TI9 rfl rfl (by omega) ?_)
      refine WL.c rfl (n_sub8 (b := 48) rfl rfl (by omega) (by omega) ?_)
      refine WL.c rfl (o_cvU TI5 TI3 rfl (by omega) ?_)
      refine WL.c rfl (o_addi rfl rfl (by omega) ?_)
      refine WL.c rfl (o_as ?_)
      refine WL.nil ?_
      refine W.region ?_
      refine WL.c rfl (o_mvh h5 ?_)
      refine WL.c rfl (o_addi rfl rfl (by omega) ?_)
      refine WL.c rfl (o_as ?_)
      refine WL.nil ?_
      refine ⟨⟨k + 1, 10 * n + ((xs[k]).toNat - 48), by omega, h0, (by show Value.int .i64 (10 * (n : Int) + (((xs[k]).toNat - 48 : Nat) : Int)) = _; congr 1), rfl, by rw [Nat.pow_succ]; omega, by rw [hg, hcons, valF_cons], rfl⟩, ?_⟩
      show xs.length - ((k : Int) + 1).toNat < _
      rw [h5]; simp [intOf]; omega
    · try simp only [decide_eq_true_eq, decide_eq_false_iff_not, Bool.not_eq_true', Bool.not_eq_false', Bool.and_eq_true, Bool.or_eq_true, Bool.and_eq_false_iff, Bool.or_eq_false_iff] at c22
      refine W.exit ?_
      refine W.seq ?_
      refine W.region ?_
      refine WL.c rfl (o_mvh h4 ?_)
      refine WL.c rfl (o_mvh h4 ?_)
      refine WL.c rfl (o_le rfl rfl ?_)
      refine WL.c rfl (o_as ?_)
      refine WL.c rfl (o_as ?_)
      refine WL.nil ?_
      refine W.ret ?_
      refine ret2v rfl (show _ = Value.int _ _ from rfl) (show _ = Value.bool _ from rfl) ?_
      have hk2 : k = xs.length := by omega
      rw [hk2, List.drop_length] at hg
      refine ⟨n, decide (n ≤ 2147483647), by simp; omega, ?_, rfl⟩
      rw [numL_val xs (by simpa using hld), hg]
      by_cases hn2 : n ≤ 2147483647 <;> simp [valF, hn2]
end Go.Proofs.Ytiabjbaegdgmmaa
