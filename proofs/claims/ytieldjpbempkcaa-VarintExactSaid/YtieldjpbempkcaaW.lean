/-
  Walks. Written by program out of specs of mine.
-/
import Derived.Test.YtieldjpbempkcaaStr
import Derived.Test.YtieldjpbempkcaaFacts
set_option linter.unusedSimpArgs false
set_option linter.unusedVariables false
namespace Go.Proofs.Ytieldjpbempkcaa
open Go Go.Vc Go.RowKit Go.Proofs

/-! ### the document's numbers, plainly -/
def vsize (n : Nat) : Nat := if h : n < 128 then 1 else vsize (n / 128) + 1
theorem vsize_lt {n : Nat} (h : n < 128) : vsize n = 1 := by rw [vsize, dif_pos h]
theorem vsize_ge {n : Nat} (h : ¬ n < 128) : vsize n = vsize (n / 128) + 1 := by rw [vsize, dif_neg h]
theorem vsize_pos (n : Nat) : 1 ≤ vsize n := by by_cases h : n < 128
                                                · rw [vsize_lt h]; omega
                                                · rw [vsize_ge h]; omega
theorem vsize_pow : ∀ (k n : Nat), n < 128 ^ (k + 1) → vsize n ≤ k + 1 := by
  intro k
  induction k with
  | zero => intro n h; rw [vsize_lt (by simpa using h)]; omega
  | succ k ih =>
    intro n h
    by_cases hn : n < 128
    · rw [vsize_lt hn]; omega
    · rw [vsize_ge hn]
      have := ih (n / 128) (Nat.div_lt_of_lt_mul (by rw [Nat.pow_succ] at h; omega))
      omega
theorem vsize_10 {n : Nat} (h : n < 2 ^ 64) : vsize n ≤ 10 := vsize_pow 9 n (Nat.lt_of_lt_of_le h (by decide))
/-- byte number j of n -/
def dig (n j : Nat) : Nat := n / 128 ^ j % 128
def vbyte (n s j : Nat) : UInt8 := UInt8.ofNat (if j + 1 < s then dig n j + 128 else dig n j)
def vput (n : Nat) : List UInt8 := (List.range (vsize n)).map (vbyte n (vsize n))
theorem vput_len (n : Nat) : (vput n).length = vsize n := by simp [vput]
theorem or128 : ∀ a : Nat, a < 256 → a ||| 128 = a % 128 + 128 := by decide +kernel
theorem and127 : ∀ a : Nat, a < 256 → a &&& 127 = a % 128 := by decide +kernel
def vfault (c : UInt8) (k : Nat) : Bool := (decide (0 < k) && decide (c.toNat = 0)) || (decide (k = 9) && decide (1 < c.toNat))
def vget (k n : Nat) : List UInt8 → Nat × Nat × Nat
  | [] => (0, k, 20)
  | c :: cs => if vfault c k then (0, k, 21) else if c.toNat < 128 then (n + c.toNat % 128 * 128 ^ k, k + 1, 0) else vget (k + 1) (n + c.toNat % 128 * 128 ^ k) cs
abbrev By (w : World) (v : Value) (xs : List UInt8) : Prop := Sl w 1 v xs.length (xs.map bv)
theorem pow_lt9 {k : Nat} (hk : k ≤ 9) : 128 ^ k ≤ 2 ^ 63 := Nat.le_trans (Nat.pow_le_pow_right (by decide) hk) (by decide)
/-- one group more -/
theorem grp {k m c : Nat} (hk : k ≤ 9) (hm : m < 128 ^ k) (hc : c < 256) (h9 : k = 9 → c ≤ 1) :
    (m ||| ((c &&& 127) % 2 ^ 64 * 2 ^ (7 * k)) % 2 ^ 64) = m + c % 128 * 128 ^ k ∧ m + c % 128 * 128 ^ k < 2 ^ 64 ∧ (k < 9 → m + c % 128 * 128 ^ k < 128 ^ (k + 1)) := by
  have e : (2 : Nat) ^ (7 * k) = 128 ^ k := by rw [Nat.pow_mul]
  have h1 : c % 128 < 128 := Nat.mod_lt _ (by decide)
  have hp := pow_lt9 hk
  have lt2 : k < 9 → m + c % 128 * 128 ^ k < 128 ^ (k + 1) := by
    intro _
    have : c % 128 * 128 ^ k ≤ 127 * 128 ^ k := Nat.mul_le_mul_right _ (by omega)
    rw [Nat.pow_succ]; omega
  have lt : m + c % 128 * 128 ^ k < 2 ^ 64 := by
    by_cases h : k = 9
    · have := h9 h
      have : c % 128 * 128 ^ k ≤ 1 * 128 ^ k := Nat.mul_le_mul_right _ (by omega)
      omega
    · have h3 := lt2 (by omega)
      have : 128 ^ (k + 1) ≤ 128 ^ 9 := Nat.pow_le_pow_right (by decide) (by omega)
      have : (128 : Nat) ^ 9 = 2 ^ 63 := by decide
      omega
  refine ⟨?_, lt, lt2⟩
  rw [and127 c hc, Nat.mod_eq_of_lt (show c % 128 < 2 ^ 64 by omega), e, Nat.mod_eq_of_lt (by omega)]
  have := Nat.two_pow_add_eq_or_of_lt (i := 7 * k) (b := m) (by rw [e]; exact hm) (c % 128)
  rw [e] at this
  rw [Nat.or_comm, Nat.mul_comm, ← this]
  exact Nat.add_comm _ _
theorem getbv {xs : List UInt8} {k : Nat} (h : k < xs.length) : (xs.map bv)[k]? = some (bv xs[k]) := by simp [h]
theorem vfault9 {c : UInt8} {k : Nat} (h : vfault c k = false) : (k = 9 → c.toNat ≤ 1) ∧ (0 < k → c.toNat ≠ 0) := by
  simp only [vfault, Bool.or_eq_false_iff, Bool.and_eq_false_iff, decide_eq_false_iff_not] at h
  omega

theorem size_spec (n : Nat) (hn : n < 2 ^ 64) (w0 : World) : Ca Try.prog 14 #[.int .u64 (n : Int)] w0 (fun v w' => v = .int .i64 (vsize n : Int) ∧ w' = w0) := by
  have hs := vsize_10 hn
  refine Ca.of Try.func14 Try.ntmps14 rfl rfl ?_
  refine W.seq ?_
  refine W.region ?_
  refine WL.c rfl (o_as ?_)
  refine WL.nil ?_
  refine W.seq ?_
  refine W.region ?_
  refine WL.c rfl (o_as ?_)
  refine WL.nil ?_
  refine W.seq ?_
  refine W.block ?_
  refine W.loop (fun e w => ∃ m k : Nat, e 0 = .int .u64 (m : Int) ∧ m < 2 ^ 64 ∧ e 3 = .int .i64 (k : Int) ∧ vsize n + 1 = vsize m + k ∧ w = w0) (fun e w => (intOf (e 0)).toNat) ?_ ?_
  · exact ⟨n, 1, rfl, hn, rfl, rfl, rfl⟩
  rintro e w ⟨m, k, h0, hm, h3, hk, rfl⟩
  refine W.seq ?_
  refine W.seq ?_
  refine W.region ?_
  refine WL.c rfl (o_mvh h0 ?_)
  refine WL.c rfl (o_ge rfl rfl ?_)
  refine WL.nil ?_
  refine W.cond rfl (fun c5 => ?_) (fun c5 => ?_)
  · try simp only [decide_eq_true_eq, decide_eq_false_iff_not, Bool.not_eq_true', Bool.not_eq_false', Bool.and_eq_true, Bool.or_eq_true, Bool.and_eq_false_iff, Bool.or_eq_false_iff] at c5
    refine W.skip ?_
    refine W.block ?_
    refine W.seq ?_
    refine W.region ?_
    refine WL.c rfl (o_mvh h0 ?_)
    refine WL.c rfl (n_shr (b := 7) 18446744073709551616 rfl (by decide) rfl rfl (by omega) ?_)
    refine WL.c rfl (o_as ?_)
    refine WL.nil ?_
    refine W.region ?_
    refine WL.c rfl (o_mvh h3 ?_)
    refine WL.c rfl (o_addi rfl rfl (by omega) ?_)
    refine WL.c rfl (o_as ?_)
    refine WL.nil ?_
    have := vsize_ge (n := m) (by omega)
    refine ⟨⟨m / 128, k + 1, rfl, by omega, rfl, by omega, rfl⟩, ?_⟩
    show ((m / 128 : Nat) : Int).toNat < (intOf (e 0)).toNat
    rw [h0]; simp [intOf]; omega
  · try simp only [decide_eq_true_eq, decide_eq_false_iff_not, Bool.not_eq_true', Bool.not_eq_false', Bool.and_eq_true, Bool.or_eq_true, Bool.and_eq_false_iff, Bool.or_eq_false_iff] at c5
    refine W.exit ?_
    refine W.seq ?_
    refine W.region ?_
    refine WL.c rfl (o_mvh h3 ?_)
    refine WL.c rfl (o_as ?_)
    refine WL.nil ?_
    refine W.ret ?_
    refine ret1v rfl (show _ = Value.int _ _ from rfl) ?_
    have := vsize_lt (n := m) (by omega)
    exact ⟨by congr 1; omega, rfl⟩
theorem fault_spec (c : UInt8) (k : Nat) (w : World) : Ca Try.prog 31 #[bv c, .int .i64 (k : Int)] w (fun v w' => v = .bool (vfault c k) ∧ w' = w) := by
  refine Ca.of Try.func31 Try.ntmps31 rfl rfl ?_
  refine W.seq ?_
  refine W.region ?_
  refine WL.c rfl (o_as ?_)
  refine WL.nil ?_
  refine W.seq ?_
  refine W.region ?_
  refine WL.c rfl (o_mv ?_)
  refine WL.c rfl (o_gt rfl rfl ?_)
  refine WL.c rfl (o_mv ?_)
  refine WL.sp 2 rfl (fun g7 => ?_) (fun g7 => ?_)
  · skip
    refine WL.g rfl (g7) rfl (o_mv ?_)
    refine WL.g rfl (g7) rfl (o_eq rfl rfl ?_)
    refine WL.c rfl (o_pickA rfl rfl ?_)
    refine WL.c rfl (o_mv ?_)
    refine WL.sp 6 rfl (fun g11 => ?_) (fun g11 => ?_)
    · skip
      refine WL.s rfl (g11) rfl ?_
      refine WL.s rfl (g11) rfl ?_
      refine WL.s rfl (g11) rfl ?_
      refine WL.z rfl rfl ?_
      refine WL.z rfl rfl ?_
      refine WL.s rfl (g11) rfl ?_
      refine WL.c rfl (o_pickT rfl (g11) ?_)
      refine WL.c rfl (o_as ?_)
      refine WL.nil ?_
      refine W.ret ?_
      refine ret1v rfl (show _ = Value.bool _ from rfl) ?_
      refine ⟨?_, rfl⟩
      congr 1
      simp only [decide_eq_true_eq, decide_eq_false_iff_not, Bool.and_eq_true, Bool.and_eq_false_iff] at *
      rw [Bool.eq_iff_iff]
      simp only [vfault, Bool.or_eq_true, Bool.and_eq_true, decide_eq_true_eq, true_iff, iff_true, Bool.false_eq_true, iff_false, false_iff, false_or, or_false, and_false, false_and, true_and, and_true, reduceCtorEq]
      omega
    · skip
      refine WL.g rfl (g11) rfl (o_mv ?_)
      refine WL.g rfl (g11) rfl (o_eq rfl rfl ?_)
      refine WL.g rfl (g11) rfl (o_mv ?_)
      refine WL.sp 9 rfl (fun g14 => ?_) (fun g14 => ?_)
      · skip
        refine WL.g rfl (g14) rfl (o_mv ?_)
        refine WL.g rfl (g14) rfl (o_gt rfl rfl ?_)
        refine WL.g rfl (g11) rfl (o_pickA rfl rfl ?_)
        refine WL.c rfl (o_pickO rfl rfl ?_)
        refine WL.c rfl (o_as ?_)
        refine WL.nil ?_
        refine W.ret ?_
        refine ret1v rfl (show _ = Value.bool _ from rfl) ?_
        refine ⟨?_, rfl⟩
        congr 1
        simp only [decide_eq_true_eq, decide_eq_false_iff_not, Bool.and_eq_true, Bool.and_eq_false_iff] at *
        rw [Bool.eq_iff_iff]
        simp only [vfault, Bool.or_eq_true, Bool.and_eq_true, decide_eq_true_eq, true_iff, iff_true, Bool.false_eq_true, iff_false, false_iff, false_or, or_false, and_false, false_and, true_and, and_true, reduceCtorEq]
        omega
      · skip
        refine WL.s rfl (g14) rfl ?_
        refine WL.s rfl (g14) rfl ?_
        refine WL.g rfl (g11) rfl (o_pickF rfl (g14) ?_)
        refine WL.c rfl (o_pickO rfl rfl ?_)
        refine WL.c rfl (o_as ?_)
        refine WL.nil ?_
        refine W.ret ?_
        refine ret1v rfl (show _ = Value.bool _ from rfl) ?_
        refine ⟨?_, rfl⟩
        congr 1
        simp only [decide_eq_true_eq, decide_eq_false_iff_not, Bool.and_eq_true, Bool.and_eq_false_iff] at *
        rw [Bool.eq_iff_iff]
        simp only [vfault, Bool.or_eq_true, Bool.and_eq_true, decide_eq_true_eq, true_iff, iff_true, Bool.false_eq_true, iff_false, false_iff, false_or, or_false, and_false, false_and, true_and, and_true, reduceCtorEq]
        omega
  · skip
    refine WL.s rfl (g7) rfl ?_
    refine WL.s rfl (g7) rfl ?_
    refine WL.c rfl (o_pickF rfl (g7) ?_)
    refine WL.c rfl (o_mv ?_)
    refine WL.g rfl (rfl) rfl (o_mv ?_)
    refine WL.g rfl (rfl) rfl (o_eq rfl rfl ?_)
    refine WL.g rfl (rfl) rfl (o_mv ?_)
    refine WL.sp 9 rfl (fun g14 => ?_) (fun g14 => ?_)
    · skip
      refine WL.g rfl (g14) rfl (o_mv ?_)
      refine WL.g rfl (g14) rfl (o_gt rfl rfl ?_)
      refine WL.g rfl (rfl) rfl (o_pickA rfl rfl ?_)
      refine WL.c rfl (o_pickO rfl rfl ?_)
      refine WL.c rfl (o_as ?_)
      refine WL.nil ?_
      refine W.ret ?_
      refine ret1v rfl (show _ = Value.bool _ from rfl) ?_
      refine ⟨?_, rfl⟩
      congr 1
      simp only [decide_eq_true_eq, decide_eq_false_iff_not, Bool.and_eq_true, Bool.and_eq_false_iff] at *
      rw [Bool.eq_iff_iff]
      simp only [vfault, Bool.or_eq_true, Bool.and_eq_true, decide_eq_true_eq, true_iff, iff_true, Bool.false_eq_true, iff_false, false_iff, false_or, or_false, and_false, false_and, true_and, and_true, reduceCtorEq]
      omega
    · skip
      refine WL.s rfl (g14) rfl ?_
      refine WL.s rfl (g14) rfl ?_
      refine WL.g rfl (rfl) rfl (o_pickF rfl (g14) ?_)
      refine WL.c rfl (o_pickO rfl rfl ?_)
      refine WL.c rfl (o_as ?_)
      refine WL.nil ?_
      refine W.ret ?_
      refine ret1v rfl (show _ = Value.bool _ from rfl) ?_
      refine ⟨?_, rfl⟩
      congr 1
      simp only [decide_eq_true_eq, decide_eq_false_iff_not, Bool.and_eq_true, Bool.and_eq_false_iff] at *
      rw [Bool.eq_iff_iff]
      simp only [vfault, Bool.or_eq_true, Bool.and_eq_true, decide_eq_true_eq, true_iff, iff_true, Bool.false_eq_true, iff_false, false_iff, false_or, or_false, and_false, false_and, true_and, and_true, reduceCtorEq]
      omega
theorem get_spec (xs : List UInt8) (v : Value) (w0 : World) (hB : By w0 v xs) (hlen : xs.length ≤ maxLen) : Ca Try.prog 15 #[v] w0 (fun r w' => r = .tuple #[.int .u64 ((vget 0 0 xs).1 : Int), .int .i64 ((vget 0 0 xs).2.1 : Int), .int .i64 ((vget 0 0 xs).2.2 : Int)] ∧ w' = w0) := by
  unfold maxLen at hlen
  refine Ca.of Try.func15 Try.ntmps15 rfl rfl ?_
  refine W.seq ?_
  refine W.region ?_
  refine WL.c rfl (o_as ?_)
  refine WL.c rfl (o_as ?_)
  refine WL.c rfl (o_as ?_)
  refine WL.nil ?_
  refine W.seq ?_
  refine W.seq ?_
  refine W.region ?_
  refine WL.c rfl (o_mv ?_)
  refine WL.c rfl (o_lenR TI32 rfl hB ?_)
  refine WL.c rfl (o_mv ?_)
  refine WL.nil ?_
  refine W.block ?_
  refine W.loop (fun e w => ∃ k m : Nat, e 2 = .int .u64 (m : Int) ∧ e 7 = v ∧ e 8 = .int .i64 (xs.length : Int) ∧ e 9 = .int .i64 (k : Int) ∧ k ≤ xs.length ∧ k ≤ 9 ∧ m < 128 ^ k ∧ vget 0 0 xs = vget k m (xs.drop k) ∧ e 0 = v ∧ w = w0) (fun e w => xs.length - (intOf (e 9)).toNat) ?_ ?_
  · exact ⟨0, 0, rfl, rfl, rfl, rfl, Nat.zero_le _, by omega, by decide, rfl, rfl, rfl⟩
  rintro e w ⟨k, m, h2, h7, h8, h9, hk, hk9, hm, hg, h0, rfl⟩
  refine W.seq ?_
  refine W.region ?_
  refine WL.c rfl (o_lt h9 h8 ?_)
  refine WL.nil ?_
  refine W.seq ?_
  refine W.cond rfl (fun c10 => ?_) (fun c10 => ?_)
  · try simp only [decide_eq_true_eq, decide_eq_false_iff_not, Bool.not_eq_true', Bool.not_eq_false', Bool.and_eq_true, Bool.or_eq_true, Bool.and_eq_false_iff, Bool.or_eq_false_iff] at c10
    refine W.skip ?_
    refine W.seq ?_
    refine W.block ?_
    refine W.seq ?_
    have hk1 : k < xs.length := by omega
    refine W.region ?_
    refine WL.c rfl (o_mvh h9 ?_)
    refine WL.c rfl (o_ix1 TI32 TI5 h7 h9 hB (by omega) ?_)
    intro b12 o12 hc12 hb12
    refine WL.c rfl (o_ld TI5 rfl rfl (hc12.trans (getbv hk1)) ?_)
    refine WL.c rfl (o_as ?_)
    refine WL.c rfl (o_as ?_)
    refine WL.nil ?_
    refine W.seq ?_
    refine W.seq ?_
    refine W.region ?_
    refine WL.c rfl (o_mv ?_)
    refine WL.c rfl (o_mv ?_)
    refine WL.c rfl (o_call Try.call31 (lc rfl (lc rfl ln)) ((fault_spec xs[k] k _).mono ?_))
    rintro v w' ⟨rfl, rfl⟩
    refine WL.nil ?_
    refine W.cond rfl (fun c16 => ?_) (fun c16 => ?_)
    · try simp only [decide_eq_true_eq, decide_eq_false_iff_not, Bool.not_eq_true', Bool.not_eq_false', Bool.and_eq_true, Bool.or_eq_true, Bool.and_eq_false_iff, Bool.or_eq_false_iff] at c16
      have hf : vfault xs[k] k = true := c16
      refine W.seq ?_
      refine W.region ?_
      refine WL.c rfl (o_mv ?_)
      refine WL.c rfl (o_as ?_)
      refine WL.c rfl (o_as ?_)
      refine WL.c rfl (o_as ?_)
      refine WL.nil ?_
      refine W.ret ?_
      refine ret3v rfl (show _ = Value.int _ _ from rfl) (show _ = Value.int _ _ from rfl) (show _ = Value.int _ _ from rfl) ?_
      refine ⟨?_, rfl⟩
      have hcons : xs.drop k = xs[k] :: xs.drop (k + 1) := by rw [List.getElem_cons_drop]
      rw [hg, hcons, vget]
      simp only [hf, if_true]; rfl
    · try simp only [decide_eq_true_eq, decide_eq_false_iff_not, Bool.not_eq_true', Bool.not_eq_false', Bool.and_eq_true, Bool.or_eq_true, Bool.and_eq_false_iff, Bool.or_eq_false_iff] at c16
      have hf : vfault xs[k] k = false := c16
      have hc8 : (xs[k]).toNat < 256 := UInt8.toNat_lt _
      have hgr := grp (c := (xs[k]).toNat) hk9 hm hc8 (vfault9 hf).1
      have hm64 : m < 18446744073709551616 := by have := pow_lt9 hk9; omega
      refine W.skip ?_
      refine W.seq ?_
      refine W.region ?_
      refine WL.c rfl (o_mvh h2 ?_)
      refine WL.c rfl (o_mv ?_)
      refine WL.c rfl (n_and (b := 127) 256 rfl (by decide) rfl rfl (by omega) (by decide) ?_)
      refine WL.c rfl (n_cvI 18446744073709551616 rfl TI5 TI31 (by decide) rfl ?_)
      refine WL.c rfl (o_mv ?_)
      refine WL.c rfl (o_muli rfl rfl (by omega) ?_)
      refine WL.c rfl (n_shl (b := 7 * k) 18446744073709551616 rfl (by decide) rfl (by show Value.int _ (7 * (k : Int)) = _; rfl) ?_)
      refine WL.c rfl (n_or 18446744073709551616 rfl (by decide) rfl rfl (by omega) (Nat.mod_lt _ (by decide)) ?_)
      refine WL.c rfl (o_as ?_)
      refine WL.nil ?_
      refine W.seq ?_
      refine W.region ?_
      refine WL.c rfl (o_mv ?_)
      refine WL.c rfl (o_lt rfl rfl ?_)
      refine WL.nil ?_
      refine W.cond rfl (fun c27 => ?_) (fun c27 => ?_)
      · try simp only [decide_eq_true_eq, decide_eq_false_iff_not, Bool.not_eq_true', Bool.not_eq_false', Bool.and_eq_true, Bool.or_eq_true, Bool.and_eq_false_iff, Bool.or_eq_false_iff] at c27
        refine W.seq ?_
        refine W.region ?_
        refine WL.c rfl (o_mv ?_)
        refine WL.c rfl (o_mv ?_)
        refine WL.c rfl (o_addi rfl rfl (by omega) ?_)
        refine WL.c rfl (o_as ?_)
        refine WL.c rfl (o_as ?_)
        refine WL.c rfl (o_as ?_)
        refine WL.nil ?_
        refine W.ret ?_
        refine ret3v rfl (show _ = Value.int _ _ from rfl) (show _ = Value.int _ _ from rfl) (show _ = Value.int _ _ from rfl) ?_
        refine ⟨?_, rfl⟩
        have hcons : xs.drop k = xs[k] :: xs.drop (k + 1) := by rw [List.getElem_cons_drop]
        rw [hg, hcons, vget]
        simp only [hf, Bool.false_eq_true, if_false]
        rw [if_pos (by omega)]
        congr 4
        exact congrArg (fun n : Nat => (n : Int)) hgr.1
      · try simp only [decide_eq_true_eq, decide_eq_false_iff_not, Bool.not_eq_true', Bool.not_eq_false', Bool.and_eq_true, Bool.or_eq_true, Bool.and_eq_false_iff, Bool.or_eq_false_iff] at c27
        refine W.skip ?_
        refine W.region ?_
        refine WL.c rfl (o_addi h9 rfl (by omega) ?_)
        refine WL.c rfl (o_mv ?_)
        refine WL.nil ?_
        have hcons : xs.drop k = xs[k] :: xs.drop (k + 1) := by rw [List.getElem_cons_drop]
        rw [hcons, vget] at hg
        simp only [hf, Bool.false_eq_true, if_false] at hg
        rw [if_neg (by omega)] at hg
        have hk8 : k < 9 := by have := vfault9 hf; omega
        refine ⟨⟨k + 1, _, congrArg (fun n : Nat => Value.int .u64 (n : Int)) hgr.1, h7, h8, rfl, by omega, by omega, hgr.2.2 hk8, hg, h0, rfl⟩, ?_⟩
        show xs.length - ((k : Int) + 1).toNat < _
        rw [h9]; simp [intOf]; omega
  · try simp only [decide_eq_true_eq, decide_eq_false_iff_not, Bool.not_eq_true', Bool.not_eq_false', Bool.and_eq_true, Bool.or_eq_true, Bool.and_eq_false_iff, Bool.or_eq_false_iff] at c10
    refine W.exit ?_
    refine W.seq ?_
    refine W.region ?_
    refine WL.c rfl (o_mvh h0 ?_)
    refine WL.c rfl (o_lenR TI32 rfl hB ?_)
    refine WL.c rfl (o_as ?_)
    refine WL.c rfl (o_as ?_)
    refine WL.c rfl (o_as ?_)
    refine WL.nil ?_
    refine W.ret ?_
    refine ret3v rfl (show _ = Value.int _ _ from rfl) (show _ = Value.int _ _ from rfl) (show _ = Value.int _ _ from rfl) ?_
    refine ⟨?_, rfl⟩
    have : k = xs.length := by omega
    rw [hg, this, List.drop_length]; rfl

theorem vbyte_lt (n s j : Nat) : (if j + 1 < s then dig n j + 128 else dig n j) < 256 := by unfold dig; split <;> omega
theorem bv_ofNat {a : Nat} (h : a < 256) : bv (UInt8.ofNat a) = .int .u8 (a : Int) := by simp [bv, Nat.mod_eq_of_lt h]
/-- the bytes that are written so far, all of them with the high bit -/
def hi (n j : Nat) : UInt8 := UInt8.ofNat (dig n j + 128)
def filled (n s i : Nat) : List Value := ((List.range i).map fun j => bv (hi n j)) ++ List.replicate (s - i) (.int .u8 0)
theorem filled_len {n s i : Nat} (h : i ≤ s) : (filled n s i).length = s := by simp [filled]; omega
theorem filled_set {n s i : Nat} (h : i < s) {v : Value} (hv : v = bv (hi n i)) : (filled n s i).set i v = filled n s (i + 1) := by
  subst hv
  unfold filled
  apply List.ext_getElem?
  intro j
  rw [List.getElem?_set]
  simp only [List.length_append, List.length_map, List.length_range, List.length_replicate]
  by_cases hj : i = j
  · subst hj
    rw [if_pos rfl, if_pos (by omega), List.getElem?_append_left (by simp)]
    simp
  · rw [if_neg hj]
    by_cases h1 : j < i
    · rw [List.getElem?_append_left (by simpa using h1), List.getElem?_append_left (by simp; omega)]
      simp [h1, show j < i + 1 by omega]
    · rw [List.getElem?_append_right (by simp; omega), List.getElem?_append_right (by simp; omega)]
      simp only [List.length_map, List.length_range, List.getElem?_replicate]
      split <;> split <;> first | rfl | omega
theorem filled_last {n s : Nat} (h : 0 < s) {v : Value} (hs : s = vsize n) (hv : v = bv (UInt8.ofNat (dig n (s - 1)))) : (filled n s s).set (s - 1) v = (vput n).map bv := by
  subst hv hs
  unfold filled vput
  apply List.ext_getElem?
  intro j
  rw [List.getElem?_set]
  simp only [List.length_append, List.length_map, List.length_range, List.length_replicate, List.map_map]
  by_cases hj : vsize n - 1 = j
  · subst hj
    rw [if_pos rfl, if_pos (by omega)]
    simp [show vsize n - 1 < vsize n by omega, vbyte, show ¬ (vsize n - 1 + 1 < vsize n) by omega]
  · rw [if_neg hj]
    by_cases h1 : j < vsize n
    · simp [h1, vbyte, hi, show j + 1 < vsize n by omega]
    · simp [h1]
theorem dig_div (n i : Nat) : n / 128 ^ i / 128 = n / 128 ^ (i + 1) := by rw [Nat.div_div_eq_div_mul, Nat.pow_succ]
theorem madeBytes (s : Nat) : (madeCells #[.int .u8 0] (s * 1)).toList = filled 0 s 0 := by
  rw [Nat.mul_one, toList_madeCells_one]; simp [filled]

theorem put_spec (n : Nat) (hn : n < 2 ^ 64) (w0 : World) : Ca Try.prog 13 #[.int .u64 (n : Int)] w0 (fun v w' => ∃ b, v = .slice (some ⟨b, 0, none⟩) (vsize n) (vsize n) ∧ w0.heap.size ≤ b ∧ w'.heap[b]? = some (.cells ((vput n).map bv).toArray 5 (0, 0)) ∧ Ext w0 w') := by
  have hs10 := vsize_10 hn
  have hs1 := vsize_pos n
  refine Ca.of Try.func13 Try.ntmps13 rfl rfl ?_
  refine W.seq ?_
  refine W.region ?_
  refine WL.c rfl (o_as ?_)
  refine WL.nil ?_
  refine W.seq ?_
  refine W.region ?_
  refine WL.c rfl (o_mv ?_)
  refine WL.c rfl (o_call Try.call14 (lc rfl ln) ((size_spec n hn _).mono ?_))
  rintro v w' ⟨rfl, rfl⟩
  refine WL.c rfl (o_mk TI32 TI5 rfl rfl (by omega) (by omega) ?_)
  refine WL.c rfl (o_as ?_)
  refine WL.nil ?_
  have hblk : (w'.alloc (.cells (madeCells #[.int .u8 0] (vsize n * 1)) 5)).heap[w'.heap.size]? = some (.cells (filled n (vsize n) 0).toArray 5 (0, 0)) := by
    rw [heap_alloc_new]
    have := madeBytes (vsize n)
    congr 2
    apply Array.ext'
    simpa [filled] using this
  have hext : Ext w' (w'.alloc (.cells (madeCells #[.int .u8 0] (vsize n * 1)) 5)) := Only.alloc _ _
  obtain ⟨wa, hwa⟩ : ∃ wa, wa = w'.alloc (.cells (madeCells #[.int .u8 0] (vsize n * 1)) 5) := ⟨_, rfl⟩
  have hgo : ∀ wx, wx = wa → True := fun _ _ => trivial
  refine W.seq ?_
  refine W.seq ?_
  refine W.region ?_
  refine WL.c rfl (o_mv ?_)
  refine WL.c rfl (o_len TI32 rfl ?_)
  refine WL.c rfl (o_mv ?_)
  refine WL.nil ?_
  refine W.block ?_
  refine W.loop (fun e w => ∃ i : Nat, i ≤ vsize n ∧ e 0 = .int .u64 ((n / 128 ^ i : Nat) : Int) ∧ e 3 = .slice (some ⟨w'.heap.size, 0, none⟩) (vsize n) (vsize n) ∧ e 9 = .int .i64 (vsize n : Int) ∧ e 10 = .int .i64 (i : Int) ∧ w.heap[w'.heap.size]? = some (.cells (filled n (vsize n) i).toArray 5 (0, 0)) ∧ Ext w' w) (fun e w => vsize n - (intOf (e 10)).toNat) ?_ ?_
  · exact ⟨0, Nat.zero_le _, by show Value.int _ _ = _; simp, rfl, rfl, rfl, hblk, hext⟩
  rintro e w ⟨i, hi1, h0, h3, h9, h10, hb, hx⟩
  refine W.seq ?_
  refine W.region ?_
  refine WL.c rfl (o_lt h10 h9 ?_)
  refine WL.nil ?_
  refine W.seq ?_
  refine W.cond rfl (fun c11 => ?_) (fun c11 => ?_)
  · try simp only [decide_eq_true_eq, decide_eq_false_iff_not, Bool.not_eq_true', Bool.not_eq_false', Bool.and_eq_true, Bool.or_eq_true, Bool.and_eq_false_iff, Bool.or_eq_false_iff] at c11
    refine W.skip ?_
    refine W.seq ?_
    refine W.block ?_
    refine W.seq ?_
    refine W.region ?_
    refine WL.c rfl (o_mvh h10 ?_)
    refine WL.c rfl (o_as ?_)
    refine WL.nil ?_
    refine W.seq ?_
    have hin : n / 128 ^ i < 2 ^ 64 := Nat.lt_of_le_of_lt (Nat.div_le_self _ _) hn
    have hlt : i < vsize n := by omega
    refine W.region ?_
    refine WL.c rfl (o_mvh h3 ?_)
    refine WL.c rfl (o_mv ?_)
    refine WL.c rfl (o_mvh h0 ?_)
    refine WL.c rfl (n_cvI 256 rfl TI31 TI5 (by decide) rfl ?_)
    refine WL.c rfl (n_or (b := 128) 256 rfl (by decide) rfl rfl (Nat.mod_lt _ (by decide)) (by decide) ?_)
    refine WL.c rfl (o_ixB TI32 TI5 rfl rfl (by omega) ?_)
    refine WL.u (o_stB TI5 rfl (show _ = Value.int _ _ from rfl) rfl hb (by simp [filled_len hi1]; omega) ?_)
    intro w18 hB18 ho18 hs18
    refine WL.nil ?_
    refine W.region ?_
    refine WL.c rfl (o_mvh h0 ?_)
    refine WL.c rfl (n_shr (b := 7) 18446744073709551616 rfl (by decide) rfl rfl (by omega) ?_)
    refine WL.c rfl (o_as ?_)
    refine WL.nil ?_
    refine W.region ?_
    refine WL.c rfl (o_addi h10 rfl (by omega) ?_)
    refine WL.c rfl (o_mv ?_)
    refine WL.nil ?_
    refine ⟨⟨i + 1, by omega, ?_, h3, h9, rfl, ?_, hx.trans' ho18 (fun _ h => h) (fun k hk he => by omega)⟩, ?_⟩
    · exact congrArg (fun x : Nat => Value.int .u64 (x : Int)) (dig_div n i)
    · rw [hB18, List.setIfInBounds_toArray, show 0 + i * 1 = i by omega, filled_set (by omega)]
      rw [hi, bv_ofNat (by unfold dig; omega)]
      exact congrArg (fun x : Nat => Value.int .u8 (x : Int)) (by rw [or128 _ (Nat.mod_lt _ (by decide))]; unfold dig; omega)
    · show vsize n - ((i : Int) + 1).toNat < _
      rw [h10]; simp [intOf]; omega
  · try simp only [decide_eq_true_eq, decide_eq_false_iff_not, Bool.not_eq_true', Bool.not_eq_false', Bool.and_eq_true, Bool.or_eq_true, Bool.and_eq_false_iff, Bool.or_eq_false_iff] at c11
    refine W.exit ?_
    refine W.seq ?_
    have : i = vsize n := by omega
    subst this
    refine W.region ?_
    refine WL.c rfl (o_mvh h3 ?_)
    refine WL.c rfl (o_mvh h3 ?_)
    refine WL.c rfl (o_len TI32 rfl ?_)
    refine WL.c rfl (o_subi rfl rfl (by omega) ?_)
    refine WL.c rfl (o_ixB (i := vsize n - 1) TI32 TI5 rfl (by show Value.int _ ((vsize n : Int) - 1) = _; congr 1; omega) (by omega) ?_)
    have hl27 : w.cell? ⟨w'.heap.size, 0 + (vsize n - 1) * 1, none⟩ = some (.int .u8 ((dig n (vsize n - 1) + 128 : Nat) : Int)) := by
      rw [cell_of_row w _ _ _ _ _ hb]
      simp only [Nat.zero_add, Nat.mul_one, List.getElem?_toArray]
      rw [filled, List.getElem?_append_left (by simp; omega)]
      simp [show vsize n - 1 < vsize n by omega, hi, bv, dig]; omega
    refine WL.c rfl (o_ld TI5 rfl rfl hl27 ?_)
    refine WL.c rfl (n_and (b := 127) 256 rfl (by decide) rfl rfl (by unfold dig; omega) (by decide) ?_)
    refine WL.c rfl (o_ixB (i := vsize n - 1) TI32 TI5 rfl (by show Value.int _ ((vsize n : Int) - 1) = _; congr 1; omega) (by omega) ?_)
    refine WL.u (o_stB TI5 rfl (show _ = Value.int _ _ from rfl) rfl hb (by simp [filled_len hi1]; omega) ?_)
    intro w29 hB29 ho29 hs29
    refine WL.nil ?_
    refine W.seq ?_
    refine W.region ?_
    refine WL.c rfl (o_mvh h3 ?_)
    refine WL.c rfl (o_as ?_)
    refine WL.nil ?_
    refine W.ret ?_
    refine ret1v rfl rfl ?_
    refine ⟨w'.heap.size, rfl, Nat.le_refl _, ?_, hx.trans' ho29 (fun _ h => h) (fun k hk he => by omega)⟩
    rw [hB29, List.setIfInBounds_toArray]
    rw [show 0 + (vsize n - 1) * 1 = vsize n - 1 by omega, filled_last (by omega) rfl]
    rw [bv_ofNat (by unfold dig; omega)]
    exact congrArg (fun x : Nat => Value.int .u8 (x : Int)) (by rw [and127 _ (by unfold dig; omega)]; unfold dig; omega)
theorem num_spec (k : Int) (w : World) : Ca Try.prog 16 #[.int .i64 k] w (fun v w' => v = .int .i64 k ∧ w' = w) := by
  refine Ca.of Try.func16 Try.ntmps16 rfl rfl ?_
  refine W.seq ?_
  refine W.region ?_
  refine WL.c rfl (o_as ?_)
  refine WL.nil ?_
  refine W.seq ?_
  refine W.region ?_
  refine WL.c rfl (o_mv ?_)
  refine WL.c rfl (o_as ?_)
  refine WL.nil ?_
  refine W.ret ?_
  refine ret1v rfl (show _ = Value.int _ _ from rfl) ?_
  exact ⟨rfl, rfl⟩
theorem same_spec (a b : Value) (xs ys : List UInt8) (w : World) (ha : By w a xs) (hb : By w b ys) : Ca Try.prog 17 #[a, b] w (fun v w' => v = .bool (decide (xs = ys)) ∧ w' = w) := by
  refine Ca.of Try.func17 Try.ntmps17 rfl rfl ?_
  refine W.seq ?_
  refine W.region ?_
  refine WL.c rfl (o_as ?_)
  refine WL.nil ?_
  refine W.seq ?_
  refine W.region ?_
  refine WL.c rfl (o_mv ?_)
  refine WL.c rfl (o_cvBS TI32 TI5 TI9 rfl ha ?_)
  refine WL.c rfl (o_mv ?_)
  refine WL.c rfl (o_cvBS TI32 TI5 TI9 rfl hb ?_)
  refine WL.c rfl (o_eqT rfl rfl ?_)
  refine WL.c rfl (o_as ?_)
  refine WL.nil ?_
  refine W.ret ?_
  refine ret1v rfl (show _ = Value.bool _ from rfl) ?_
  exact ⟨rfl, rfl⟩

/-- the cells of the program's reader -/
def rcells (bs : List UInt8) (over : Bool) : List Value := bs.map bv ++ List.replicate (10 - bs.length) (.int .u8 0) ++ [.int .i64 (bs.length : Int), .bool over]
theorem rc_len {bs : List UInt8} {over : Bool} (h : bs.length ≤ 10) : (rcells bs over).length = 12 := by simp [rcells]; omega
theorem rc_n {bs : List UInt8} {over : Bool} (h : bs.length ≤ 10) : (rcells bs over)[10]? = some (.int .i64 (bs.length : Int)) := by
  rw [rcells, List.getElem?_append_right (by simp; omega)]
  simp only [List.length_append, List.length_map, List.length_replicate]
  rw [show 10 - (bs.length + (10 - bs.length)) = 0 by omega]; rfl
theorem rc_o {bs : List UInt8} {over : Bool} (h : bs.length ≤ 10) : (rcells bs over)[11]? = some (.bool over) := by
  rw [rcells, List.getElem?_append_right (by simp; omega)]
  simp only [List.length_append, List.length_map, List.length_replicate]
  rw [show 11 - (bs.length + (10 - bs.length)) = 1 by omega]; rfl
theorem rc_b {bs : List UInt8} {over : Bool} {k : Nat} (h : k < bs.length) : (rcells bs over)[k]? = some (bv bs[k]) := by
  rw [rcells, List.append_assoc, List.getElem?_append_left (by simpa using h)]; simp [h]
theorem rc_ext {bs : List UInt8} {over : Bool} {l : List Value} (hb : bs.length ≤ 10) (hl : l.length = 12) (h1 : ∀ k (h : k < bs.length), l[k]? = some (bv bs[k])) (h2 : ∀ k, bs.length ≤ k → k < 10 → l[k]? = some (.int .u8 0))
    (h3 : l[10]? = some (.int .i64 (bs.length : Int))) (h4 : l[11]? = some (.bool over)) : l = rcells bs over := by
  apply List.ext_getElem?
  intro j
  by_cases j1 : j < bs.length
  · rw [h1 j j1, rc_b j1]
  · by_cases j2 : j < 10
    · rw [h2 j (by omega) j2, rcells, List.append_assoc, List.getElem?_append_right (by simp; omega), List.getElem?_append_left (by simp; omega), List.getElem?_replicate, if_pos (by simp; omega)]
    · by_cases j3 : j = 10
      · subst j3; rw [h3, rc_n hb]
      · by_cases j4 : j = 11
        · subst j4; rw [h4, rc_o hb]
        · rw [List.getElem?_eq_none (by omega), List.getElem?_eq_none (by rw [rc_len hb]; omega)]
theorem rc_z {bs : List UInt8} {over : Bool} {k : Nat} (h1 : bs.length ≤ k) (h2 : k < 10) : (rcells bs over)[k]? = some (.int .u8 0) := by
  rw [rcells, List.append_assoc, List.getElem?_append_right (by simp; omega), List.getElem?_append_left (by simp; omega), List.getElem?_replicate, if_pos (by simp; omega)]
theorem rc_over {bs : List UInt8} {o o' : Bool} (hb : bs.length ≤ 10) : (rcells bs o).set 11 (.bool o') = rcells bs o' := by
  refine rc_ext hb (by simp [rc_len hb]) (fun k h => ?_) (fun k h h' => ?_) ?_ ?_ <;> rw [List.getElem?_set]
  · rw [if_neg (by omega), rc_b h]
  · rw [if_neg (by omega), rc_z h h']
  · rw [if_neg (by omega), rc_n hb]
  · rw [if_pos rfl, if_pos (by rw [rc_len hb]; omega)]
theorem rc_step {bs : List UInt8} {c : UInt8} {o o' : Bool} (hb : bs.length < 10) : (((rcells bs o).set bs.length (bv c)).set 10 (.int .i64 ((bs.length : Int) + 1))).set 11 (.bool o') = rcells (bs ++ [c]) o' := by
  have hl : (rcells bs o).length = 12 := rc_len (by omega)
  refine rc_ext (by simp; omega) (by simp [hl]) (fun k h => ?_) (fun k h h' => ?_) ?_ ?_ <;> rw [List.getElem?_set]
  · simp only [List.length_append, List.length_singleton] at h
    rw [if_neg (by omega), List.getElem?_set, if_neg (by omega), List.getElem?_set]
    by_cases hk : bs.length = k
    · subst hk; rw [if_pos rfl, if_pos (by omega)]; simp
    · rw [if_neg hk, rc_b (by omega)]; simp [List.getElem_append_left (show k < bs.length by omega)]
  · simp only [List.length_append, List.length_singleton] at h
    rw [if_neg (by omega), List.getElem?_set, if_neg (by omega), List.getElem?_set, if_neg (by omega), rc_z (by omega) h']
  · rw [if_neg (by omega), List.getElem?_set, if_pos rfl, if_pos (by simp [hl])]; simp
  · rw [if_pos rfl, if_pos (by simp [hl])]
/-- a reader: what it has taken, and whether it is over; all that it took is of a number's form -/
structure RdOk (bs : List UInt8) (over : Bool) : Prop where
  fine : ∀ i (h : i < bs.length), vfault bs[i] i = false
  len : bs.length ≤ 10
  more : over = false → bs.length ≤ 9
def RdP (w : World) (p : Nat) (bs : List UInt8) (over : Bool) : Prop := w.heap[p]? = some (.cells (rcells bs over).toArray 57 (0, 0))
def rnext (bs : List UInt8) (over : Bool) (c : UInt8) : List UInt8 := if over || vfault c bs.length then bs else bs ++ [c]
def rover (bs : List UInt8) (over : Bool) (c : UInt8) : Bool := over || vfault c bs.length || decide (c.toNat < 128)
def rdone (bs : List UInt8) (over : Bool) (c : UInt8) : Bool := !over && !vfault c bs.length && decide (c.toNat < 128)
def rerr (bs : List UInt8) (over : Bool) (c : UInt8) : Nat := if over then 30 else if vfault c bs.length then 21 else 0
theorem RdOk.next {bs : List UInt8} {over : Bool} (h : RdOk bs over) (c : UInt8) : RdOk (rnext bs over c) (rover bs over c) := by
  unfold rnext rover
  cases over with
  | true => simpa using h
  | false =>
    cases hf : vfault c bs.length with
    | true => simp; exact ⟨h.fine, h.len, by simp⟩
    | false =>
      have h9 := h.more rfl
      have hv := vfault9 hf
      simp
      refine ⟨fun i hi => ?_, by simp; omega, fun hd => ?_⟩
      · simp only [List.length_append, List.length_singleton] at hi
        by_cases hk : i < bs.length
        · rw [List.getElem_append_left hk]; exact h.fine i hk
        · have : i = bs.length := by omega
          subst this; simpa using hf
      · simp at hd ⊢; omega
def vnum (k m : Nat) : List UInt8 → Nat
  | [] => m
  | c :: cs => vnum (k + 1) (m + c.toNat % 128 * 128 ^ k) cs
def Fresh (w0 w : World) (v : Value) (xs : List UInt8) : Prop := w.ownsRow w0.heap.size 5 1 v xs.length (xs.map bv) ∧ Ext w0 w
theorem rc_sl {w : World} {p : Nat} {bs : List UInt8} {over : Bool} (h : RdP w p bs over) (hl : bs.length ≤ 10) : Sl w 1 (.slice (some ⟨p, 0, none⟩) bs.length 10) bs.length (bs.map bv) := by
  refine Sl.blk h 0 _ (by simp) hl (fun i v hv => ?_)
  simp only [List.getElem?_toArray, Nat.zero_add]
  have hi : i < bs.length := by
    have := (List.getElem?_eq_some_iff.1 hv).1
    simpa using this
  rw [rc_b hi, ← hv]
  simp [hi]
theorem maxLen_eq : maxLen = 9223372036854775807 := rfl

theorem new_spec (w0 : World) : Ca Try.prog 9 #[] w0 (fun v w' => v = .pointer (some ⟨w0.heap.size, 0, none⟩) ∧ RdP w' w0.heap.size [] false ∧ Ext w0 w') := by
  refine Ca.of Try.func9 Try.ntmps9 rfl rfl ?_
  refine W.seq ?_
  refine W.region ?_
  refine WL.c rfl (o_as ?_)
  refine WL.nil ?_
  refine W.seq ?_
  refine W.region ?_
  refine WL.c rfl (o_bld TI57 (Sizes.cons TI55 (Sizes.cons TI3 (Sizes.cons TI4 Sizes.nil))) rfl rfl ?_)
  refine WL.c rfl (o_box ?_)
  refine WL.c rfl (o_as ?_)
  refine WL.nil ?_
  refine W.ret ?_
  refine ret1v rfl (show _ = Value.pointer _ from rfl) ?_
  exact ⟨rfl, by unfold RdP; rw [heap_alloc_new]; rfl, Only.alloc _ _⟩
theorem clone_spec (b o n c : Nat) (xs : List UInt8) (w0 : World) (hS : Sl w0 1 (.slice (some ⟨b, o, none⟩) n c) n (xs.map bv)) (hn : n ≤ 140737488355328) : Ca Try.prog 32 #[.slice (some ⟨b, o, none⟩) n c] w0 (fun v w' => Fresh w0 w' v xs) := by
  have hlen : xs.length = n := by have := hS.len; simpa using this
  refine Ca.of Try.func32 Try.ntmps32 rfl rfl ?_
  refine W.seq ?_
  refine W.region ?_
  refine WL.c rfl (o_as ?_)
  refine WL.nil ?_
  refine W.seq ?_
  refine W.seq ?_
  refine W.region ?_
  refine WL.c rfl (o_mv ?_)
  refine WL.c rfl (o_eqSN TI32 rfl rfl ?_)
  refine WL.nil ?_
  refine W.condF' rfl (rfl) ?_
  refine W.skip ?_
  refine W.seq ?_
  refine W.region ?_
  refine WL.c rfl (o_bs0 TI32 TI5 ?_)
  refine WL.c rfl (o_mv ?_)
  refine WL.c rfl (o_ap (base := w0.heap.size) TI32 TI5 (show _ = Value.slice _ _ _ from rfl) rfl (by exact World.ownsRow_lit (size := 1) w0 #[] 0 (Nat.le_refl _) (by decide) rfl) (hS.ext (Only.alloc w0 _)) rfl (by decide) one_bv (by rw [maxLen_eq]; omega) (by omega) (by simp) ?_)
  intro v7 w7 hown7 hg7
  refine WL.c rfl (o_as ?_)
  refine WL.nil ?_
  refine W.ret ?_
  refine ret1v rfl (show _ = v7 from rfl) ?_
  have hg := Only.grown hg7
  refine ⟨by simpa [hlen] using hown7, (Only.alloc w0 _).trans' hg (fun _ h => h) (fun k hk he => ?_)⟩
  simp [Value.ownBlock] at he; omega
theorem byte_spec (p : Nat) (c : UInt8) (bs : List UInt8) (over : Bool) (w0 : World) (hr : RdP w0 p bs over) (ho : RdOk bs over) : Ca Try.prog 21 #[.pointer (some ⟨p, 0, none⟩), bv c] w0 (fun v w' => v = .tuple #[.bool (rdone bs over c), .int .i64 (rerr bs over c : Int)] ∧ RdP w' p (rnext bs over c) (rover bs over c) ∧ Only (fun k => k = p) w0 w') := by
  have hl := ho.len
  have hsz : (rcells bs over).toArray.size = 12 := by simp [rc_len hl]
  unfold RdP at hr
  refine Ca.of Try.func21 Try.ntmps21 rfl rfl ?_
  refine W.seq ?_
  refine W.region ?_
  refine WL.c rfl (o_as ?_)
  refine WL.c rfl (o_as ?_)
  refine WL.nil ?_
  refine W.seq ?_
  refine W.seq ?_
  refine W.region ?_
  refine WL.c rfl (o_mv ?_)
  refine WL.c rfl (o_nil rfl ?_)
  refine WL.c rfl (o_fa 11 TI57 rfl TI4 rfl rfl ?_)
  refine WL.c rfl (o_ld TI4 rfl rfl (cell_of hr (by simpa using rc_o hl)) ?_)
  refine WL.nil ?_
  refine W.cond rfl (fun c9 => ?_) (fun c9 => ?_)
  · try simp only [decide_eq_true_eq, decide_eq_false_iff_not, Bool.not_eq_true', Bool.not_eq_false', Bool.and_eq_true, Bool.or_eq_true, Bool.and_eq_false_iff, Bool.or_eq_false_iff] at c9
    refine W.seq ?_
    refine W.region ?_
    refine WL.c rfl (o_as ?_)
    refine WL.c rfl (o_as ?_)
    refine WL.nil ?_
    refine W.ret ?_
    refine ret2v rfl (show _ = Value.bool _ from rfl) (show _ = Value.int _ _ from rfl) ?_
    subst c9
    exact ⟨rfl, by simpa [RdP, rnext, rover] using hr, Only.refl _ _⟩
  · try simp only [decide_eq_true_eq, decide_eq_false_iff_not, Bool.not_eq_true', Bool.not_eq_false', Bool.and_eq_true, Bool.or_eq_true, Bool.and_eq_false_iff, Bool.or_eq_false_iff] at c9
    subst c9
    have h9 := ho.more rfl
    refine W.skip ?_
    refine W.seq ?_
    refine W.seq ?_
    refine W.region ?_
    refine WL.c rfl (o_mv ?_)
    refine WL.c rfl (o_mv ?_)
    refine WL.c rfl (o_nil rfl ?_)
    refine WL.c rfl (o_fa 10 TI57 rfl TI3 rfl rfl ?_)
    refine WL.c rfl (o_ld TI3 rfl rfl (cell_of hr (by simpa using rc_n hl)) ?_)
    refine WL.c rfl (o_call Try.call31 (lc rfl (lc rfl ln)) ((fault_spec c bs.length _).mono ?_))
    rintro v w' ⟨rfl, rfl⟩
    refine WL.nil ?_
    refine W.cond rfl (fun c15 => ?_) (fun c15 => ?_)
    · try simp only [decide_eq_true_eq, decide_eq_false_iff_not, Bool.not_eq_true', Bool.not_eq_false', Bool.and_eq_true, Bool.or_eq_true, Bool.and_eq_false_iff, Bool.or_eq_false_iff] at c15
      refine W.seq ?_
      refine W.region ?_
      refine WL.c rfl (o_mv ?_)
      refine WL.c rfl (o_nil rfl ?_)
      refine WL.c rfl (o_fa 11 TI57 rfl TI4 rfl rfl ?_)
      refine WL.u (o_stB TI4 rfl (show _ = Value.bool _ from rfl) rfl hr (by rw [hsz]; decide) ?_)
      intro w18 hB18 ho18 hs18
      refine WL.nil ?_
      refine W.seq ?_
      refine W.region ?_
      refine WL.c rfl (o_as ?_)
      refine WL.c rfl (o_as ?_)
      refine WL.nil ?_
      refine W.ret ?_
      refine ret2v rfl (show _ = Value.bool _ from rfl) (show _ = Value.int _ _ from rfl) ?_
      refine ⟨by simp [rdone, rerr, c15], ?_, ho18⟩
      unfold RdP
      rw [hB18, List.setIfInBounds_toArray, show 0 + 11 = 11 from rfl, rc_over hl]
      simp [rnext, rover, c15]
    · try simp only [decide_eq_true_eq, decide_eq_false_iff_not, Bool.not_eq_true', Bool.not_eq_false', Bool.and_eq_true, Bool.or_eq_true, Bool.and_eq_false_iff, Bool.or_eq_false_iff] at c15
      refine W.skip ?_
      refine W.seq ?_
      refine W.tail 9 rfl (by kernel_rfl) ?_
      refine WS.c rfl ((SO.o rfl (o_mv ⟨rfl, rfl⟩))) ?_
      refine WS.c rfl ((SO.o rfl (o_mv ⟨rfl, rfl⟩))) ?_
      refine WS.c rfl ((SO.r (r_nil rfl))) ?_
      refine WS.c rfl ((SO.o rfl (o_fa 10 TI57 rfl TI3 rfl rfl ⟨rfl, rfl⟩))) ?_
      refine WS.c rfl ((SO.o rfl (o_ld TI3 rfl rfl (cell_of hr (by simpa using rc_n hl)) ⟨rfl, rfl⟩))) ?_
      refine WS.c rfl ((SO.o rfl (o_mv ⟨rfl, rfl⟩))) ?_
      refine WS.c rfl ((SO.r (r_nil rfl))) ?_
      refine WS.c rfl ((SO.o rfl (o_fa 0 TI57 rfl TI55 rfl rfl ⟨rfl, rfl⟩))) ?_
      refine WS.c rfl ((SO.o rfl (o_ixA TI55 TI5 rfl rfl (by omega) ⟨rfl, rfl⟩))) ?_
      refine WS.nil ?_
      refine WL.u (o_stB TI5 rfl (show _ = Value.int _ _ from rfl) rfl (show w'.drew.heap[p]? = _ from hr) (by rw [hsz]; omega) ?_)
      intro w27 hB27 ho27 hs27
      rw [List.setIfInBounds_toArray] at hB27
      refine WL.nil ?_
      refine W.seq ?_
      refine W.region ?_
      refine WL.c rfl (o_mv ?_)
      refine WL.c rfl (o_nil rfl ?_)
      refine WL.c rfl (o_fa 10 TI57 rfl TI3 rfl rfl ?_)
      refine WL.c rfl (o_ld TI3 rfl rfl (cell_of hB27 (by simp only [List.getElem?_toArray]; rw [List.getElem?_set, if_neg (by omega)]; exact rc_n hl)) ?_)
      refine WL.c rfl (o_addi rfl rfl (by omega) ?_)
      refine WL.c rfl (o_nil rfl ?_)
      refine WL.c rfl (o_fa 10 TI57 rfl TI3 rfl rfl ?_)
      refine WL.u (o_stB TI3 rfl (show _ = Value.int _ _ from rfl) rfl hB27 (by simp [rc_len hl]) ?_)
      intro w34 hB34 ho34 hs34
      rw [List.setIfInBounds_toArray] at hB34
      refine WL.nil ?_
      refine W.seq ?_
      refine W.region ?_
      refine WL.c rfl (o_mv ?_)
      refine WL.c rfl (o_mv ?_)
      refine WL.c rfl (o_lt rfl rfl ?_)
      refine WL.c rfl (o_nil rfl ?_)
      refine WL.c rfl (o_fa 11 TI57 rfl TI4 rfl rfl ?_)
      refine WL.u (o_stB TI4 rfl (show _ = Value.bool _ from rfl) rfl hB34 (by simp [rc_len hl]) ?_)
      intro w39 hB39 ho39 hs39
      rw [List.setIfInBounds_toArray] at hB39
      refine WL.nil ?_
      refine W.seq ?_
      refine W.region ?_
      refine WL.c rfl (o_mv ?_)
      refine WL.c rfl (o_nil rfl ?_)
      refine WL.c rfl (o_fa 11 TI57 rfl TI4 rfl rfl ?_)
      refine WL.c rfl (o_ld TI4 rfl rfl (cell_of hB39 (by simp only [List.getElem?_toArray]; rw [List.getElem?_set, if_pos rfl, if_pos (by simp [rc_len hl])])) ?_)
      refine WL.c rfl (o_as ?_)
      refine WL.c rfl (o_as ?_)
      refine WL.nil ?_
      refine W.ret ?_
      refine ret2v rfl (show _ = Value.bool _ from rfl) (show _ = Value.int _ _ from rfl) ?_
      have hd : decide ((c.toNat : Int) < 128) = decide (c.toNat < 128) := decide_eq_decide.2 (by omega)
      refine ⟨by simp [rdone, rerr, c15, hd], ?_, (((Only.drew w').trans' ho27 (fun _ h => h.elim) (fun _ _ h => h)).trans ho34).trans ho39⟩
      unfold RdP
      rw [hB39]
      have := rc_step (c := c) (o := false) (o' := decide (c.toNat < 128)) (bs := bs) (by omega)
      simp only [Nat.zero_add, Nat.mul_one, Nat.add_zero, hd]
      unfold bv at this
      rw [this]
      simp [rnext, rover, c15]
theorem n_spec (p : Nat) (bs : List UInt8) (over : Bool) (w0 : World) (hr : RdP w0 p bs over) (ho : RdOk bs over) : Ca Try.prog 20 #[.pointer (some ⟨p, 0, none⟩)] w0 (fun v w' => v = .int .u64 (vnum 0 0 bs : Int) ∧ ∃ m, w' = w0.drewN m) := by
  have hl := ho.len
  unfold RdP at hr
  refine Ca.of Try.func20 Try.ntmps20 rfl rfl ?_
  refine W.seq ?_
  refine W.region ?_
  refine WL.c rfl (o_as ?_)
  refine WL.nil ?_
  refine W.seq ?_
  refine W.region ?_
  refine WL.c rfl (o_as ?_)
  refine WL.nil ?_
  refine W.seq ?_
  refine W.seq ?_
  refine W.quiet rfl (by kernel_rfl) ?_
  refine WQ.c rfl ((QO.o rfl fun _ => o_mv ⟨rfl, rfl⟩)) ?_
  refine WQ.c rfl ((QO.r fun _ => r_nil rfl)) ?_
  refine WQ.c rfl ((QO.o rfl fun _ => o_fa 0 TI57 rfl TI55 rfl rfl ⟨rfl, rfl⟩)) ?_
  refine WQ.c rfl ((QO.o rfl fun _ => o_mv ⟨rfl, rfl⟩)) ?_
  refine WQ.c rfl ((QO.r fun _ => r_nil rfl)) ?_
  refine WQ.c rfl ((QO.o rfl fun _ => o_fa 10 TI57 rfl TI3 rfl rfl ⟨rfl, rfl⟩)) ?_
  refine WQ.c rfl ((QO.o rfl fun _ => o_ld TI3 rfl rfl (cell_of hr (by simpa using rc_n hl)) ⟨rfl, rfl⟩)) ?_
  refine WQ.c rfl ((QO.o rfl fun _ => o_sa TI55 TI5 rfl Lo.n (Hi.s rfl) (by omega) (by omega) ⟨rfl, rfl⟩)) ?_
  refine WQ.c rfl ((QO.r fun _ => r_len TI32 rfl)) ?_
  refine WQ.c rfl ((QO.o rfl fun _ => o_mv ⟨rfl, rfl⟩)) ?_
  refine WQ.nil ?_
  intro nq
  have hr : (w0.drewN nq).heap[p]? = _ := hr
  generalize hw1 : w0.drewN nq = w1 at hr
  refine W.block ?_
  refine W.loop (fun e w => ∃ k m : Nat, e 3 = .int .u64 (m : Int) ∧ e 13 = .slice (some ⟨p, 0, none⟩) bs.length 10 ∧ e 14 = .int .i64 (bs.length : Int) ∧ e 15 = .int .i64 (k : Int) ∧ k ≤ bs.length ∧ (m < 128 ^ k ∨ k = 10) ∧ vnum 0 0 bs = vnum k m (bs.drop k) ∧ m < 2 ^ 64 ∧ w = w1) (fun e w => bs.length - (intOf (e 15)).toNat) ?_ ?_
  · exact ⟨0, 0, rfl, rfl, rfl, rfl, Nat.zero_le _, by left; decide, rfl, by decide, rfl⟩
  rintro e w ⟨k, m, h3, h13, h14, h15, hk, hm, hg, hm64, rfl⟩
  refine W.seq ?_
  refine W.region ?_
  refine WL.c rfl (o_lt h15 h14 ?_)
  refine WL.nil ?_
  refine W.seq ?_
  refine W.cond rfl (fun c16 => ?_) (fun c16 => ?_)
  · try simp only [decide_eq_true_eq, decide_eq_false_iff_not, Bool.not_eq_true', Bool.not_eq_false', Bool.and_eq_true, Bool.or_eq_true, Bool.and_eq_false_iff, Bool.or_eq_false_iff] at c16
    refine W.skip ?_
    refine W.seq ?_
    refine W.block ?_
    refine W.seq ?_
    have hk1 : k < bs.length := by omega
    have hm : m < 128 ^ k := by rcases hm with h | h <;> omega
    have hc8 : (bs[k]).toNat < 256 := UInt8.toNat_lt _
    have hgr := grp (c := (bs[k]).toNat) (by omega) hm hc8 (vfault9 (ho.fine k hk1)).1
    refine W.region ?_
    refine WL.c rfl (o_mvh h15 ?_)
    refine WL.c rfl (o_ixB TI32 TI5 h13 h15 (by omega) ?_)
    refine WL.c rfl (o_ld TI5 rfl rfl (cell_of hr (by simp only [List.getElem?_toArray, Nat.zero_add, Nat.mul_one]; exact rc_b hk1)) ?_)
    refine WL.c rfl (o_as ?_)
    refine WL.c rfl (o_as ?_)
    refine WL.nil ?_
    refine W.region ?_
    refine WL.c rfl (o_mvh h3 ?_)
    refine WL.c rfl (o_mv ?_)
    refine WL.c rfl (n_and (b := 127) 256 rfl (by decide) rfl rfl (by omega) (by decide) ?_)
    refine WL.c rfl (n_cvI 18446744073709551616 rfl TI5 TI31 (by decide) rfl ?_)
    refine WL.c rfl (o_mv ?_)
    refine WL.c rfl (o_muli rfl rfl (by omega) ?_)
    refine WL.c rfl (n_shl (b := 7 * k) 18446744073709551616 rfl (by decide) rfl (by show Value.int _ (7 * (k : Int)) = _; congr 1) ?_)
    refine WL.c rfl (n_or 18446744073709551616 rfl (by decide) rfl rfl (by omega) (Nat.mod_lt _ (by decide)) ?_)
    refine WL.c rfl (o_as ?_)
    refine WL.nil ?_
    refine W.region ?_
    refine WL.c rfl (o_addi h15 rfl (by omega) ?_)
    refine WL.c rfl (o_mv ?_)
    refine WL.nil ?_
    have hcons : bs.drop k = bs[k] :: bs.drop (k + 1) := by rw [List.getElem_cons_drop]
    rw [hcons, vnum] at hg
    refine ⟨⟨k + 1, _, congrArg (fun n : Nat => Value.int .u64 (n : Int)) hgr.1, h13, h14, rfl, by omega, ?_, hg, hgr.2.1, rfl⟩, ?_⟩
    · by_cases hk9 : k = 9
      · right; omega
      · left; exact hgr.2.2 (by omega)
    · show bs.length - ((k : Int) + 1).toNat < _
      rw [h15]; simp [intOf]; omega
  · try simp only [decide_eq_true_eq, decide_eq_false_iff_not, Bool.not_eq_true', Bool.not_eq_false', Bool.and_eq_true, Bool.or_eq_true, Bool.and_eq_false_iff, Bool.or_eq_false_iff] at c16
    refine W.exit ?_
    refine W.seq ?_
    refine W.region ?_
    refine WL.c rfl (o_mvh h3 ?_)
    refine WL.c rfl (o_as ?_)
    refine WL.nil ?_
    refine W.ret ?_
    refine ret1v rfl (show _ = Value.int _ _ from rfl) ?_
    have : k = bs.length := by omega
    rw [this, List.drop_length] at hg
    exact ⟨by rw [hg]; rfl, nq, hw1.symm⟩
theorem read_spec (p : Nat) (bs : List UInt8) (over : Bool) (w0 : World) (hr : RdP w0 p bs over) (ho : RdOk bs over) : Ca Try.prog 19 #[.pointer (some ⟨p, 0, none⟩)] w0 (fun v w' => Fresh w0 w' v bs) := by
  have hl := ho.len
  unfold RdP at hr
  refine Ca.of Try.func19 Try.ntmps19 rfl rfl ?_
  refine W.seq ?_
  refine W.region ?_
  refine WL.c rfl (o_as ?_)
  refine WL.nil ?_
  refine W.seq ?_
  refine W.tail 8 rfl (by kernel_rfl) ?_
  refine WS.c rfl ((SO.o rfl (o_mv ⟨rfl, rfl⟩))) ?_
  refine WS.c rfl ((SO.r (r_nil rfl))) ?_
  refine WS.c rfl ((SO.o rfl (o_fa 0 TI57 rfl TI55 rfl rfl ⟨rfl, rfl⟩))) ?_
  refine WS.c rfl ((SO.o rfl (o_mv ⟨rfl, rfl⟩))) ?_
  refine WS.c rfl ((SO.r (r_nil rfl))) ?_
  refine WS.c rfl ((SO.o rfl (o_fa 10 TI57 rfl TI3 rfl rfl ⟨rfl, rfl⟩))) ?_
  refine WS.c rfl ((SO.o rfl (o_ld TI3 rfl rfl (cell_of (show w0.drew.heap[p]? = _ from hr) (by simpa using rc_n hl)) ⟨rfl, rfl⟩))) ?_
  refine WS.c rfl ((SO.o rfl (o_sa TI55 TI5 rfl Lo.n (Hi.s rfl) (by omega) (by omega) ⟨rfl, rfl⟩))) ?_
  refine WS.nil ?_
  refine WL.c rfl (o_call Try.call32 (lc rfl ln) ((clone_spec p 0 bs.length 10 bs _ (rc_sl (show RdP w0.drew p bs over from hr) hl) (by omega)).mono ?_))
  rintro v w' ⟨h1, h2⟩
  refine WL.c rfl (o_as ?_)
  refine WL.nil ?_
  refine W.ret ?_
  refine ret1v rfl (show _ = v from rfl) ?_
  exact ⟨h1, (Only.drew w0).ext h2⟩
end Go.Proofs.Ytieldjpbempkcaa
