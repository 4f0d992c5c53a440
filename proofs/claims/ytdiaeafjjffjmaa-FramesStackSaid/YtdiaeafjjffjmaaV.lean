/-
  Walks. Written by program out of specs of mine.
-/
import Derived.Test.YtdiaeafjjffjmaaBook
import Derived.Test.YtdiaeafjjffjmaaFacts
set_option linter.unusedSimpArgs false
set_option linter.unusedVariables false
set_option maxRecDepth 100000
namespace Go.Proofs.Ytdiaeafjjffjmaa
open Go Go.Vc Go.RowKit Go.Proofs

/-! ### the document's numbers, plainly -/
def vsize (n : Nat) : Nat := if h : n < 128 then 1 else vsize (n / 128) + 1
theorem vsize_lt {n : Nat} (h : n < 128) : vsize n = 1 := by rw [vsize, dif_pos h]
theorem vsize_ge {n : Nat} (h : ¬ n < 128) : vsize n = vsize (n / 128) + 1 := by rw [vsize, dif_neg h]
theorem vsize_pos (n : Nat) : 1 ≤ vsize n := by by_cases h : n < 128
                                                · rw [vsize_lt h]; omega
                                                · rw [vsize_ge h]; omega
theorem vsize_pow : ∀ (k n : Nat), n < 128 ^ (k + 1) → vsize n ≤ k + 1 := by
  intro k
  induction k with
  | zero => intro n h; rw [vsize_lt (by simpa using h)]; omega
  | succ k ih =>
    intro n h
    by_cases hn : n < 128
    · rw [vsize_lt hn]; omega
    · rw [vsize_ge hn]
      have := ih (n / 128) (Nat.div_lt_of_lt_mul (by rw [Nat.pow_succ] at h; omega))
      omega
theorem vsize_10 {n : Nat} (h : n < 2 ^ 64) : vsize n ≤ 10 := vsize_pow 9 n (Nat.lt_of_lt_of_le h (by decide))
/-- byte number j of n -/
def dig (n j : Nat) : Nat := n / 128 ^ j % 128
def vbyte (n s j : Nat) : UInt8 := UInt8.ofNat (if j + 1 < s then dig n j + 128 else dig n j)
def vput (n : Nat) : List UInt8 := (List.range (vsize n)).map (vbyte n (vsize n))
theorem vput_len (n : Nat) : (vput n).length = vsize n := by simp [vput]
theorem or128 : ∀ a : Nat, a < 256 → a ||| 128 = a % 128 + 128 := by decide +kernel
theorem and127 : ∀ a : Nat, a < 256 → a &&& 127 = a % 128 := by decide +kernel
def vfault (c : UInt8) (k : Nat) : Bool := (decide (0 < k) && decide (c.toNat = 0)) || (decide (k = 9) && decide (1 < c.toNat))
def vget (k n : Nat) : List UInt8 → Nat × Nat × Nat
  | [] => (0, k, 20)
  | c :: cs => if vfault c k then (0, k, 21) else if c.toNat < 128 then (n + c.toNat % 128 * 128 ^ k, k + 1, 0) else vget (k + 1) (n + c.toNat % 128 * 128 ^ k) cs
abbrev By (w : World) (v : Value) (xs : List UInt8) : Prop := Sl w 1 v xs.length (xs.map bv)
theorem pow_lt9 {k : Nat} (hk : k ≤ 9) : 128 ^ k ≤ 2 ^ 63 := Nat.le_trans (Nat.pow_le_pow_right (by decide) hk) (by decide)
/-- one group more -/
theorem grp {k m c : Nat} (hk : k ≤ 9) (hm : m < 128 ^ k) (hc : c < 256) (h9 : k = 9 → c ≤ 1) :
    (m ||| ((c &&& 127) % 2 ^ 64 * 2 ^ (7 * k)) % 2 ^ 64) = m + c % 128 * 128 ^ k ∧ m + c % 128 * 128 ^ k < 2 ^ 64 ∧ (k < 9 → m + c % 128 * 128 ^ k < 128 ^ (k + 1)) := by
  have e : (2 : Nat) ^ (7 * k) = 128 ^ k := by rw [Nat.pow_mul]
  have h1 : c % 128 < 128 := Nat.mod_lt _ (by decide)
  have hp := pow_lt9 hk
  have lt2 : k < 9 → m + c % 128 * 128 ^ k < 128 ^ (k + 1) := by
    intro _
    have : c % 128 * 128 ^ k ≤ 127 * 128 ^ k := Nat.mul_le_mul_right _ (by omega)
    rw [Nat.pow_succ]; omega
  have lt : m + c % 128 * 128 ^ k < 2 ^ 64 := by
    by_cases h : k = 9
    · have := h9 h
      have : c % 128 * 128 ^ k ≤ 1 * 128 ^ k := Nat.mul_le_mul_right _ (by omega)
      omega
    · have h3 := lt2 (by omega)
      have : 128 ^ (k + 1) ≤ 128 ^ 9 := Nat.pow_le_pow_right (by decide) (by omega)
      have : (128 : Nat) ^ 9 = 2 ^ 63 := by decide
      omega
  refine ⟨?_, lt, lt2⟩
  rw [and127 c hc, Nat.mod_eq_of_lt (show c % 128 < 2 ^ 64 by omega), e, Nat.mod_eq_of_lt (by omega)]
  have := Nat.two_pow_add_eq_or_of_lt (i := 7 * k) (b := m) (by rw [e]; exact hm) (c % 128)
  rw [e] at this
  rw [Nat.or_comm, Nat.mul_comm, ← this]
  exact Nat.add_comm _ _
theorem getbv {xs : List UInt8} {k : Nat} (h : k < xs.length) : (xs.map bv)[k]? = some (bv xs[k]) := by simp [h]
theorem vfault9 {c : UInt8} {k : Nat} (h : vfault c k = false) : (k = 9 → c.toNat ≤ 1) ∧ (0 < k → c.toNat ≠ 0) := by
  simp only [vfault, Bool.or_eq_false_iff, Bool.and_eq_false_iff, decide_eq_false_iff_not] at h
  omega

theorem size_spec (n : Nat) (hn : n < 2 ^ 64) (w0 : World) : Ca Try.prog 49 #[.int .u64 (n : Int)] w0 (fun v w' => v = .int .i64 (vsize n : Int) ∧ w' = w0) := by
  have hs := vsize_10 hn
  refine Ca.of Try.func49 Try.ntmps49 rfl rfl ?_
  refine W.seq ?_
  refine W.region ?_
  refine WL.c rfl (o_as ?_)
  refine WL.nil ?_
  refine W.seq ?_
  refine W.region ?_
  refine WL.c rfl (o_as ?_)
  refine WL.nil ?_
  refine W.seq ?_
  refine W.block ?_
  refine W.loop (fun e w => ∃ m k : Nat, e 0 = .int .u64 (m : Int) ∧ m < 2 ^ 64 ∧ e 3 = .int .i64 (k : Int) ∧ vsize n + 1 = vsize m + k ∧ w = w0) (fun e w => (intOf (e 0)).toNat) ?_ ?_
  · exact ⟨n, 1, rfl, hn, rfl, rfl, rfl⟩
  rintro e w ⟨m, k, h0, hm, h3, hk, rfl⟩
  refine W.seq ?_
  refine W.seq ?_
  refine W.region ?_
  refine WL.c rfl (o_mvh h0 ?_)
  refine WL.c rfl (o_ge rfl rfl ?_)
  refine WL.nil ?_
  refine W.cond rfl (fun c5 => ?_) (fun c5 => ?_)
  · try simp only [decide_eq_true_eq, decide_eq_false_iff_not, Bool.not_eq_true', Bool.not_eq_false', Bool.and_eq_true, Bool.or_eq_true, Bool.and_eq_false_iff, Bool.or_eq_false_iff] at c5
    refine W.skip ?_
    refine W.block ?_
    refine W.seq ?_
    refine W.region ?_
    refine WL.c rfl (o_mvh h0 ?_)
    refine WL.c rfl (n_shr (b := 7) 18446744073709551616 rfl (by decide) rfl rfl (by omega) ?_)
    refine WL.c rfl (o_as ?_)
    refine WL.nil ?_
    refine W.region ?_
    refine WL.c rfl (o_mvh h3 ?_)
    refine WL.c rfl (o_addi rfl rfl (by omega) ?_)
    refine WL.c rfl (o_as ?_)
    refine WL.nil ?_
    have := vsize_ge (n := m) (by omega)
    refine ⟨⟨m / 128, k + 1, rfl, by omega, rfl, by omega, rfl⟩, ?_⟩
    show ((m / 128 : Nat) : Int).toNat < (intOf (e 0)).toNat
    rw [h0]; simp [intOf]; omega
  · try simp only [decide_eq_true_eq, decide_eq_false_iff_not, Bool.not_eq_true', Bool.not_eq_false', Bool.and_eq_true, Bool.or_eq_true, Bool.and_eq_false_iff, Bool.or_eq_false_iff] at c5
    refine W.exit ?_
    refine W.seq ?_
    refine W.region ?_
    refine WL.c rfl (o_mvh h3 ?_)
    refine WL.c rfl (o_as ?_)
    refine WL.nil ?_
    refine W.ret ?_
    refine ret1v rfl (show _ = Value.int _ _ from rfl) ?_
    have := vsize_lt (n := m) (by omega)
    exact ⟨by congr 1; omega, rfl⟩
theorem fault_spec (c : UInt8) (k : Nat) (w : World) : Ca Try.prog 76 #[bv c, .int .i64 (k : Int)] w (fun v w' => v = .bool (vfault c k) ∧ w' = w) := by
  refine Ca.of Try.func76 Try.ntmps76 rfl rfl ?_
  refine W.seq ?_
  refine W.region ?_
  refine WL.c rfl (o_as ?_)
  refine WL.nil ?_
  refine W.seq ?_
  refine W.region ?_
  refine WL.c rfl (o_mv ?_)
  refine WL.c rfl (o_gt rfl rfl ?_)
  refine WL.c rfl (o_mv ?_)
  refine WL.sp 2 rfl (fun g7 => ?_) (fun g7 => ?_)
  · skip
    refine WL.g rfl (g7) rfl (o_mv ?_)
    refine WL.g rfl (g7) rfl (o_eq rfl rfl ?_)
    refine WL.c rfl (o_pickA rfl rfl ?_)
    refine WL.c rfl (o_mv ?_)
    refine WL.sp 6 rfl (fun g11 => ?_) (fun g11 => ?_)
    · skip
      refine WL.s rfl (g11) rfl ?_
      refine WL.s rfl (g11) rfl ?_
      refine WL.s rfl (g11) rfl ?_
      refine WL.z rfl rfl ?_
      refine WL.z rfl rfl ?_
      refine WL.s rfl (g11) rfl ?_
      refine WL.c rfl (o_pickT rfl (g11) ?_)
      refine WL.c rfl (o_as ?_)
      refine WL.nil ?_
      refine W.ret ?_
      refine ret1v rfl (show _ = Value.bool _ from rfl) ?_
      refine ⟨?_, rfl⟩
      congr 1
      simp only [decide_eq_true_eq, decide_eq_false_iff_not, Bool.and_eq_true, Bool.and_eq_false_iff] at *
      rw [Bool.eq_iff_iff]
      simp only [vfault, Bool.or_eq_true, Bool.and_eq_true, decide_eq_true_eq, true_iff, iff_true, Bool.false_eq_true, iff_false, false_iff, false_or, or_false, and_false, false_and, true_and, and_true, reduceCtorEq]
      omega
    · skip
      refine WL.g rfl (g11) rfl (o_mv ?_)
      refine WL.g rfl (g11) rfl (o_eq rfl rfl ?_)
      refine WL.g rfl (g11) rfl (o_mv ?_)
      refine WL.sp 9 rfl (fun g14 => ?_) (fun g14 => ?_)
      · skip
        refine WL.g rfl (g14) rfl (o_mv ?_)
        refine WL.g rfl (g14) rfl (o_gt rfl rfl ?_)
        refine WL.g rfl (g11) rfl (o_pickA rfl rfl ?_)
        refine WL.c rfl (o_pickO rfl rfl ?_)
        refine WL.c rfl (o_as ?_)
        refine WL.nil ?_
        refine W.ret ?_
        refine ret1v rfl (show _ = Value.bool _ from rfl) ?_
        refine ⟨?_, rfl⟩
        congr 1
        simp only [decide_eq_true_eq, decide_eq_false_iff_not, Bool.and_eq_true, Bool.and_eq_false_iff] at *
        rw [Bool.eq_iff_iff]
        simp only [vfault, Bool.or_eq_true, Bool.and_eq_true, decide_eq_true_eq, true_iff, iff_true, Bool.false_eq_true, iff_false, false_iff, false_or, or_false, and_false, false_and, true_and, and_true, reduceCtorEq]
        omega
      · skip
        refine WL.s rfl (g14) rfl ?_
        refine WL.s rfl (g14) rfl ?_
        refine WL.g rfl (g11) rfl (o_pickF rfl (g14) ?_)
        refine WL.c rfl (o_pickO rfl rfl ?_)
        refine WL.c rfl (o_as ?_)
        refine WL.nil ?_
        refine W.ret ?_
        refine ret1v rfl (show _ = Value.bool _ from rfl) ?_
        refine ⟨?_, rfl⟩
        congr 1
        simp only [decide_eq_true_eq, decide_eq_false_iff_not, Bool.and_eq_true, Bool.and_eq_false_iff] at *
        rw [Bool.eq_iff_iff]
        simp only [vfault, Bool.or_eq_true, Bool.and_eq_true, decide_eq_true_eq, true_iff, iff_true, Bool.false_eq_true, iff_false, false_iff, false_or, or_false, and_false, false_and, true_and, and_true, reduceCtorEq]
        omega
  · skip
    refine WL.s rfl (g7) rfl ?_
    refine WL.s rfl (g7) rfl ?_
    refine WL.c rfl (o_pickF rfl (g7) ?_)
    refine WL.c rfl (o_mv ?_)
    refine WL.g rfl (rfl) rfl (o_mv ?_)
    refine WL.g rfl (rfl) rfl (o_eq rfl rfl ?_)
    refine WL.g rfl (rfl) rfl (o_mv ?_)
    refine WL.sp 9 rfl (fun g14 => ?_) (fun g14 => ?_)
    · skip
      refine WL.g rfl (g14) rfl (o_mv ?_)
      refine WL.g rfl (g14) rfl (o_gt rfl rfl ?_)
      refine WL.g rfl (rfl) rfl (o_pickA rfl rfl ?_)
      refine WL.c rfl (o_pickO rfl rfl ?_)
      refine WL.c rfl (o_as ?_)
      refine WL.nil ?_
      refine W.ret ?_
      refine ret1v rfl (show _ = Value.bool _ from rfl) ?_
      refine ⟨?_, rfl⟩
      congr 1
      simp only [decide_eq_true_eq, decide_eq_false_iff_not, Bool.and_eq_true, Bool.and_eq_false_iff] at *
      rw [Bool.eq_iff_iff]
      simp only [vfault, Bool.or_eq_true, Bool.and_eq_true, decide_eq_true_eq, true_iff, iff_true, Bool.false_eq_true, iff_false, false_iff, false_or, or_false, and_false, false_and, true_and, and_true, reduceCtorEq]
      omega
    · skip
      refine WL.s rfl (g14) rfl ?_
      refine WL.s rfl (g14) rfl ?_
      refine WL.g rfl (rfl) rfl (o_pickF rfl (g14) ?_)
      refine WL.c rfl (o_pickO rfl rfl ?_)
      refine WL.c rfl (o_as ?_)
      refine WL.nil ?_
      refine W.ret ?_
      refine ret1v rfl (show _ = Value.bool _ from rfl) ?_
      refine ⟨?_, rfl⟩
      congr 1
      simp only [decide_eq_true_eq, decide_eq_false_iff_not, Bool.and_eq_true, Bool.and_eq_false_iff] at *
      rw [Bool.eq_iff_iff]
      simp only [vfault, Bool.or_eq_true, Bool.and_eq_true, decide_eq_true_eq, true_iff, iff_true, Bool.false_eq_true, iff_false, false_iff, false_or, or_false, and_false, false_and, true_and, and_true, reduceCtorEq]
      omega
theorem get_spec (xs : List UInt8) (v : Value) (w0 : World) (hB : By w0 v xs) (hlen : xs.length ≤ maxLen) : Ca Try.prog 70 #[v] w0 (fun r w' => r = .tuple #[.int .u64 ((vget 0 0 xs).1 : Int), .int .i64 ((vget 0 0 xs).2.1 : Int), .int .i64 ((vget 0 0 xs).2.2 : Int)] ∧ w' = w0) := by
  unfold maxLen at hlen
  refine Ca.of Try.func70 Try.ntmps70 rfl rfl ?_
  refine W.seq ?_
  refine W.region ?_
  refine WL.c rfl (o_as ?_)
  refine WL.c rfl (o_as ?_)
  refine WL.c rfl (o_as ?_)
  refine WL.nil ?_
  refine W.seq ?_
  refine W.seq ?_
  refine W.region ?_
  refine WL.c rfl (o_mv ?_)
  refine WL.c rfl (o_lenR TI23 rfl hB ?_)
  refine WL.c rfl (o_mv ?_)
  refine WL.nil ?_
  refine W.block ?_
  refine W.loop (fun e w => ∃ k m : Nat, e 2 = .int .u64 (m : Int) ∧ e 7 = v ∧ e 8 = .int .i64 (xs.length : Int) ∧ e 9 = .int .i64 (k : Int) ∧ k ≤ xs.length ∧ k ≤ 9 ∧ m < 128 ^ k ∧ vget 0 0 xs = vget k m (xs.drop k) ∧ e 0 = v ∧ w = w0) (fun e w => xs.length - (intOf (e 9)).toNat) ?_ ?_
  · exact ⟨0, 0, rfl, rfl, rfl, rfl, Nat.zero_le _, by omega, by decide, rfl, rfl, rfl⟩
  rintro e w ⟨k, m, h2, h7, h8, h9, hk, hk9, hm, hg, h0, rfl⟩
  refine W.seq ?_
  refine W.region ?_
  refine WL.c rfl (o_lt h9 h8 ?_)
  refine WL.nil ?_
  refine W.seq ?_
  refine W.cond rfl (fun c10 => ?_) (fun c10 => ?_)
  · try simp only [decide_eq_true_eq, decide_eq_false_iff_not, Bool.not_eq_true', Bool.not_eq_false', Bool.and_eq_true, Bool.or_eq_true, Bool.and_eq_false_iff, Bool.or_eq_false_iff] at c10
    refine W.skip ?_
    refine W.seq ?_
    refine W.block ?_
    refine W.seq ?_
    have hk1 : k < xs.length := by omega
    refine W.region ?_
    refine WL.c rfl (o_mvh h9 ?_)
    refine WL.c rfl (o_ix1 TI23 TI5 h7 h9 hB (by omega) ?_)
    intro b12 o12 hc12 hb12
    refine WL.c rfl (o_ld TI5 rfl rfl (hc12.trans (getbv hk1)) ?_)
    refine WL.c rfl (o_as ?_)
    refine WL.c rfl (o_as ?_)
    refine WL.nil ?_
    refine W.seq ?_
    refine W.seq ?_
    refine W.region ?_
    refine WL.c rfl (o_mv ?_)
    refine WL.c rfl (o_mv ?_)
    refine WL.c rfl (o_call Try.call76 (lc rfl (lc rfl ln)) ((fault_spec xs[k] k _).mono ?_))
    rintro v w' ⟨rfl, rfl⟩
    refine WL.nil ?_
    refine W.cond rfl (fun c16 => ?_) (fun c16 => ?_)
    · try simp only [decide_eq_true_eq, decide_eq_false_iff_not, Bool.not_eq_true', Bool.not_eq_false', Bool.and_eq_true, Bool.or_eq_true, Bool.and_eq_false_iff, Bool.or_eq_false_iff] at c16
      have hf : vfault xs[k] k = true := c16
      refine W.seq ?_
      refine W.region ?_
      refine WL.c rfl (o_mv ?_)
      refine WL.c rfl (o_as ?_)
      refine WL.c rfl (o_as ?_)
      refine WL.c rfl (o_as ?_)
      refine WL.nil ?_
      refine W.ret ?_
      refine ret3v rfl (show _ = Value.int _ _ from rfl) (show _ = Value.int _ _ from rfl) (show _ = Value.int _ _ from rfl) ?_
      refine ⟨?_, rfl⟩
      have hcons : xs.drop k = xs[k] :: xs.drop (k + 1) := by rw [List.getElem_cons_drop]
      rw [hg, hcons, vget]
      simp only [hf, if_true]; rfl
    · try simp only [decide_eq_true_eq, decide_eq_false_iff_not, Bool.not_eq_true', Bool.not_eq_false', Bool.and_eq_true, Bool.or_eq_true, Bool.and_eq_false_iff, Bool.or_eq_false_iff] at c16
      have hf : vfault xs[k] k = false := c16
      have hc8 : (xs[k]).toNat < 256 := UInt8.toNat_lt _
      have hgr := grp (c := (xs[k]).toNat) hk9 hm hc8 (vfault9 hf).1
      have hm64 : m < 18446744073709551616 := by have := pow_lt9 hk9; omega
      refine W.skip ?_
      refine W.seq ?_
      refine W.region ?_
      refine WL.c rfl (o_mvh h2 ?_)
      refine WL.c rfl (o_mv ?_)
      refine WL.c rfl (n_and (b := 127) 256 rfl (by decide) rfl rfl (by omega) (by decide) ?_)
      refine WL.c rfl (n_cvI 18446744073709551616 rfl TI5 TI68 (by decide) rfl ?_)
      refine WL.c rfl (o_mv ?_)
      refine WL.c rfl (o_muli rfl rfl (by omega) ?_)
      refine WL.c rfl (n_shl (b := 7 * k) 18446744073709551616 rfl (by decide) rfl (by show Value.int _ (7 * (k : Int)) = _; rfl) ?_)
      refine WL.c rfl (n_or 18446744073709551616 rfl (by decide) rfl rfl (by omega) (Nat.mod_lt _ (by decide)) ?_)
      refine WL.c rfl (o_as ?_)
      refine WL.nil ?_
      refine W.seq ?_
      refine W.region ?_
      refine WL.c rfl (o_mv ?_)
      refine WL.c rfl (o_lt rfl rfl ?_)
      refine WL.nil ?_
      refine W.cond rfl (fun c27 => ?_) (fun c27 => ?_)
      · try simp only [decide_eq_true_eq, decide_eq_false_iff_not, Bool.not_eq_true', Bool.not_eq_false', Bool.and_eq_true, Bool.or_eq_true, Bool.and_eq_false_iff, Bool.or_eq_false_iff] at c27
        refine W.seq ?_
        refine W.region ?_
        refine WL.c rfl (o_mv ?_)
        refine WL.c rfl (o_mv ?_)
        refine WL.c rfl (o_addi rfl rfl (by omega) ?_)
        refine WL.c rfl (o_as ?_)
        refine WL.c rfl (o_as ?_)
        refine WL.c rfl (o_as ?_)
        refine WL.nil ?_
        refine W.ret ?_
        refine ret3v rfl (show _ = Value.int _ _ from rfl) (show _ = Value.int _ _ from rfl) (show _ = Value.int _ _ from rfl) ?_
        refine ⟨?_, rfl⟩
        have hcons : xs.drop k = xs[k] :: xs.drop (k + 1) := by rw [List.getElem_cons_drop]
        rw [hg, hcons, vget]
        simp only [hf, Bool.false_eq_true, if_false]
        rw [if_pos (by omega)]
        congr 4
        exact congrArg (fun n : Nat => (n : Int)) hgr.1
      · try simp only [decide_eq_true_eq, decide_eq_false_iff_not, Bool.not_eq_true', Bool.not_eq_false', Bool.and_eq_true, Bool.or_eq_true, Bool.and_eq_false_iff, Bool.or_eq_false_iff] at c27
        refine W.skip ?_
        refine W.region ?_
        refine WL.c rfl (o_addi h9 rfl (by omega) ?_)
        refine WL.c rfl (o_mv ?_)
        refine WL.nil ?_
        have hcons : xs.drop k = xs[k] :: xs.drop (k + 1) := by rw [List.getElem_cons_drop]
        rw [hcons, vget] at hg
        simp only [hf, Bool.false_eq_true, if_false] at hg
        rw [if_neg (by omega)] at hg
        have hk8 : k < 9 := by have := vfault9 hf; omega
        refine ⟨⟨k + 1, _, congrArg (fun n : Nat => Value.int .u64 (n : Int)) hgr.1, h7, h8, rfl, by omega, by omega, hgr.2.2 hk8, hg, h0, rfl⟩, ?_⟩
        show xs.length - ((k : Int) + 1).toNat < _
        rw [h9]; simp [intOf]; omega
  · try simp only [decide_eq_true_eq, decide_eq_false_iff_not, Bool.not_eq_true', Bool.not_eq_false', Bool.and_eq_true, Bool.or_eq_true, Bool.and_eq_false_iff, Bool.or_eq_false_iff] at c10
    refine W.exit ?_
    refine W.seq ?_
    refine W.region ?_
    refine WL.c rfl (o_mvh h0 ?_)
    refine WL.c rfl (o_lenR TI23 rfl hB ?_)
    refine WL.c rfl (o_as ?_)
    refine WL.c rfl (o_as ?_)
    refine WL.c rfl (o_as ?_)
    refine WL.nil ?_
    refine W.ret ?_
    refine ret3v rfl (show _ = Value.int _ _ from rfl) (show _ = Value.int _ _ from rfl) (show _ = Value.int _ _ from rfl) ?_
    refine ⟨?_, rfl⟩
    have : k = xs.length := by omega
    rw [hg, this, List.drop_length]; rfl

theorem vbyte_lt (n s j : Nat) : (if j + 1 < s then dig n j + 128 else dig n j) < 256 := by unfold dig; split <;> omega
theorem bv_ofNat {a : Nat} (h : a < 256) : bv (UInt8.ofNat a) = .int .u8 (a : Int) := by simp [bv, Nat.mod_eq_of_lt h]
/-- the bytes that are written so far, all of them with the high bit -/
def hi (n j : Nat) : UInt8 := UInt8.ofNat (dig n j + 128)
def filled (n s i : Nat) : List Value := ((List.range i).map fun j => bv (hi n j)) ++ List.replicate (s - i) (.int .u8 0)
theorem filled_len {n s i : Nat} (h : i ≤ s) : (filled n s i).length = s := by simp [filled]; omega
theorem filled_set {n s i : Nat} (h : i < s) {v : Value} (hv : v = bv (hi n i)) : (filled n s i).set i v = filled n s (i + 1) := by
  subst hv
  unfold filled
  apply List.ext_getElem?
  intro j
  rw [List.getElem?_set]
  simp only [List.length_append, List.length_map, List.length_range, List.length_replicate]
  by_cases hj : i = j
  · subst hj
    rw [if_pos rfl, if_pos (by omega), List.getElem?_append_left (by simp)]
    simp
  · rw [if_neg hj]
    by_cases h1 : j < i
    · rw [List.getElem?_append_left (by simpa using h1), List.getElem?_append_left (by simp; omega)]
      simp [h1, show j < i + 1 by omega]
    · rw [List.getElem?_append_right (by simp; omega), List.getElem?_append_right (by simp; omega)]
      simp only [List.length_map, List.length_range, List.getElem?_replicate]
      split <;> split <;> first | rfl | omega
theorem filled_last {n s : Nat} (h : 0 < s) {v : Value} (hs : s = vsize n) (hv : v = bv (UInt8.ofNat (dig n (s - 1)))) : (filled n s s).set (s - 1) v = (vput n).map bv := by
  subst hv hs
  unfold filled vput
  apply List.ext_getElem?
  intro j
  rw [List.getElem?_set]
  simp only [List.length_append, List.length_map, List.length_range, List.length_replicate, List.map_map]
  by_cases hj : vsize n - 1 = j
  · subst hj
    rw [if_pos rfl, if_pos (by omega)]
    simp [show vsize n - 1 < vsize n by omega, vbyte, show ¬ (vsize n - 1 + 1 < vsize n) by omega]
  · rw [if_neg hj]
    by_cases h1 : j < vsize n
    · simp [h1, vbyte, hi, show j + 1 < vsize n by omega]
    · simp [h1]
theorem dig_div (n i : Nat) : n / 128 ^ i / 128 = n / 128 ^ (i + 1) := by rw [Nat.div_div_eq_div_mul, Nat.pow_succ]
theorem madeBytes (s : Nat) : (madeCells #[.int .u8 0] (s * 1)).toList = filled 0 s 0 := by
  rw [Nat.mul_one, toList_madeCells_one]; simp [filled]

theorem put_spec (n : Nat) (hn : n < 2 ^ 64) (w0 : World) : Ca Try.prog 30 #[.int .u64 (n : Int)] w0 (fun v w' => ∃ b, v = .slice (some ⟨b, 0, none⟩) (vsize n) (vsize n) ∧ w0.heap.size ≤ b ∧ w'.heap[b]? = some (.cells ((vput n).map bv).toArray 5 (0, 0)) ∧ Ext w0 w') := by
  have hs10 := vsize_10 hn
  have hs1 := vsize_pos n
  refine Ca.of Try.func30 Try.ntmps30 rfl rfl ?_
  refine W.seq ?_
  refine W.region ?_
  refine WL.c rfl (o_as ?_)
  refine WL.nil ?_
  refine W.seq ?_
  refine W.region ?_
  refine WL.c rfl (o_mv ?_)
  refine WL.c rfl (o_call Try.call49 (lc rfl ln) ((size_spec n hn _).mono ?_))
  rintro v w' ⟨rfl, rfl⟩
  refine WL.c rfl (o_mk TI23 TI5 rfl rfl (by omega) (by omega) ?_)
  refine WL.c rfl (o_as ?_)
  refine WL.nil ?_
  have hblk : (w'.alloc (.cells (madeCells #[.int .u8 0] (vsize n * 1)) 5)).heap[w'.heap.size]? = some (.cells (filled n (vsize n) 0).toArray 5 (0, 0)) := by
    rw [heap_alloc_new]
    have := madeBytes (vsize n)
    congr 2
    apply Array.ext'
    simpa [filled] using this
  have hext : Ext w' (w'.alloc (.cells (madeCells #[.int .u8 0] (vsize n * 1)) 5)) := Only.alloc _ _
  obtain ⟨wa, hwa⟩ : ∃ wa, wa = w'.alloc (.cells (madeCells #[.int .u8 0] (vsize n * 1)) 5) := ⟨_, rfl⟩
  have hgo : ∀ wx, wx = wa → True := fun _ _ => trivial
  refine W.seq ?_
  refine W.seq ?_
  refine W.region ?_
  refine WL.c rfl (o_mv ?_)
  refine WL.c rfl (o_len TI23 rfl ?_)
  refine WL.c rfl (o_mv ?_)
  refine WL.nil ?_
  refine W.block ?_
  refine W.loop (fun e w => ∃ i : Nat, i ≤ vsize n ∧ e 0 = .int .u64 ((n / 128 ^ i : Nat) : Int) ∧ e 3 = .slice (some ⟨w'.heap.size, 0, none⟩) (vsize n) (vsize n) ∧ e 9 = .int .i64 (vsize n : Int) ∧ e 10 = .int .i64 (i : Int) ∧ w.heap[w'.heap.size]? = some (.cells (filled n (vsize n) i).toArray 5 (0, 0)) ∧ Ext w' w) (fun e w => vsize n - (intOf (e 10)).toNat) ?_ ?_
  · exact ⟨0, Nat.zero_le _, by show Value.int _ _ = _; simp, rfl, rfl, rfl, hblk, hext⟩
  rintro e w ⟨i, hi1, h0, h3, h9, h10, hb, hx⟩
  refine W.seq ?_
  refine W.region ?_
  refine WL.c rfl (o_lt h10 h9 ?_)
  refine WL.nil ?_
  refine W.seq ?_
  refine W.cond rfl (fun c11 => ?_) (fun c11 => ?_)
  · try simp only [decide_eq_true_eq, decide_eq_false_iff_not, Bool.not_eq_true', Bool.not_eq_false', Bool.and_eq_true, Bool.or_eq_true, Bool.and_eq_false_iff, Bool.or_eq_false_iff] at c11
    refine W.skip ?_
    refine W.seq ?_
    refine W.block ?_
    refine W.seq ?_
    refine W.region ?_
    refine WL.c rfl (o_mvh h10 ?_)
    refine WL.c rfl (o_as ?_)
    refine WL.nil ?_
    refine W.seq ?_
    have hin : n / 128 ^ i < 2 ^ 64 := Nat.lt_of_le_of_lt (Nat.div_le_self _ _) hn
    have hlt : i < vsize n := by omega
    refine W.region ?_
    refine WL.c rfl (o_mvh h3 ?_)
    refine WL.c rfl (o_mv ?_)
    refine WL.c rfl (o_mvh h0 ?_)
    refine WL.c rfl (n_cvI 256 rfl TI68 TI5 (by decide) rfl ?_)
    refine WL.c rfl (n_or (b := 128) 256 rfl (by decide) rfl rfl (Nat.mod_lt _ (by decide)) (by decide) ?_)
    refine WL.c rfl (o_ixB TI23 TI5 rfl rfl (by omega) ?_)
    refine WL.u (o_stB TI5 rfl (show _ = Value.int _ _ from rfl) rfl hb (by simp [filled_len hi1]; omega) ?_)
    intro w18 hB18 ho18 hs18
    refine WL.nil ?_
    refine W.region ?_
    refine WL.c rfl (o_mvh h0 ?_)
    refine WL.c rfl (n_shr (b := 7) 18446744073709551616 rfl (by decide) rfl rfl (by omega) ?_)
    refine WL.c rfl (o_as ?_)
    refine WL.nil ?_
    refine W.region ?_
    refine WL.c rfl (o_addi h10 rfl (by omega) ?_)
    refine WL.c rfl (o_mv ?_)
    refine WL.nil ?_
    refine ⟨⟨i + 1, by omega, ?_, h3, h9, rfl, ?_, hx.trans' ho18 (fun _ h => h) (fun k hk he => by omega)⟩, ?_⟩
    · exact congrArg (fun x : Nat => Value.int .u64 (x : Int)) (dig_div n i)
    · rw [hB18, List.setIfInBounds_toArray, show 0 + i * 1 = i by omega, filled_set (by omega)]
      rw [hi, bv_ofNat (by unfold dig; omega)]
      exact congrArg (fun x : Nat => Value.int .u8 (x : Int)) (by rw [or128 _ (Nat.mod_lt _ (by decide))]; unfold dig; omega)
    · show vsize n - ((i : Int) + 1).toNat < _
      rw [h10]; simp [intOf]; omega
  · try simp only [decide_eq_true_eq, decide_eq_false_iff_not, Bool.not_eq_true', Bool.not_eq_false', Bool.and_eq_true, Bool.or_eq_true, Bool.and_eq_false_iff, Bool.or_eq_false_iff] at c11
    refine W.exit ?_
    refine W.seq ?_
    have : i = vsize n := by omega
    subst this
    refine W.region ?_
    refine WL.c rfl (o_mvh h3 ?_)
    refine WL.c rfl (o_mvh h3 ?_)
    refine WL.c rfl (o_len TI23 rfl ?_)
    refine WL.c rfl (o_subi rfl rfl (by omega) ?_)
    refine WL.c rfl (o_ixB (i := vsize n - 1) TI23 TI5 rfl (by show Value.int _ ((vsize n : Int) - 1) = _; congr 1; omega) (by omega) ?_)
    have hl27 : w.cell? ⟨w'.heap.size, 0 + (vsize n - 1) * 1, none⟩ = some (.int .u8 ((dig n (vsize n - 1) + 128 : Nat) : Int)) := by
      rw [cell_of_row w _ _ _ _ _ hb]
      simp only [Nat.zero_add, Nat.mul_one, List.getElem?_toArray]
      rw [filled, List.getElem?_append_left (by simp; omega)]
      simp [show vsize n - 1 < vsize n by omega, hi, bv, dig]; omega
    refine WL.c rfl (o_ld TI5 rfl rfl hl27 ?_)
    refine WL.c rfl (n_and (b := 127) 256 rfl (by decide) rfl rfl (by unfold dig; omega) (by decide) ?_)
    refine WL.c rfl (o_ixB (i := vsize n - 1) TI23 TI5 rfl (by show Value.int _ ((vsize n : Int) - 1) = _; congr 1; omega) (by omega) ?_)
    refine WL.u (o_stB TI5 rfl (show _ = Value.int _ _ from rfl) rfl hb (by simp [filled_len hi1]; omega) ?_)
    intro w29 hB29 ho29 hs29
    refine WL.nil ?_
    refine W.seq ?_
    refine W.region ?_
    refine WL.c rfl (o_mvh h3 ?_)
    refine WL.c rfl (o_as ?_)
    refine WL.nil ?_
    refine W.ret ?_
    refine ret1v rfl rfl ?_
    refine ⟨w'.heap.size, rfl, Nat.le_refl _, ?_, hx.trans' ho29 (fun _ h => h) (fun k hk he => by omega)⟩
    rw [hB29, List.setIfInBounds_toArray]
    rw [show 0 + (vsize n - 1) * 1 = vsize n - 1 by omega, filled_last (by omega) rfl]
    rw [bv_ofNat (by unfold dig; omega)]
    exact congrArg (fun x : Nat => Value.int .u8 (x : Int)) (by rw [and127 _ (by unfold dig; omega)]; unfold dig; omega)
end Go.Proofs.Ytdiaeafjjffjmaa
