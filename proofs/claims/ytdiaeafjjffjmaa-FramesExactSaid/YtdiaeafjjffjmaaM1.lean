/-
  Walks. Written by program out of specs of mine.
-/
import Derived.Test.YtdiaeafjjffjmaaBook
import Derived.Test.YtdiaeafjjffjmaaFacts
import Derived.Test.YtdiaeafjjffjmaaDefer
import Derived.Test.YtdiaeafjjffjmaaDrawc
set_option linter.unusedSimpArgs false
set_option linter.unusedVariables false
set_option maxRecDepth 100000
namespace Go.Proofs.Ytdiaeafjjffjmaa
open Go Go.Vc Go.RowKit Go.Proofs

/-! ### the document's numbers, plainly -/
def vsize (n : Nat) : Nat := if h : n < 128 then 1 else vsize (n / 128) + 1
theorem vsize_lt {n : Nat} (h : n < 128) : vsize n = 1 := by rw [vsize, dif_pos h]
theorem vsize_ge {n : Nat} (h : ¬ n < 128) : vsize n = vsize (n / 128) + 1 := by rw [vsize, dif_neg h]
theorem vsize_pos (n : Nat) : 1 ≤ vsize n := by by_cases h : n < 128
                                                · rw [vsize_lt h]; omega
                                                · rw [vsize_ge h]; omega
theorem vsize_pow : ∀ (k n : Nat), n < 128 ^ (k + 1) → vsize n ≤ k + 1 := by
  intro k
  induction k with
  | zero => intro n h; rw [vsize_lt (by simpa using h)]; omega
  | succ k ih =>
    intro n h
    by_cases hn : n < 128
    · rw [vsize_lt hn]; omega
    · rw [vsize_ge hn]
      have := ih (n / 128) (Nat.div_lt_of_lt_mul (by rw [Nat.pow_succ] at h; omega))
      omega
theorem vsize_10 {n : Nat} (h : n < 2 ^ 64) : vsize n ≤ 10 := vsize_pow 9 n (Nat.lt_of_lt_of_le h (by decide))
/-- byte number j of n -/
def dig (n j : Nat) : Nat := n / 128 ^ j % 128
def vbyte (n s j : Nat) : UInt8 := UInt8.ofNat (if j + 1 < s then dig n j + 128 else dig n j)
def vput (n : Nat) : List UInt8 := (List.range (vsize n)).map (vbyte n (vsize n))
theorem vput_len (n : Nat) : (vput n).length = vsize n := by simp [vput]
theorem or128 : ∀ a : Nat, a < 256 → a ||| 128 = a % 128 + 128 := by decide +kernel
theorem and127 : ∀ a : Nat, a < 256 → a &&& 127 = a % 128 := by decide +kernel
def vfault (c : UInt8) (k : Nat) : Bool := (decide (0 < k) && decide (c.toNat = 0)) || (decide (k = 9) && decide (1 < c.toNat))
def vget (k n : Nat) : List UInt8 → Nat × Nat × Nat
  | [] => (0, k, 20)
  | c :: cs => if vfault c k then (0, k, 21) else if c.toNat < 128 then (n + c.toNat % 128 * 128 ^ k, k + 1, 0) else vget (k + 1) (n + c.toNat % 128 * 128 ^ k) cs
abbrev By (w : World) (v : Value) (xs : List UInt8) : Prop := Sl w 1 v xs.length (xs.map bv)
theorem pow_lt9 {k : Nat} (hk : k ≤ 9) : 128 ^ k ≤ 2 ^ 63 := Nat.le_trans (Nat.pow_le_pow_right (by decide) hk) (by decide)
/-- one group more -/
theorem grp {k m c : Nat} (hk : k ≤ 9) (hm : m < 128 ^ k) (hc : c < 256) (h9 : k = 9 → c ≤ 1) :
    (m ||| ((c &&& 127) % 2 ^ 64 * 2 ^ (7 * k)) % 2 ^ 64) = m + c % 128 * 128 ^ k ∧ m + c % 128 * 128 ^ k < 2 ^ 64 ∧ (k < 9 → m + c % 128 * 128 ^ k < 128 ^ (k + 1)) := by
  have e : (2 : Nat) ^ (7 * k) = 128 ^ k := by rw [Nat.pow_mul]
  have h1 : c % 128 < 128 := Nat.mod_lt _ (by decide)
  have hp := pow_lt9 hk
  have lt2 : k < 9 → m + c % 128 * 128 ^ k < 128 ^ (k + 1) := by
    intro _
    have : c % 128 * 128 ^ k ≤ 127 * 128 ^ k := Nat.mul_le_mul_right _ (by omega)
    rw [Nat.pow_succ]; omega
  have lt : m + c % 128 * 128 ^ k < 2 ^ 64 := by
    by_cases h : k = 9
    · have := h9 h
      have : c % 128 * 128 ^ k ≤ 1 * 128 ^ k := Nat.mul_le_mul_right _ (by omega)
      omega
    · have h3 := lt2 (by omega)
      have : 128 ^ (k + 1) ≤ 128 ^ 9 := Nat.pow_le_pow_right (by decide) (by omega)
      have : (128 : Nat) ^ 9 = 2 ^ 63 := by decide
      omega
  refine ⟨?_, lt, lt2⟩
  rw [and127 c hc, Nat.mod_eq_of_lt (show c % 128 < 2 ^ 64 by omega), e, Nat.mod_eq_of_lt (by omega)]
  have := Nat.two_pow_add_eq_or_of_lt (i := 7 * k) (b := m) (by rw [e]; exact hm) (c % 128)
  rw [e] at this
  rw [Nat.or_comm, Nat.mul_comm, ← this]
  exact Nat.add_comm _ _
theorem getbv {xs : List UInt8} {k : Nat} (h : k < xs.length) : (xs.map bv)[k]? = some (bv xs[k]) := by simp [h]
theorem vfault9 {c : UInt8} {k : Nat} (h : vfault c k = false) : (k = 9 → c.toNat ≤ 1) ∧ (0 < k → c.toNat ≠ 0) := by
  simp only [vfault, Bool.or_eq_false_iff, Bool.and_eq_false_iff, decide_eq_false_iff_not] at h
  omega

theorem size_spec (n : Nat) (hn : n < 2 ^ 64) (w0 : World) : Ca Try.prog 49 #[.int .u64 (n : Int)] w0 (fun v w' => v = .int .i64 (vsize n : Int) ∧ w' = w0) := by
  have hs := vsize_10 hn
  refine Ca.of Try.func49 Try.ntmps49 rfl rfl ?_
  refine W.seq ?_
  refine W.region ?_
  refine WL.c rfl (o_as ?_)
  refine WL.nil ?_
  refine W.seq ?_
  refine W.region ?_
  refine WL.c rfl (o_as ?_)
  refine WL.nil ?_
  refine W.seq ?_
  refine W.block ?_
  refine W.loop (fun e w => ∃ m k : Nat, e 0 = .int .u64 (m : Int) ∧ m < 2 ^ 64 ∧ e 3 = .int .i64 (k : Int) ∧ vsize n + 1 = vsize m + k ∧ w = w0) (fun e w => (intOf (e 0)).toNat) ?_ ?_
  · exact ⟨n, 1, rfl, hn, rfl, rfl, rfl⟩
  rintro e w ⟨m, k, h0, hm, h3, hk, rfl⟩
  refine W.seq ?_
  refine W.seq ?_
  refine W.region ?_
  refine WL.c rfl (o_mvh h0 ?_)
  refine WL.c rfl (o_ge rfl rfl ?_)
  refine WL.nil ?_
  refine W.cond rfl (fun c5 => ?_) (fun c5 => ?_)
  · try simp only [decide_eq_true_eq, decide_eq_false_iff_not, Bool.not_eq_true', Bool.not_eq_false', Bool.and_eq_true, Bool.or_eq_true, Bool.and_eq_false_iff, Bool.or_eq_false_iff] at c5
    refine W.skip ?_
    refine W.block ?_
    refine W.seq ?_
    refine W.region ?_
    refine WL.c rfl (o_mvh h0 ?_)
    refine WL.c rfl (n_shr (b := 7) 18446744073709551616 rfl (by decide) rfl rfl (by omega) ?_)
    refine WL.c rfl (o_as ?_)
    refine WL.nil ?_
    refine W.region ?_
    refine WL.c rfl (o_mvh h3 ?_)
    refine WL.c rfl (o_addi rfl rfl (by omega) ?_)
    refine WL.c rfl (o_as ?_)
    refine WL.nil ?_
    have := vsize_ge (n := m) (by omega)
    refine ⟨⟨m / 128, k + 1, rfl, by omega, rfl, by omega, rfl⟩, ?_⟩
    show ((m / 128 : Nat) : Int).toNat < (intOf (e 0)).toNat
    rw [h0]; simp [intOf]; omega
  · try simp only [decide_eq_true_eq, decide_eq_false_iff_not, Bool.not_eq_true', Bool.not_eq_false', Bool.and_eq_true, Bool.or_eq_true, Bool.and_eq_false_iff, Bool.or_eq_false_iff] at c5
    refine W.exit ?_
    refine W.seq ?_
    refine W.region ?_
    refine WL.c rfl (o_mvh h3 ?_)
    refine WL.c rfl (o_as ?_)
    refine WL.nil ?_
    refine W.ret ?_
    refine ret1v rfl (show _ = Value.int _ _ from rfl) ?_
    have := vsize_lt (n := m) (by omega)
    exact ⟨by congr 1; omega, rfl⟩
theorem fault_spec (c : UInt8) (k : Nat) (w : World) : Ca Try.prog 76 #[bv c, .int .i64 (k : Int)] w (fun v w' => v = .bool (vfault c k) ∧ w' = w) := by
  refine Ca.of Try.func76 Try.ntmps76 rfl rfl ?_
  refine W.seq ?_
  refine W.region ?_
  refine WL.c rfl (o_as ?_)
  refine WL.nil ?_
  refine W.seq ?_
  refine W.region ?_
  refine WL.c rfl (o_mv ?_)
  refine WL.c rfl (o_gt rfl rfl ?_)
  refine WL.c rfl (o_mv ?_)
  refine WL.sp 2 rfl (fun g7 => ?_) (fun g7 => ?_)
  · skip
    refine WL.g rfl (g7) rfl (o_mv ?_)
    refine WL.g rfl (g7) rfl (o_eq rfl rfl ?_)
    refine WL.c rfl (o_pickA rfl rfl ?_)
    refine WL.c rfl (o_mv ?_)
    refine WL.sp 6 rfl (fun g11 => ?_) (fun g11 => ?_)
    · skip
      refine WL.s rfl (g11) rfl ?_
      refine WL.s rfl (g11) rfl ?_
      refine WL.s rfl (g11) rfl ?_
      refine WL.z rfl rfl ?_
      refine WL.z rfl rfl ?_
      refine WL.s rfl (g11) rfl ?_
      refine WL.c rfl (o_pickT rfl (g11) ?_)
      refine WL.c rfl (o_as ?_)
      refine WL.nil ?_
      refine W.ret ?_
      refine ret1v rfl (show _ = Value.bool _ from rfl) ?_
      refine ⟨?_, rfl⟩
      congr 1
      simp only [decide_eq_true_eq, decide_eq_false_iff_not, Bool.and_eq_true, Bool.and_eq_false_iff] at *
      rw [Bool.eq_iff_iff]
      simp only [vfault, Bool.or_eq_true, Bool.and_eq_true, decide_eq_true_eq, true_iff, iff_true, Bool.false_eq_true, iff_false, false_iff, false_or, or_false, and_false, false_and, true_and, and_true, reduceCtorEq]
      omega
    · skip
      refine WL.g rfl (g11) rfl (o_mv ?_)
      refine WL.g rfl (g11) rfl (o_eq rfl rfl ?_)
      refine WL.g rfl (g11) rfl (o_mv ?_)
      refine WL.sp 9 rfl (fun g14 => ?_) (fun g14 => ?_)
      · skip
        refine WL.g rfl (g14) rfl (o_mv ?_)
        refine WL.g rfl (g14) rfl (o_gt rfl rfl ?_)
        refine WL.g rfl (g11) rfl (o_pickA rfl rfl ?_)
        refine WL.c rfl (o_pickO rfl rfl ?_)
        refine WL.c rfl (o_as ?_)
        refine WL.nil ?_
        refine W.ret ?_
        refine ret1v rfl (show _ = Value.bool _ from rfl) ?_
        refine ⟨?_, rfl⟩
        congr 1
        simp only [decide_eq_true_eq, decide_eq_false_iff_not, Bool.and_eq_true, Bool.and_eq_false_iff] at *
        rw [Bool.eq_iff_iff]
        simp only [vfault, Bool.or_eq_true, Bool.and_eq_true, decide_eq_true_eq, true_iff, iff_true, Bool.false_eq_true, iff_false, false_iff, false_or, or_false, and_false, false_and, true_and, and_true, reduceCtorEq]
        omega
      · skip
        refine WL.s rfl (g14) rfl ?_
        refine WL.s rfl (g14) rfl ?_
        refine WL.g rfl (g11) rfl (o_pickF rfl (g14) ?_)
        refine WL.c rfl (o_pickO rfl rfl ?_)
        refine WL.c rfl (o_as ?_)
        refine WL.nil ?_
        refine W.ret ?_
        refine ret1v rfl (show _ = Value.bool _ from rfl) ?_
        refine ⟨?_, rfl⟩
        congr 1
        simp only [decide_eq_true_eq, decide_eq_false_iff_not, Bool.and_eq_true, Bool.and_eq_false_iff] at *
        rw [Bool.eq_iff_iff]
        simp only [vfault, Bool.or_eq_true, Bool.and_eq_true, decide_eq_true_eq, true_iff, iff_true, Bool.false_eq_true, iff_false, false_iff, false_or, or_false, and_false, false_and, true_and, and_true, reduceCtorEq]
        omega
  · skip
    refine WL.s rfl (g7) rfl ?_
    refine WL.s rfl (g7) rfl ?_
    refine WL.c rfl (o_pickF rfl (g7) ?_)
    refine WL.c rfl (o_mv ?_)
    refine WL.g rfl (rfl) rfl (o_mv ?_)
    refine WL.g rfl (rfl) rfl (o_eq rfl rfl ?_)
    refine WL.g rfl (rfl) rfl (o_mv ?_)
    refine WL.sp 9 rfl (fun g14 => ?_) (fun g14 => ?_)
    · skip
      refine WL.g rfl (g14) rfl (o_mv ?_)
      refine WL.g rfl (g14) rfl (o_gt rfl rfl ?_)
      refine WL.g rfl (rfl) rfl (o_pickA rfl rfl ?_)
      refine WL.c rfl (o_pickO rfl rfl ?_)
      refine WL.c rfl (o_as ?_)
      refine WL.nil ?_
      refine W.ret ?_
      refine ret1v rfl (show _ = Value.bool _ from rfl) ?_
      refine ⟨?_, rfl⟩
      congr 1
      simp only [decide_eq_true_eq, decide_eq_false_iff_not, Bool.and_eq_true, Bool.and_eq_false_iff] at *
      rw [Bool.eq_iff_iff]
      simp only [vfault, Bool.or_eq_true, Bool.and_eq_true, decide_eq_true_eq, true_iff, iff_true, Bool.false_eq_true, iff_false, false_iff, false_or, or_false, and_false, false_and, true_and, and_true, reduceCtorEq]
      omega
    · skip
      refine WL.s rfl (g14) rfl ?_
      refine WL.s rfl (g14) rfl ?_
      refine WL.g rfl (rfl) rfl (o_pickF rfl (g14) ?_)
      refine WL.c rfl (o_pickO rfl rfl ?_)
      refine WL.c rfl (o_as ?_)
      refine WL.nil ?_
      refine W.ret ?_
      refine ret1v rfl (show _ = Value.bool _ from rfl) ?_
      refine ⟨?_, rfl⟩
      congr 1
      simp only [decide_eq_true_eq, decide_eq_false_iff_not, Bool.and_eq_true, Bool.and_eq_false_iff] at *
      rw [Bool.eq_iff_iff]
      simp only [vfault, Bool.or_eq_true, Bool.and_eq_true, decide_eq_true_eq, true_iff, iff_true, Bool.false_eq_true, iff_false, false_iff, false_or, or_false, and_false, false_and, true_and, and_true, reduceCtorEq]
      omega
theorem get_spec (xs : List UInt8) (v : Value) (w0 : World) (hB : By w0 v xs) (hlen : xs.length ≤ maxLen) : Ca Try.prog 70 #[v] w0 (fun r w' => r = .tuple #[.int .u64 ((vget 0 0 xs).1 : Int), .int .i64 ((vget 0 0 xs).2.1 : Int), .int .i64 ((vget 0 0 xs).2.2 : Int)] ∧ w' = w0) := by
  unfold maxLen at hlen
  refine Ca.of Try.func70 Try.ntmps70 rfl rfl ?_
  refine W.seq ?_
  refine W.region ?_
  refine WL.c rfl (o_as ?_)
  refine WL.c rfl (o_as ?_)
  refine WL.c rfl (o_as ?_)
  refine WL.nil ?_
  refine W.seq ?_
  refine W.seq ?_
  refine W.region ?_
  refine WL.c rfl (o_mv ?_)
  refine WL.c rfl (o_lenR TI23 rfl hB ?_)
  refine WL.c rfl (o_mv ?_)
  refine WL.nil ?_
  refine W.block ?_
  refine W.loop (fun e w => ∃ k m : Nat, e 2 = .int .u64 (m : Int) ∧ e 7 = v ∧ e 8 = .int .i64 (xs.length : Int) ∧ e 9 = .int .i64 (k : Int) ∧ k ≤ xs.length ∧ k ≤ 9 ∧ m < 128 ^ k ∧ vget 0 0 xs = vget k m (xs.drop k) ∧ e 0 = v ∧ w = w0) (fun e w => xs.length - (intOf (e 9)).toNat) ?_ ?_
  · exact ⟨0, 0, rfl, rfl, rfl, rfl, Nat.zero_le _, by omega, by decide, rfl, rfl, rfl⟩
  rintro e w ⟨k, m, h2, h7, h8, h9, hk, hk9, hm, hg, h0, rfl⟩
  refine W.seq ?_
  refine W.region ?_
  refine WL.c rfl (o_lt h9 h8 ?_)
  refine WL.nil ?_
  refine W.seq ?_
  refine W.cond rfl (fun c10 => ?_) (fun c10 => ?_)
  · try simp only [decide_eq_true_eq, decide_eq_false_iff_not, Bool.not_eq_true', Bool.not_eq_false', Bool.and_eq_true, Bool.or_eq_true, Bool.and_eq_false_iff, Bool.or_eq_false_iff] at c10
    refine W.skip ?_
    refine W.seq ?_
    refine W.block ?_
    refine W.seq ?_
    have hk1 : k < xs.length := by omega
    refine W.region ?_
    refine WL.c rfl (o_mvh h9 ?_)
    refine WL.c rfl (o_ix1 TI23 TI5 h7 h9 hB (by omega) ?_)
    intro b12 o12 hc12 hb12
    refine WL.c rfl (o_ld TI5 rfl rfl (hc12.trans (getbv hk1)) ?_)
    refine WL.c rfl (o_as ?_)
    refine WL.c rfl (o_as ?_)
    refine WL.nil ?_
    refine W.seq ?_
    refine W.seq ?_
    refine W.region ?_
    refine WL.c rfl (o_mv ?_)
    refine WL.c rfl (o_mv ?_)
    refine WL.c rfl (o_call Try.call76 (lc rfl (lc rfl ln)) ((fault_spec xs[k] k _).mono ?_))
    rintro v w' ⟨rfl, rfl⟩
    refine WL.nil ?_
    refine W.cond rfl (fun c16 => ?_) (fun c16 => ?_)
    · try simp only [decide_eq_true_eq, decide_eq_false_iff_not, Bool.not_eq_true', Bool.not_eq_false', Bool.and_eq_true, Bool.or_eq_true, Bool.and_eq_false_iff, Bool.or_eq_false_iff] at c16
      have hf : vfault xs[k] k = true := c16
      refine W.seq ?_
      refine W.region ?_
      refine WL.c rfl (o_mv ?_)
      refine WL.c rfl (o_as ?_)
      refine WL.c rfl (o_as ?_)
      refine WL.c rfl (o_as ?_)
      refine WL.nil ?_
      refine W.ret ?_
      refine ret3v rfl (show _ = Value.int _ _ from rfl) (show _ = Value.int _ _ from rfl) (show _ = Value.int _ _ from rfl) ?_
      refine ⟨?_, rfl⟩
      have hcons : xs.drop k = xs[k] :: xs.drop (k + 1) := by rw [List.getElem_cons_drop]
      rw [hg, hcons, vget]
      simp only [hf, if_true]; rfl
    · try simp only [decide_eq_true_eq, decide_eq_false_iff_not, Bool.not_eq_true', Bool.not_eq_false', Bool.and_eq_true, Bool.or_eq_true, Bool.and_eq_false_iff, Bool.or_eq_false_iff] at c16
      have hf : vfault xs[k] k = false := c16
      have hc8 : (xs[k]).toNat < 256 := UInt8.toNat_lt _
      have hgr := grp (c := (xs[k]).toNat) hk9 hm hc8 (vfault9 hf).1
      have hm64 : m < 18446744073709551616 := by have := pow_lt9 hk9; omega
      refine W.skip ?_
      refine W.seq ?_
      refine W.region ?_
      refine WL.c rfl (o_mvh h2 ?_)
      refine WL.c rfl (o_mv ?_)
      refine WL.c rfl (n_and (b := 127) 256 rfl (by decide) rfl rfl (by omega) (by decide) ?_)
      refine WL.c rfl (n_cvI 18446744073709551616 rfl TI5 TI68 (by decide) rfl ?_)
      refine WL.c rfl (o_mv ?_)
      refine WL.c rfl (o_muli rfl rfl (by omega) ?_)
      refine WL.c rfl (n_shl (b := 7 * k) 18446744073709551616 rfl (by decide) rfl (by show Value.int _ (7 * (k : Int)) = _; rfl) ?_)
      refine WL.c rfl (n_or 18446744073709551616 rfl (by decide) rfl rfl (by omega) (Nat.mod_lt _ (by decide)) ?_)
      refine WL.c rfl (o_as ?_)
      refine WL.nil ?_
      refine W.seq ?_
      refine W.region ?_
      refine WL.c rfl (o_mv ?_)
      refine WL.c rfl (o_lt rfl rfl ?_)
      refine WL.nil ?_
      refine W.cond rfl (fun c27 => ?_) (fun c27 => ?_)
      · try simp only [decide_eq_true_eq, decide_eq_false_iff_not, Bool.not_eq_true', Bool.not_eq_false', Bool.and_eq_true, Bool.or_eq_true, Bool.and_eq_false_iff, Bool.or_eq_false_iff] at c27
        refine W.seq ?_
        refine W.region ?_
        refine WL.c rfl (o_mv ?_)
        refine WL.c rfl (o_mv ?_)
        refine WL.c rfl (o_addi rfl rfl (by omega) ?_)
        refine WL.c rfl (o_as ?_)
        refine WL.c rfl (o_as ?_)
        refine WL.c rfl (o_as ?_)
        refine WL.nil ?_
        refine W.ret ?_
        refine ret3v rfl (show _ = Value.int _ _ from rfl) (show _ = Value.int _ _ from rfl) (show _ = Value.int _ _ from rfl) ?_
        refine ⟨?_, rfl⟩
        have hcons : xs.drop k = xs[k] :: xs.drop (k + 1) := by rw [List.getElem_cons_drop]
        rw [hg, hcons, vget]
        simp only [hf, Bool.false_eq_true, if_false]
        rw [if_pos (by omega)]
        congr 4
        exact congrArg (fun n : Nat => (n : Int)) hgr.1
      · try simp only [decide_eq_true_eq, decide_eq_false_iff_not, Bool.not_eq_true', Bool.not_eq_false', Bool.and_eq_true, Bool.or_eq_true, Bool.and_eq_false_iff, Bool.or_eq_false_iff] at c27
        refine W.skip ?_
        refine W.region ?_
        refine WL.c rfl (o_addi h9 rfl (by omega) ?_)
        refine WL.c rfl (o_mv ?_)
        refine WL.nil ?_
        have hcons : xs.drop k = xs[k] :: xs.drop (k + 1) := by rw [List.getElem_cons_drop]
        rw [hcons, vget] at hg
        simp only [hf, Bool.false_eq_true, if_false] at hg
        rw [if_neg (by omega)] at hg
        have hk8 : k < 9 := by have := vfault9 hf; omega
        refine ⟨⟨k + 1, _, congrArg (fun n : Nat => Value.int .u64 (n : Int)) hgr.1, h7, h8, rfl, by omega, by omega, hgr.2.2 hk8, hg, h0, rfl⟩, ?_⟩
        show xs.length - ((k : Int) + 1).toNat < _
        rw [h9]; simp [intOf]; omega
  · try simp only [decide_eq_true_eq, decide_eq_false_iff_not, Bool.not_eq_true', Bool.not_eq_false', Bool.and_eq_true, Bool.or_eq_true, Bool.and_eq_false_iff, Bool.or_eq_false_iff] at c10
    refine W.exit ?_
    refine W.seq ?_
    refine W.region ?_
    refine WL.c rfl (o_mvh h0 ?_)
    refine WL.c rfl (o_lenR TI23 rfl hB ?_)
    refine WL.c rfl (o_as ?_)
    refine WL.c rfl (o_as ?_)
    refine WL.c rfl (o_as ?_)
    refine WL.nil ?_
    refine W.ret ?_
    refine ret3v rfl (show _ = Value.int _ _ from rfl) (show _ = Value.int _ _ from rfl) (show _ = Value.int _ _ from rfl) ?_
    refine ⟨?_, rfl⟩
    have : k = xs.length := by omega
    rw [hg, this, List.drop_length]; rfl

theorem vbyte_lt (n s j : Nat) : (if j + 1 < s then dig n j + 128 else dig n j) < 256 := by unfold dig; split <;> omega
theorem bv_ofNat {a : Nat} (h : a < 256) : bv (UInt8.ofNat a) = .int .u8 (a : Int) := by simp [bv, Nat.mod_eq_of_lt h]
/-- the bytes that are written so far, all of them with the high bit -/
def hi (n j : Nat) : UInt8 := UInt8.ofNat (dig n j + 128)
def filled (n s i : Nat) : List Value := ((List.range i).map fun j => bv (hi n j)) ++ List.replicate (s - i) (.int .u8 0)
theorem filled_len {n s i : Nat} (h : i ≤ s) : (filled n s i).length = s := by simp [filled]; omega
theorem filled_set {n s i : Nat} (h : i < s) {v : Value} (hv : v = bv (hi n i)) : (filled n s i).set i v = filled n s (i + 1) := by
  subst hv
  unfold filled
  apply List.ext_getElem?
  intro j
  rw [List.getElem?_set]
  simp only [List.length_append, List.length_map, List.length_range, List.length_replicate]
  by_cases hj : i = j
  · subst hj
    rw [if_pos rfl, if_pos (by omega), List.getElem?_append_left (by simp)]
    simp
  · rw [if_neg hj]
    by_cases h1 : j < i
    · rw [List.getElem?_append_left (by simpa using h1), List.getElem?_append_left (by simp; omega)]
      simp [h1, show j < i + 1 by omega]
    · rw [List.getElem?_append_right (by simp; omega), List.getElem?_append_right (by simp; omega)]
      simp only [List.length_map, List.length_range, List.getElem?_replicate]
      split <;> split <;> first | rfl | omega
theorem filled_last {n s : Nat} (h : 0 < s) {v : Value} (hs : s = vsize n) (hv : v = bv (UInt8.ofNat (dig n (s - 1)))) : (filled n s s).set (s - 1) v = (vput n).map bv := by
  subst hv hs
  unfold filled vput
  apply List.ext_getElem?
  intro j
  rw [List.getElem?_set]
  simp only [List.length_append, List.length_map, List.length_range, List.length_replicate, List.map_map]
  by_cases hj : vsize n - 1 = j
  · subst hj
    rw [if_pos rfl, if_pos (by omega)]
    simp [show vsize n - 1 < vsize n by omega, vbyte, show ¬ (vsize n - 1 + 1 < vsize n) by omega]
  · rw [if_neg hj]
    by_cases h1 : j < vsize n
    · simp [h1, vbyte, hi, show j + 1 < vsize n by omega]
    · simp [h1]
theorem dig_div (n i : Nat) : n / 128 ^ i / 128 = n / 128 ^ (i + 1) := by rw [Nat.div_div_eq_div_mul, Nat.pow_succ]
theorem madeBytes (s : Nat) : (madeCells #[.int .u8 0] (s * 1)).toList = filled 0 s 0 := by
  rw [Nat.mul_one, toList_madeCells_one]; simp [filled]

theorem put_spec (n : Nat) (hn : n < 2 ^ 64) (w0 : World) : Ca Try.prog 30 #[.int .u64 (n : Int)] w0 (fun v w' => ∃ b, v = .slice (some ⟨b, 0, none⟩) (vsize n) (vsize n) ∧ w0.heap.size ≤ b ∧ w'.heap[b]? = some (.cells ((vput n).map bv).toArray 5 (0, 0)) ∧ Ext w0 w') := by
  have hs10 := vsize_10 hn
  have hs1 := vsize_pos n
  refine Ca.of Try.func30 Try.ntmps30 rfl rfl ?_
  refine W.seq ?_
  refine W.region ?_
  refine WL.c rfl (o_as ?_)
  refine WL.nil ?_
  refine W.seq ?_
  refine W.region ?_
  refine WL.c rfl (o_mv ?_)
  refine WL.c rfl (o_call Try.call49 (lc rfl ln) ((size_spec n hn _).mono ?_))
  rintro v w' ⟨rfl, rfl⟩
  refine WL.c rfl (o_mk TI23 TI5 rfl rfl (by omega) (by omega) ?_)
  refine WL.c rfl (o_as ?_)
  refine WL.nil ?_
  have hblk : (w'.alloc (.cells (madeCells #[.int .u8 0] (vsize n * 1)) 5)).heap[w'.heap.size]? = some (.cells (filled n (vsize n) 0).toArray 5 (0, 0)) := by
    rw [heap_alloc_new]
    have := madeBytes (vsize n)
    congr 2
    apply Array.ext'
    simpa [filled] using this
  have hext : Ext w' (w'.alloc (.cells (madeCells #[.int .u8 0] (vsize n * 1)) 5)) := Only.alloc _ _
  obtain ⟨wa, hwa⟩ : ∃ wa, wa = w'.alloc (.cells (madeCells #[.int .u8 0] (vsize n * 1)) 5) := ⟨_, rfl⟩
  have hgo : ∀ wx, wx = wa → True := fun _ _ => trivial
  refine W.seq ?_
  refine W.seq ?_
  refine W.region ?_
  refine WL.c rfl (o_mv ?_)
  refine WL.c rfl (o_len TI23 rfl ?_)
  refine WL.c rfl (o_mv ?_)
  refine WL.nil ?_
  refine W.block ?_
  refine W.loop (fun e w => ∃ i : Nat, i ≤ vsize n ∧ e 0 = .int .u64 ((n / 128 ^ i : Nat) : Int) ∧ e 3 = .slice (some ⟨w'.heap.size, 0, none⟩) (vsize n) (vsize n) ∧ e 9 = .int .i64 (vsize n : Int) ∧ e 10 = .int .i64 (i : Int) ∧ w.heap[w'.heap.size]? = some (.cells (filled n (vsize n) i).toArray 5 (0, 0)) ∧ Ext w' w) (fun e w => vsize n - (intOf (e 10)).toNat) ?_ ?_
  · exact ⟨0, Nat.zero_le _, by show Value.int _ _ = _; simp, rfl, rfl, rfl, hblk, hext⟩
  rintro e w ⟨i, hi1, h0, h3, h9, h10, hb, hx⟩
  refine W.seq ?_
  refine W.region ?_
  refine WL.c rfl (o_lt h10 h9 ?_)
  refine WL.nil ?_
  refine W.seq ?_
  refine W.cond rfl (fun c11 => ?_) (fun c11 => ?_)
  · try simp only [decide_eq_true_eq, decide_eq_false_iff_not, Bool.not_eq_true', Bool.not_eq_false', Bool.and_eq_true, Bool.or_eq_true, Bool.and_eq_false_iff, Bool.or_eq_false_iff] at c11
    refine W.skip ?_
    refine W.seq ?_
    refine W.block ?_
    refine W.seq ?_
    refine W.region ?_
    refine WL.c rfl (o_mvh h10 ?_)
    refine WL.c rfl (o_as ?_)
    refine WL.nil ?_
    refine W.seq ?_
    have hin : n / 128 ^ i < 2 ^ 64 := Nat.lt_of_le_of_lt (Nat.div_le_self _ _) hn
    have hlt : i < vsize n := by omega
    refine W.region ?_
    refine WL.c rfl (o_mvh h3 ?_)
    refine WL.c rfl (o_mv ?_)
    refine WL.c rfl (o_mvh h0 ?_)
    refine WL.c rfl (n_cvI 256 rfl TI68 TI5 (by decide) rfl ?_)
    refine WL.c rfl (n_or (b := 128) 256 rfl (by decide) rfl rfl (Nat.mod_lt _ (by decide)) (by decide) ?_)
    refine WL.c rfl (o_ixB TI23 TI5 rfl rfl (by omega) ?_)
    refine WL.u (o_stB TI5 rfl (show _ = Value.int _ _ from rfl) rfl hb (by simp [filled_len hi1]; omega) ?_)
    intro w18 hB18 ho18 hs18
    refine WL.nil ?_
    refine W.region ?_
    refine WL.c rfl (o_mvh h0 ?_)
    refine WL.c rfl (n_shr (b := 7) 18446744073709551616 rfl (by decide) rfl rfl (by omega) ?_)
    refine WL.c rfl (o_as ?_)
    refine WL.nil ?_
    refine W.region ?_
    refine WL.c rfl (o_addi h10 rfl (by omega) ?_)
    refine WL.c rfl (o_mv ?_)
    refine WL.nil ?_
    refine ⟨⟨i + 1, by omega, ?_, h3, h9, rfl, ?_, hx.trans' ho18 (fun _ h => h) (fun k hk he => by omega)⟩, ?_⟩
    · exact congrArg (fun x : Nat => Value.int .u64 (x : Int)) (dig_div n i)
    · rw [hB18, List.setIfInBounds_toArray, show 0 + i * 1 = i by omega, filled_set (by omega)]
      rw [hi, bv_ofNat (by unfold dig; omega)]
      exact congrArg (fun x : Nat => Value.int .u8 (x : Int)) (by rw [or128 _ (Nat.mod_lt _ (by decide))]; unfold dig; omega)
    · show vsize n - ((i : Int) + 1).toNat < _
      rw [h10]; simp [intOf]; omega
  · try simp only [decide_eq_true_eq, decide_eq_false_iff_not, Bool.not_eq_true', Bool.not_eq_false', Bool.and_eq_true, Bool.or_eq_true, Bool.and_eq_false_iff, Bool.or_eq_false_iff] at c11
    refine W.exit ?_
    refine W.seq ?_
    have : i = vsize n := by omega
    subst this
    refine W.region ?_
    refine WL.c rfl (o_mvh h3 ?_)
    refine WL.c rfl (o_mvh h3 ?_)
    refine WL.c rfl (o_len TI23 rfl ?_)
    refine WL.c rfl (o_subi rfl rfl (by omega) ?_)
    refine WL.c rfl (o_ixB (i := vsize n - 1) TI23 TI5 rfl (by show Value.int _ ((vsize n : Int) - 1) = _; congr 1; omega) (by omega) ?_)
    have hl27 : w.cell? ⟨w'.heap.size, 0 + (vsize n - 1) * 1, none⟩ = some (.int .u8 ((dig n (vsize n - 1) + 128 : Nat) : Int)) := by
      rw [cell_of_row w _ _ _ _ _ hb]
      simp only [Nat.zero_add, Nat.mul_one, List.getElem?_toArray]
      rw [filled, List.getElem?_append_left (by simp; omega)]
      simp [show vsize n - 1 < vsize n by omega, hi, bv, dig]; omega
    refine WL.c rfl (o_ld TI5 rfl rfl hl27 ?_)
    refine WL.c rfl (n_and (b := 127) 256 rfl (by decide) rfl rfl (by unfold dig; omega) (by decide) ?_)
    refine WL.c rfl (o_ixB (i := vsize n - 1) TI23 TI5 rfl (by show Value.int _ ((vsize n : Int) - 1) = _; congr 1; omega) (by omega) ?_)
    refine WL.u (o_stB TI5 rfl (show _ = Value.int _ _ from rfl) rfl hb (by simp [filled_len hi1]; omega) ?_)
    intro w29 hB29 ho29 hs29
    refine WL.nil ?_
    refine W.seq ?_
    refine W.region ?_
    refine WL.c rfl (o_mvh h3 ?_)
    refine WL.c rfl (o_as ?_)
    refine WL.nil ?_
    refine W.ret ?_
    refine ret1v rfl rfl ?_
    refine ⟨w'.heap.size, rfl, Nat.le_refl _, ?_, hx.trans' ho29 (fun _ h => h) (fun k hk he => by omega)⟩
    rw [hB29, List.setIfInBounds_toArray]
    rw [show 0 + (vsize n - 1) * 1 = vsize n - 1 by omega, filled_last (by omega) rfl]
    rw [bv_ofNat (by unfold dig; omega)]
    exact congrArg (fun x : Nat => Value.int .u8 (x : Int)) (by rw [and127 _ (by unfold dig; omega)]; unfold dig; omega)

theorem maxLen_eq : maxLen = 9223372036854775807 := rfl
/-- a frame, plainly -/
structure Fr where
  rt : Int
  pl : Int
  bs : Int
  en : Int
  nd : Int
  nx : Int
  tab : List Int
deriving DecidableEq
def Fr.nil : Fr := ⟨0, 0, 0, 0, 0, 0, []⟩
def fcells (f : Fr) (tv : Value) : List Value := [.int .i64 f.rt, .int .i64 f.pl, .int .i64 f.bs, .int .i64 f.en, .int .i64 f.nd, .int .i64 f.nx, tv]
abbrev ints (l : List Int) : List Value := l.map (Value.int .i64)
abbrev In (w : World) (v : Value) (l : List Int) : Prop := Sl w 1 v l.length (ints l)
def inb (n lo hi : Int) : Bool := decide (lo ≤ n) && decide (n ≤ hi)
abbrev Huge : Int := 4611686018427387904
def fright (f : Fr) : Bool := inb f.rt 0 Huge && inb f.pl 0 Huge && inb f.bs 0 Huge && inb f.nx 0 Huge && inb f.en (-1) Huge && inb f.nd (-1) Huge
def tright (l : List Int) : Bool := decide (l.length ≤ 1048576) && l.all (fun n => inb n 0 Huge)
def fwhole (f : Fr) : Bool := fright f && tright f.tab
theorem getint {l : List Int} {k : Nat} (h : k < l.length) : (ints l)[k]? = some (.int .i64 l[k]) := by simp [h]
theorem one_ints (l : List Int) : ∀ a ∈ ints l, a.oneCell' = true := by intro a ha; obtain ⟨n, _, rfl⟩ := List.mem_map.1 ha; rfl
theorem all_drop {p : Int → Bool} {l : List Int} {k : Nat} (h : k < l.length) : (l.drop k).any p = (p l[k] || (l.drop (k + 1)).any p) := by
  rw [← List.getElem_cons_drop h]; rfl
theorem fcells_one {f : Fr} {v : Value} (h : v.oneCell' = true) : (fcells f v).toArray.toList.all (·.oneCell') = true := by simp only [fcells, List.all_cons, List.all_nil, h, Bool.and_true]; rfl
theorem fcells_all {f : Fr} {v : Value} (h : v.oneCell' = true) : ∀ a ∈ fcells f v, a.oneCell' = true := fun a ha => List.all_eq_true.1 (fcells_one (f := f) h) a (by simpa using ha)
theorem any_not_all (l : List Int) : (l.any fun n => !inb n 0 Huge) = !(l.all fun n => inb n 0 Huge) := by induction l with
  | nil => rfl
  | cons a l ih => simp [ih, Bool.not_and]

theorem in_spec (n lo hi : Int) (w : World) : Ca Try.prog 48 #[.int .i64 n, .int .i64 lo, .int .i64 hi] w (fun v w' => v = .bool (inb n lo hi) ∧ w' = w) := by
  refine Ca.of Try.func48 Try.ntmps48 rfl rfl ?_
  refine W.seq ?_
  refine W.region ?_
  refine WL.c rfl (o_as ?_)
  refine WL.nil ?_
  refine W.seq ?_
  refine W.region ?_
  refine WL.c rfl (o_mv ?_)
  refine WL.c rfl (o_mv ?_)
  refine WL.c rfl (o_le rfl rfl ?_)
  refine WL.c rfl (o_mv ?_)
  refine WL.sp 3 rfl (fun g10 => ?_) (fun g10 => ?_)
  · skip
    refine WL.g rfl (g10) rfl (o_mv ?_)
    refine WL.g rfl (g10) rfl (o_mv ?_)
    refine WL.g rfl (g10) rfl (o_le rfl rfl ?_)
    refine WL.c rfl (o_pickA rfl rfl ?_)
    refine WL.c rfl (o_as ?_)
    refine WL.nil ?_
    refine W.ret ?_
    refine ret1v rfl (show _ = Value.bool _ from rfl) ?_
    exact ⟨congrArg Value.bool (by rw [Bool.eq_iff_iff]; simp_all [inb] <;> omega), rfl⟩
  · skip
    refine WL.s rfl (g10) rfl ?_
    refine WL.s rfl (g10) rfl ?_
    refine WL.s rfl (g10) rfl ?_
    refine WL.c rfl (o_pickF rfl (g10) ?_)
    refine WL.c rfl (o_as ?_)
    refine WL.nil ?_
    refine W.ret ?_
    refine ret1v rfl (show _ = Value.bool _ from rfl) ?_
    exact ⟨congrArg Value.bool (by rw [Bool.eq_iff_iff]; simp_all [inb] <;> omega), rfl⟩
theorem whole1_spec (n : Int) (w : World) : Ca Try.prog 53 #[.int .i64 n] w (fun v w' => v = .bool (!inb n 0 Huge) ∧ w' = w) := by
  refine Ca.of Try.func53 Try.ntmps53 rfl rfl ?_
  refine W.seq ?_
  refine W.region ?_
  refine WL.c rfl (o_as ?_)
  refine WL.nil ?_
  refine W.seq ?_
  refine W.region ?_
  refine WL.c rfl (o_mv ?_)
  refine WL.c rfl (o_call Try.call48 (lc rfl (lc rfl (lc rfl ln))) ((in_spec n 0 Huge _).mono ?_))
  rintro v4 w4 ⟨rfl, rfl⟩
  refine WL.c rfl (o_not' rfl ?_)
  refine WL.c rfl (o_as ?_)
  refine WL.nil ?_
  refine W.ret ?_
  refine ret1v rfl (show _ = Value.bool _ from rfl) ?_
  exact ⟨rfl, rfl⟩
theorem indexf_spec (l : List Int) (v : Value) (w0 : World) (hl : l.length ≤ maxLen) (hS : In w0 v l) : Ca Try.prog 71 #[v, .func (.func 53) #[] #[]] w0 (fun v w' => (∃ r : Int, v = .int .i64 r ∧ (0 ≤ r ↔ (l.any fun n => !inb n 0 Huge) = true)) ∧ w' = w0) := by
  rw [maxLen_eq] at hl
  refine Ca.of Try.func71 Try.ntmps71 rfl rfl ?_
  refine W.seq ?_
  refine W.region ?_
  refine WL.c rfl (o_as ?_)
  refine WL.nil ?_
  refine W.seq ?_
  refine W.seq ?_
  refine W.region ?_
  refine WL.c rfl (o_mv ?_)
  refine WL.c rfl (o_lenR TI37 rfl hS ?_)
  refine WL.c rfl (o_mv ?_)
  refine WL.nil ?_
  refine W.block ?_
  refine W.loop (fun e w => ∃ k : Nat, k ≤ l.length ∧ e 0 = v ∧ e 1 = .func (.func 53) #[] #[] ∧ e 7 = .int .i64 (l.length : Int) ∧ e 8 = .int .i64 (k : Int) ∧ (l.any fun n => !inb n 0 Huge) = ((l.drop k).any fun n => !inb n 0 Huge) ∧ w = w0) (fun e w => l.length - (intOf (e 8)).toNat) ?_ ?_
  · exact ⟨0, Nat.zero_le _, rfl, rfl, rfl, rfl, rfl, rfl⟩
  rintro e w ⟨k, hk, h0, h1, h7, h8, hg, rfl⟩
  have hm8 := h8
  refine W.seq ?_
  refine W.region ?_
  refine WL.c rfl (o_lt h8 h7 ?_)
  refine WL.nil ?_
  refine W.seq ?_
  refine W.cond rfl (fun c9 => ?_) (fun c9 => ?_)
  · try simp only [decide_eq_true_eq, decide_eq_false_iff_not, Bool.not_eq_true', Bool.not_eq_false', Bool.and_eq_true, Bool.or_eq_true, Bool.and_eq_false_iff, Bool.or_eq_false_iff] at c9
    refine W.skip ?_
    refine W.seq ?_
    refine W.block ?_
    refine W.seq ?_
    refine W.region ?_
    refine WL.c rfl (o_mvh h8 ?_)
    refine WL.c rfl (o_as ?_)
    refine WL.nil ?_
    refine W.seq ?_
    have hk1 : k < l.length := by omega
    refine W.region ?_
    refine WL.c rfl (o_mvh h1 ?_)
    refine WL.c rfl (o_mvh h0 ?_)
    refine WL.c rfl (o_mv ?_)
    refine WL.c rfl (o_ix1 TI37 TI3 rfl rfl hS (by omega) ?_)
    intro b14 o14 hc14 hb14
    refine WL.c rfl (o_ld TI3 rfl rfl (hc14.trans (getint hk1)) ?_)
    refine WL.c rfl (o_callF (show _ = Value.func (.func 53) #[] #[] from rfl) Try.call53 (lc rfl ln) ((whole1_spec l[k] _).mono ?_))
    rintro v16 w16 ⟨rfl, rfl⟩
    refine WL.nil ?_
    refine W.cond rfl (fun c16 => ?_) (fun c16 => ?_)
    · try simp only [decide_eq_true_eq, decide_eq_false_iff_not, Bool.not_eq_true', Bool.not_eq_false', Bool.and_eq_true, Bool.or_eq_true, Bool.and_eq_false_iff, Bool.or_eq_false_iff] at c16
      refine W.seq ?_
      refine W.region ?_
      refine WL.c rfl (o_mv ?_)
      refine WL.c rfl (o_as ?_)
      refine WL.nil ?_
      refine W.ret ?_
      refine ret1v rfl (show _ = Value.int _ _ from rfl) ?_
      exact ⟨⟨_, rfl, by rw [hg, all_drop hk1, c16]; simp⟩, rfl⟩
    · try simp only [decide_eq_true_eq, decide_eq_false_iff_not, Bool.not_eq_true', Bool.not_eq_false', Bool.and_eq_true, Bool.or_eq_true, Bool.and_eq_false_iff, Bool.or_eq_false_iff] at c16
      refine W.skip ?_
      refine W.region ?_
      refine WL.c rfl (o_addi h8 rfl (by omega) ?_)
      refine WL.c rfl (o_mv ?_)
      refine WL.nil ?_
      refine ⟨⟨k + 1, by omega, h0, h1, h7, rfl, ?_, rfl⟩, ?_⟩
      · rw [hg, all_drop hk1, c16]; simp
      · show l.length - ((k : Int) + 1).toNat < _
        rw [hm8]; simp [intOf]; omega
  · try simp only [decide_eq_true_eq, decide_eq_false_iff_not, Bool.not_eq_true', Bool.not_eq_false', Bool.and_eq_true, Bool.or_eq_true, Bool.and_eq_false_iff, Bool.or_eq_false_iff] at c9
    refine W.exit ?_
    refine W.seq ?_
    refine W.region ?_
    refine WL.c rfl (o_as ?_)
    refine WL.nil ?_
    refine W.ret ?_
    refine ret1v rfl (show _ = Value.int _ _ from rfl) ?_
    have hkl : k = l.length := by omega
    subst hkl
    rw [List.drop_length] at hg
    exact ⟨⟨_, rfl, by rw [hg]; simp⟩, rfl⟩
theorem contf_spec (l : List Int) (v : Value) (w0 : World) (hl : l.length ≤ maxLen) (hS : In w0 v l) : Ca Try.prog 52 #[v, .func (.func 53) #[] #[]] w0 (fun v w' => v = .bool (l.any fun n => !inb n 0 Huge) ∧ w' = w0) := by
  refine Ca.of Try.func52 Try.ntmps52 rfl rfl ?_
  refine W.seq ?_
  refine W.region ?_
  refine WL.c rfl (o_as ?_)
  refine WL.nil ?_
  refine W.seq ?_
  refine W.region ?_
  refine WL.c rfl (o_mv ?_)
  refine WL.c rfl (o_mv ?_)
  refine WL.c rfl (o_call Try.call71 (lc rfl (lc rfl ln)) ((indexf_spec l v _ hl hS).mono ?_))
  rintro v7 w7 ⟨⟨r, rfl, hr⟩, rfl⟩
  refine WL.c rfl (o_ge rfl rfl ?_)
  refine WL.c rfl (o_as ?_)
  refine WL.nil ?_
  refine W.ret ?_
  refine ret1v rfl (show _ = Value.bool _ from rfl) ?_
  exact ⟨congrArg Value.bool (by rw [Bool.eq_iff_iff, ← hr]; simp), rfl⟩
theorem right_spec (f : Fr) (tv : Value) (w0 : World) : Ca Try.prog 47 #[.agg (fcells f tv).toArray] w0 (fun v w' => v = .bool (fright f) ∧ Ext w0 w') := by
  refine Ca.of Try.func47 Try.ntmps47 rfl rfl ?_
  refine W.seq ?_
  refine W.region ?_
  refine WL.c rfl (o_boxB rfl ?_)
  intro w1 hC1 hx1 hs1
  replace hC1 : w1.heap[w0.heap.size]? = some (.cells (fcells f tv).toArray 39 (0, 0)) := hC1
  refine WL.c rfl (o_as ?_)
  refine WL.nil ?_
  refine W.seq ?_
  refine W.region ?_
  refine WL.c rfl (o_fa 0 TI39 rfl TI3 rfl rfl ?_)
  refine WL.c rfl (o_ld TI3 rfl rfl (cell_of hC1 rfl) ?_)
  refine WL.c rfl (o_call Try.call48 (lc rfl (lc rfl (lc rfl ln))) ((in_spec f.rt 0 Huge _).mono ?_))
  rintro v5 w5 ⟨rfl, rfl⟩
  refine WL.c rfl (o_mv ?_)
  refine WL.sp 3 rfl (fun g6 => ?_) (fun g6 => ?_)
  · skip
    refine WL.g rfl (g6) rfl (o_fa 1 TI39 rfl TI3 rfl rfl ?_)
    refine WL.g rfl (g6) rfl (o_ld TI3 rfl rfl (cell_of hC1 rfl) ?_)
    refine WL.g rfl (g6) rfl (o_call Try.call48 (lc rfl (lc rfl (lc rfl ln))) ((in_spec f.pl 0 Huge _).mono ?_))
    rintro v9 w9 ⟨rfl, rfl⟩
    refine WL.c rfl (o_pickA rfl rfl ?_)
    refine WL.c rfl (o_mv ?_)
    refine WL.sp 8 rfl (fun g11 => ?_) (fun g11 => ?_)
    · skip
      refine WL.g rfl (g11) rfl (o_fa 2 TI39 rfl TI3 rfl rfl ?_)
      refine WL.g rfl (g11) rfl (o_ld TI3 rfl rfl (cell_of hC1 rfl) ?_)
      refine WL.g rfl (g11) rfl (o_call Try.call48 (lc rfl (lc rfl (lc rfl ln))) ((in_spec f.bs 0 Huge _).mono ?_))
      rintro v14 w14 ⟨rfl, rfl⟩
      refine WL.c rfl (o_pickA rfl rfl ?_)
      refine WL.c rfl (o_mv ?_)
      refine WL.sp 13 rfl (fun g16 => ?_) (fun g16 => ?_)
      · skip
        refine WL.g rfl (g16) rfl (o_fa 5 TI39 rfl TI3 rfl rfl ?_)
        refine WL.g rfl (g16) rfl (o_ld TI3 rfl rfl (cell_of hC1 rfl) ?_)
        refine WL.g rfl (g16) rfl (o_call Try.call48 (lc rfl (lc rfl (lc rfl ln))) ((in_spec f.nx 0 Huge _).mono ?_))
        rintro v19 w19 ⟨rfl, rfl⟩
        refine WL.c rfl (o_pickA rfl rfl ?_)
        refine WL.c rfl (o_mv ?_)
        refine WL.sp 18 rfl (fun g21 => ?_) (fun g21 => ?_)
        · skip
          refine WL.g rfl (g21) rfl (o_fa 3 TI39 rfl TI3 rfl rfl ?_)
          refine WL.g rfl (g21) rfl (o_ld TI3 rfl rfl (cell_of hC1 rfl) ?_)
          refine WL.g rfl (g21) rfl (o_call Try.call48 (lc rfl (lc rfl (lc rfl ln))) ((in_spec f.en (-1) Huge _).mono ?_))
          rintro v24 w24 ⟨rfl, rfl⟩
          refine WL.c rfl (o_pickA rfl rfl ?_)
          refine WL.c rfl (o_mv ?_)
          refine WL.sp 23 rfl (fun g26 => ?_) (fun g26 => ?_)
          · skip
            refine WL.g rfl (g26) rfl (o_fa 4 TI39 rfl TI3 rfl rfl ?_)
            refine WL.g rfl (g26) rfl (o_ld TI3 rfl rfl (cell_of hC1 rfl) ?_)
            refine WL.g rfl (g26) rfl (o_call Try.call48 (lc rfl (lc rfl (lc rfl ln))) ((in_spec f.nd (-1) Huge _).mono ?_))
            rintro v29 w29 ⟨rfl, rfl⟩
            refine WL.c rfl (o_pickA rfl rfl ?_)
            refine WL.c rfl (o_as ?_)
            refine WL.nil ?_
            refine W.ret ?_
            refine ret1v rfl (show _ = Value.bool _ from rfl) ?_
            exact ⟨congrArg Value.bool (by simp_all [fright]), hx1⟩
          · skip
            refine WL.s rfl (g26) rfl ?_
            refine WL.s rfl (g26) rfl ?_
            refine WL.s rfl (g26) rfl ?_
            refine WL.c rfl (o_pickF rfl (g26) ?_)
            refine WL.c rfl (o_as ?_)
            refine WL.nil ?_
            refine W.ret ?_
            refine ret1v rfl (show _ = Value.bool _ from rfl) ?_
            exact ⟨congrArg Value.bool (by simp_all [fright]), hx1⟩
        · skip
          refine WL.s rfl (g21) rfl ?_
          refine WL.s rfl (g21) rfl ?_
          refine WL.s rfl (g21) rfl ?_
          refine WL.c rfl (o_pickF rfl (g21) ?_)
          refine WL.c rfl (o_mv ?_)
          refine WL.s rfl (rfl) rfl ?_
          refine WL.s rfl (rfl) rfl ?_
          refine WL.s rfl (rfl) rfl ?_
          refine WL.c rfl (o_pickF rfl (rfl) ?_)
          refine WL.c rfl (o_as ?_)
          refine WL.nil ?_
          refine W.ret ?_
          refine ret1v rfl (show _ = Value.bool _ from rfl) ?_
          exact ⟨congrArg Value.bool (by simp_all [fright]), hx1⟩
      · skip
        refine WL.s rfl (g16) rfl ?_
        refine WL.s rfl (g16) rfl ?_
        refine WL.s rfl (g16) rfl ?_
        refine WL.c rfl (o_pickF rfl (g16) ?_)
        refine WL.c rfl (o_mv ?_)
        refine WL.s rfl (rfl) rfl ?_
        refine WL.s rfl (rfl) rfl ?_
        refine WL.s rfl (rfl) rfl ?_
        refine WL.c rfl (o_pickF rfl (rfl) ?_)
        refine WL.c rfl (o_mv ?_)
        refine WL.s rfl (rfl) rfl ?_
        refine WL.s rfl (rfl) rfl ?_
        refine WL.s rfl (rfl) rfl ?_
        refine WL.c rfl (o_pickF rfl (rfl) ?_)
        refine WL.c rfl (o_as ?_)
        refine WL.nil ?_
        refine W.ret ?_
        refine ret1v rfl (show _ = Value.bool _ from rfl) ?_
        exact ⟨congrArg Value.bool (by simp_all [fright]), hx1⟩
    · skip
      refine WL.s rfl (g11) rfl ?_
      refine WL.s rfl (g11) rfl ?_
      refine WL.s rfl (g11) rfl ?_
      refine WL.c rfl (o_pickF rfl (g11) ?_)
      refine WL.c rfl (o_mv ?_)
      refine WL.s rfl (rfl) rfl ?_
      refine WL.s rfl (rfl) rfl ?_
      refine WL.s rfl (rfl) rfl ?_
      refine WL.c rfl (o_pickF rfl (rfl) ?_)
      refine WL.c rfl (o_mv ?_)
      refine WL.s rfl (rfl) rfl ?_
      refine WL.s rfl (rfl) rfl ?_
      refine WL.s rfl (rfl) rfl ?_
      refine WL.c rfl (o_pickF rfl (rfl) ?_)
      refine WL.c rfl (o_mv ?_)
      refine WL.s rfl (rfl) rfl ?_
      refine WL.s rfl (rfl) rfl ?_
      refine WL.s rfl (rfl) rfl ?_
      refine WL.c rfl (o_pickF rfl (rfl) ?_)
      refine WL.c rfl (o_as ?_)
      refine WL.nil ?_
      refine W.ret ?_
      refine ret1v rfl (show _ = Value.bool _ from rfl) ?_
      exact ⟨congrArg Value.bool (by simp_all [fright]), hx1⟩
  · skip
    refine WL.s rfl (g6) rfl ?_
    refine WL.s rfl (g6) rfl ?_
    refine WL.s rfl (g6) rfl ?_
    refine WL.c rfl (o_pickF rfl (g6) ?_)
    refine WL.c rfl (o_mv ?_)
    refine WL.s rfl (rfl) rfl ?_
    refine WL.s rfl (rfl) rfl ?_
    refine WL.s rfl (rfl) rfl ?_
    refine WL.c rfl (o_pickF rfl (rfl) ?_)
    refine WL.c rfl (o_mv ?_)
    refine WL.s rfl (rfl) rfl ?_
    refine WL.s rfl (rfl) rfl ?_
    refine WL.s rfl (rfl) rfl ?_
    refine WL.c rfl (o_pickF rfl (rfl) ?_)
    refine WL.c rfl (o_mv ?_)
    refine WL.s rfl (rfl) rfl ?_
    refine WL.s rfl (rfl) rfl ?_
    refine WL.s rfl (rfl) rfl ?_
    refine WL.c rfl (o_pickF rfl (rfl) ?_)
    refine WL.c rfl (o_mv ?_)
    refine WL.s rfl (rfl) rfl ?_
    refine WL.s rfl (rfl) rfl ?_
    refine WL.s rfl (rfl) rfl ?_
    refine WL.c rfl (o_pickF rfl (rfl) ?_)
    refine WL.c rfl (o_as ?_)
    refine WL.nil ?_
    refine W.ret ?_
    refine ret1v rfl (show _ = Value.bool _ from rfl) ?_
    exact ⟨congrArg Value.bool (by simp_all [fright]), hx1⟩
theorem whole_spec (f : Fr) (tv : Value) (w0 : World) (hS : In w0 tv f.tab) (hl : f.tab.length ≤ maxLen) : Ca Try.prog 36 #[.agg (fcells f tv).toArray] w0 (fun v w' => v = .bool (fwhole f) ∧ Ext w0 w') := by
  refine Ca.of Try.func36 Try.ntmps36 rfl rfl ?_
  refine W.seq ?_
  refine W.region ?_
  refine WL.c rfl (o_boxB rfl ?_)
  intro w1 hC1 hx1 hs1
  replace hC1 : w1.heap[w0.heap.size]? = some (.cells (fcells f tv).toArray 39 (0, 0)) := hC1
  refine WL.c rfl (o_as ?_)
  refine WL.nil ?_
  refine W.seq ?_
  refine W.region ?_
  refine WL.c rfl (o_ldA TI39 rfl rfl (show Cells w1 w0.heap.size 0 (fcells f tv) from Cells.of hC1 0 _ (by simp)) rfl ?_)
  refine WL.c rfl (o_call Try.call47 (lc rfl ln) ((right_spec f tv _).mono ?_))
  rintro v4 w4 ⟨rfl, hx4⟩
  refine WL.c rfl (o_mv ?_)
  refine WL.sp 2 rfl (fun g5 => ?_) (fun g5 => ?_)
  · skip
    refine WL.g rfl (g5) rfl (o_fa 6 TI39 rfl TI37 rfl rfl ?_)
    refine WL.g rfl (g5) rfl (o_ld TI37 rfl rfl (cell_of (hx4.blk hC1 (fun h => h)) rfl) ?_)
    refine WL.g rfl (g5) rfl (o_lenR TI37 rfl (hS.ext (hx1.tr hx4)) ?_)
    refine WL.g rfl (g5) rfl (o_le rfl rfl ?_)
    refine WL.c rfl (o_pickA rfl rfl ?_)
    refine WL.c rfl (o_mv ?_)
    refine WL.sp 8 rfl (fun g11 => ?_) (fun g11 => ?_)
    · skip
      refine WL.g rfl (g11) rfl (o_fa 6 TI39 rfl TI37 rfl rfl ?_)
      refine WL.g rfl (g11) rfl (o_ld TI37 rfl rfl (cell_of (hx4.blk hC1 (fun h => h)) rfl) ?_)
      refine WL.g rfl (g11) rfl (o_call Try.call52 (lc rfl (lc rfl ln)) ((contf_spec f.tab tv _ hl (hS.ext (hx1.tr hx4))).mono ?_))
      rintro v14 w14 ⟨rfl, rfl⟩
      refine WL.g rfl (g11) rfl (o_not' rfl ?_)
      refine WL.c rfl (o_pickA rfl rfl ?_)
      refine WL.c rfl (o_as ?_)
      refine WL.nil ?_
      refine W.ret ?_
      refine ret1v rfl (show _ = Value.bool _ from rfl) ?_
      exact ⟨congrArg Value.bool (by rw [Bool.eq_iff_iff]; simp_all [fwhole, tright, any_not_all] <;> omega), hx1.tr hx4⟩
    · skip
      refine WL.s rfl (g11) rfl ?_
      refine WL.s rfl (g11) rfl ?_
      refine WL.s rfl (g11) rfl ?_
      refine WL.s rfl (g11) rfl ?_
      refine WL.c rfl (o_pickF rfl (g11) ?_)
      refine WL.c rfl (o_as ?_)
      refine WL.nil ?_
      refine W.ret ?_
      refine ret1v rfl (show _ = Value.bool _ from rfl) ?_
      exact ⟨congrArg Value.bool (by rw [Bool.eq_iff_iff]; simp_all [fwhole, tright, any_not_all] <;> omega), hx1.tr hx4⟩
  · skip
    refine WL.s rfl (g5) rfl ?_
    refine WL.s rfl (g5) rfl ?_
    refine WL.s rfl (g5) rfl ?_
    refine WL.s rfl (g5) rfl ?_
    refine WL.c rfl (o_pickF rfl (g5) ?_)
    refine WL.c rfl (o_mv ?_)
    refine WL.s rfl (rfl) rfl ?_
    refine WL.s rfl (rfl) rfl ?_
    refine WL.s rfl (rfl) rfl ?_
    refine WL.s rfl (rfl) rfl ?_
    refine WL.c rfl (o_pickF rfl (rfl) ?_)
    refine WL.c rfl (o_as ?_)
    refine WL.nil ?_
    refine W.ret ?_
    refine ret1v rfl (show _ = Value.bool _ from rfl) ?_
    exact ⟨congrArg Value.bool (by rw [Bool.eq_iff_iff]; simp_all [fwhole, tright, any_not_all] <;> omega), hx1.tr hx4⟩
theorem own_spec (f : Fr) (tv : Value) (w0 : World) (hS : In w0 tv f.tab) (hl : f.tab.length ≤ 16000000000000) : Ca Try.prog 37 #[.agg (fcells f tv).toArray] w0 (fun v w' => ∃ tv', v = .agg (fcells f tv').toArray ∧ w'.ownsRow w0.heap.size 3 1 tv' f.tab.length (ints f.tab) ∧ Ext w0 w') := by
  refine Ca.of Try.func37 Try.ntmps37 rfl rfl ?_
  refine W.seq ?_
  refine W.region ?_
  refine WL.c rfl (o_boxB rfl ?_)
  intro w1 hC1 hx1 hs1
  replace hC1 : w1.heap[w0.heap.size]? = some (.cells (fcells f tv).toArray 39 (0, 0)) := hC1
  refine WL.c rfl (o_alB TI39 ?_)
  intro w2 hC2 hx2 hs2
  have hC1b := hx2.blk hC1 (fun h => h)
  refine WL.nil ?_
  refine W.seq ?_
  refine W.region ?_
  refine WL.c rfl (o_fa 6 TI39 rfl TI37 rfl rfl ?_)
  refine WL.c rfl (o_ld TI37 rfl rfl (cell_of hC1b rfl) ?_)
  refine WL.c rfl (o_apO (w0.heap.size) TI37 TI3 (show _ = Value.slice _ _ _ from rfl) rfl (World.ownsRow_nil _ _ _ _) (hS.ext (hx1.tr hx2)) rfl (by decide) (one_ints _) (by rw [maxLen_eq]; omega) (by omega) ((hx1.tr hx2).size) ?_)
  intro v5 w5 hown5 ho5 hb5 hk5
  rw [Nat.zero_add, List.nil_append] at hown5
  have hx5 : Ext w2 w5 := ho5.mono (fun j _ h => by cases h)
  have hC1c := hx5.blk hC1b (fun h => h)
  have hC2c := hx5.blk hC2 (fun h => h)
  refine WL.c rfl (o_fa 6 TI39 rfl TI37 rfl rfl ?_)
  refine WL.u (o_stB TI37 rfl rfl (own_one hown5) hC1c (show _ < 7 by decide) ?_)
  intro w6 hB6 ho6 hs6
  replace hB6 : w6.heap[w0.heap.size]? = some (.cells (fcells f v5).toArray 39 (0, 0)) := hB6
  have hC2d := ho6.blk hC2c (by show ¬ w1.heap.size = w0.heap.size; omega)
  have hown6 := own_only hown5 ho6 (fun k hk he => by have := own_off hown5 hC1c (by decide); rw [he] at hk; exact this hk)
  refine WL.nil ?_
  refine W.seq ?_
  refine W.region ?_
  refine WL.c rfl (o_ldA TI39 rfl rfl (show Cells w6 w0.heap.size 0 (fcells f v5) from Cells.of hB6 0 _ (by simp)) rfl ?_)
  refine WL.u (o_stA TI39 rfl rfl rfl (fcells_one (own_one hown5)) hC2d rfl ?_)
  intro w7 hB7 ho7 hs7
  have hown7 := own_only hown6 ho7 (fun k hk he => by have := own_off hown6 hC2d (by decide); rw [he] at hk; exact this hk)
  refine WL.nil ?_
  refine W.ret ?_
  refine retC rfl TI39 rfl rfl (show Cells w7 w1.heap.size 0 (fcells f v5) from Cells.of hB7 0 _ (by simp)) rfl ?_
  refine ⟨v5, rfl, hown7, ?_⟩
  exact (((hx1.tr hx2).tr hx5).trans' ho6 (fun _ h => h) (fun j hj he => by omega)).trans' ho7 (fun _ h => h) (fun j hj he => by omega)

/-- frames in a row: their tables' slices are V 0, V 1, .. -/
def frows (L : List Fr) (V : Nat → Value) : List Value := (List.range L.length).flatMap (fun j => fcells (L.getD j Fr.nil) (V j))
abbrev tabl (L : List Fr) (j : Nat) : List Int := (L.getD j Fr.nil).tab
theorem fm_congr {α β : Type} {f g : α → List β} : ∀ {l : List α}, (∀ a ∈ l, f a = g a) → l.flatMap f = l.flatMap g
  | [], _ => rfl
  | a :: l, h => by rw [List.flatMap_cons, List.flatMap_cons, h a (List.mem_cons_self ..), fm_congr (fun b hb => h b (List.mem_cons_of_mem _ hb))]
theorem flatMap_len {α : Type} {s : Nat} {c : α → List Value} (h : ∀ a, (c a).length = s) : ∀ l : List α, (l.flatMap c).length = l.length * s
  | [] => by simp
  | a :: l => by rw [List.flatMap_cons, List.length_append, flatMap_len h l, h, List.length_cons, Nat.add_mul]; omega
theorem frows_len (L : List Fr) (V : Nat → Value) : (frows L V).length = L.length * 7 := by unfold frows; rw [flatMap_len (s := 7) (fun _ => rfl), List.length_range]
theorem flat_at {α : Type} {s : Nat} {c : α → List Value} (h : ∀ a, (c a).length = s) : ∀ (l : List α) (k : Nat) (hk : k < l.length), ((l.flatMap c).drop (k * s)).take s = c l[k]
  | a :: l, 0, _ => by rw [Nat.zero_mul, List.drop_zero, List.flatMap_cons, List.take_left' (h a)]; rfl
  | a :: l, k + 1, hk => by
    have ih := flat_at h l k (by simpa using hk)
    rw [List.flatMap_cons, List.drop_append, List.drop_eq_nil_of_le (by rw [h, Nat.add_mul]; omega), h, List.nil_append, show (k + 1) * s - s = k * s by rw [Nat.add_mul]; omega, ih]
    rfl
theorem frows_at {L : List Fr} {V : Nat → Value} {k : Nat} (h : k < L.length) : ((frows L V).drop (k * 7)).take 7 = fcells (L.getD k Fr.nil) (V k) := by
  unfold frows
  rw [flat_at (s := 7) (fun _ => rfl) _ k (by simpa using h)]
  simp
theorem frows_congr {L : List Fr} {V V' : Nat → Value} (h : ∀ j, j < L.length → V' j = V j) : frows L V' = frows L V := by
  unfold frows
  refine fm_congr fun j hj => ?_
  rw [h j (List.mem_range.1 hj)]
theorem frows_snoc (L : List Fr) (f : Fr) (V : Nat → Value) (v : Value) : frows (L ++ [f]) (fun j => if j = L.length then v else V j) = frows L V ++ fcells f v := by
  unfold frows
  rw [List.length_append, List.length_singleton, List.range_succ, List.flatMap_append]
  congr 1
  · refine fm_congr fun j hj => ?_
    have := List.mem_range.1 hj
    simp only [show ¬ j = L.length by omega, if_false]
    rw [List.getD_eq_getElem?_getD, List.getD_eq_getElem?_getD, List.getElem?_append_left this]
  · simp
theorem frows_take {L : List Fr} {V : Nat → Value} {m : Nat} (h : m ≤ L.length) : (frows L V).take (m * 7) = frows (L.take m) V := by
  have key : ∀ (n : Nat), n ≤ L.length → frows (L.take n) V = (List.range n).flatMap (fun j => fcells (L.getD j Fr.nil) (V j)) := by
    intro n hn
    unfold frows
    rw [List.length_take, Nat.min_eq_left hn]
    refine fm_congr fun j hj => ?_
    have := List.mem_range.1 hj
    rw [List.getD_eq_getElem?_getD, List.getD_eq_getElem?_getD, List.getElem?_take, if_pos this]
  rw [key m h]
  have h2 : frows L V = (List.range m).flatMap (fun j => fcells (L.getD j Fr.nil) (V j)) ++ ((List.range (L.length - m)).map (m + ·)).flatMap (fun j => fcells (L.getD j Fr.nil) (V j)) := by
    unfold frows
    rw [← List.flatMap_append]
    congr 1
    rw [← List.range_add, Nat.add_sub_cancel' h]
  rw [h2, List.take_left' (by rw [flatMap_len (s := 7) (fun _ => rfl), List.length_range])]
theorem frows_set {L : List Fr} {V : Nat → Value} {k : Nat} {f : Fr} {v : Value} (h : k < L.length) : (frows L V).take (k * 7) ++ fcells f v ++ (frows L V).drop (k * 7 + 7) = frows (L.set k f) (fun j => if j = k then v else V j) := by
  have hl : (frows (L.set k f) (fun j => if j = k then v else V j)).length = L.length * 7 := by rw [frows_len, List.length_set]
  apply List.ext_getElem?
  intro i
  have hfl := frows_len L V
  have split7 : ∀ (M : List Fr) (U : Nat → Value), i < M.length * 7 → (frows M U)[i]? = (fcells (M.getD (i / 7) Fr.nil) (U (i / 7)))[i % 7]? := by
    intro M U hi
    have hk : i / 7 < M.length := by omega
    have h1 := congrArg (fun l : List Value => l[i % 7]?) (frows_at (V := U) hk)
    simp only [List.getElem?_take, List.getElem?_drop] at h1
    rw [if_pos (by omega), show i / 7 * 7 + i % 7 = i by omega] at h1
    exact h1
  by_cases hi : i < L.length * 7
  · rw [split7 (L.set k f) _ (by rw [List.length_set]; exact hi)]
    by_cases h1 : i < k * 7
    · rw [List.append_assoc, List.getElem?_append_left (by rw [List.length_take]; omega), List.getElem?_take, if_pos h1, split7 L V hi, if_neg (by omega), List.getD_eq_getElem?_getD, List.getD_eq_getElem?_getD, List.getElem?_set, if_neg (by omega)]
    · by_cases h2 : i < k * 7 + 7
      · rw [List.append_assoc, List.getElem?_append_right (by rw [List.length_take]; omega), List.getElem?_append_left (by rw [List.length_take]; simp [fcells]; omega), List.length_take, if_pos (by omega), List.getD_eq_getElem?_getD, List.getElem?_set, if_pos (by omega), if_pos h, Option.getD_some, Nat.min_eq_left (by omega), show i - k * 7 = i % 7 by omega]
      · rw [List.getElem?_append_right (by rw [List.length_append, List.length_take]; simp [fcells]; omega), List.getElem?_drop, List.length_append, List.length_take, Nat.min_eq_left (by omega)]
        rw [show k * 7 + 7 + (i - (k * 7 + (fcells f v).length)) = i by simp [fcells]; omega, split7 L V hi, if_neg (by omega), List.getD_eq_getElem?_getD, List.getD_eq_getElem?_getD, List.getElem?_set, if_neg (by omega)]
  · rw [List.getElem?_eq_none (by rw [List.length_append, List.length_append, List.length_take, List.length_drop]; simp [fcells]; omega), List.getElem?_eq_none (by omega)]
/-- frames in a row of our own, each table in a block of its own -/
structure Rows (w : World) (H : Nat) (L : List Fr) (lv : Value) (V : Nat → Value) : Prop where
  row : w.ownsRow H 39 7 lv L.length (frows L V)
  tabs : Many w H 3 1 L.length V (fun j => (tabl L j).length) (fun j => ints (tabl L j))
/-- the blocks that these frames lie in -/
def RF (lv : Value) (V : Nat → Value) (n : Nat) (k : Nat) : Prop := lv.ownBlock = some k ∨ ∃ j, j < n ∧ (V j).ownBlock = some k
theorem Rows.only {w w' : World} {H : Nat} {L : List Fr} {lv : Value} {V : Nat → Value} {F : Nat → Prop} (h : Rows w H L lv V) (ho : Only F w w') (hn : ∀ k, RF lv V L.length k → ¬ F k) : Rows w' H L lv V :=
  ⟨own_only h.row ho (fun k hk => hn k (.inl hk)), h.tabs.only ho (fun j hj k hk => hn k (.inr ⟨j, hj, hk⟩))⟩
theorem Rows.ext {w w' : World} {H : Nat} {L : List Fr} {lv : Value} {V : Nat → Value} (h : Rows w H L lv V) (ho : Ext w w') : Rows w' H L lv V := h.only ho (fun _ _ h => h)
theorem Rows.lt {w : World} {H : Nat} {L : List Fr} {lv : Value} {V : Nat → Value} (h : Rows w H L lv V) : ∀ k, RF lv V L.length k → H ≤ k ∧ k < w.heap.size := fun k hk => by
  rcases hk with hk | ⟨j, hj, hk⟩
  · exact h.row.lt k hk
  · exact h.tabs.lt hj hk
theorem Rows.nil (w : World) (H : Nat) (V : Nat → Value) : Rows w H [] (.slice none 0 0) V := ⟨World.ownsRow_nil _ _ _ _, Many.zero⟩
/-- the program's stack -/
structure Stk (w : World) (H p most high : Nat) (L : List Fr) (lv : Value) (V : Nat → Value) : Prop where
  cell : w.heap[p]? = some (.cells #[.int .i64 (most : Int), .int .i64 (high : Int), lv] 71 (0, 0))
  rows : Rows w H L lv V
  lo : H ≤ p
  mb : most ≤ 1048576
  len : L.length ≤ most
  tl : ∀ k, k < L.length → (tabl L k).length ≤ 1048576
def SF (p : Nat) (lv : Value) (V : Nat → Value) (n k : Nat) : Prop := k = p ∨ RF lv V n k
theorem Stk.p_off {w : World} {H p : Nat} {most high : Nat} {L : List Fr} {lv : Value} {V : Nat → Value} (h : Stk w H p most high L lv V) : ¬ RF lv V L.length p := by
  rintro (hk | ⟨j, hj, hk⟩)
  · exact own_off h.rows.row h.cell (by decide) hk
  · exact own_off (h.rows.tabs.row j hj) h.cell (by decide) hk
theorem Stk.only {w w' : World} {H p : Nat} {most high : Nat} {L : List Fr} {lv : Value} {V : Nat → Value} {F : Nat → Prop} (h : Stk w H p most high L lv V) (ho : Only F w w') (hn : ∀ k, SF p lv V L.length k → ¬ F k) : Stk w' H p most high L lv V :=
  ⟨ho.blk h.cell (hn p (.inl rfl)), h.rows.only ho (fun k hk => hn k (.inr hk)), h.lo, h.mb, h.len, h.tl⟩
theorem Stk.ext {w w' : World} {H p : Nat} {most high : Nat} {L : List Fr} {lv : Value} {V : Nat → Value} (h : Stk w H p most high L lv V) (ho : Ext w w') : Stk w' H p most high L lv V := h.only ho (fun _ _ h => h)
theorem Stk.lt {w : World} {H p : Nat} {most high : Nat} {L : List Fr} {lv : Value} {V : Nat → Value} (h : Stk w H p most high L lv V) : ∀ k, SF p lv V L.length k → H ≤ k ∧ k < w.heap.size := fun k hk => by
  rcases hk with rfl | hk
  · exact ⟨h.lo, (Array.getElem?_eq_some_iff.1 h.cell).1⟩
  · exact h.rows.lt k hk
/-- where the last frame lies -/
def lastP (lv : Value) (n : Nat) : Option Addr := match lv with
  | .slice (some ⟨g, _, _⟩) _ _ => if n = 0 then none else some ⟨g, (n - 1) * 7, none⟩
  | _ => none
theorem Rows.at {w : World} {H : Nat} {L : List Fr} {lv : Value} {V : Nat → Value} (h : Rows w H L lv V) {k : Nat} (hk : k < L.length) : ∃ g cap, lv = .slice (some ⟨g, 0, none⟩) L.length cap ∧ lv.ownBlock = some g ∧ Cells w g (k * 7) (fcells (L.getD k Fr.nil) (V k)) := by
  obtain ⟨g, cap, hv, hb⟩ := own_some h.row (by omega)
  have h1 := h.row
  rw [hv] at h1
  have := own_cellsAt h1 k
  rw [frows_at hk, Nat.zero_add] at this
  exact ⟨g, cap, hv, hb, this⟩
theorem Rows.tab {w : World} {H : Nat} {L : List Fr} {lv : Value} {V : Nat → Value} (h : Rows w H L lv V) {k : Nat} (hk : k < L.length) : In w (V k) (tabl L k) := Sl.own (h.tabs.row k hk)

theorem new_spec (m : Int) (w0 : World) : Ca Try.prog 27 #[.int .i64 m] w0 (fun v w' => (inb m 1 1048576 = true → v = .tuple #[.pointer (some ⟨w0.heap.size, 0, none⟩), .int .i64 0] ∧ Stk w' w0.heap.size w0.heap.size m.toNat 0 [] (.slice none 0 0) (fun _ => undef)) ∧ (inb m 1 1048576 = false → v = .tuple #[.pointer none, .int .i64 3]) ∧ Ext w0 w') := by
  refine Ca.of Try.func27 Try.ntmps27 rfl rfl ?_
  refine W.seq ?_
  refine W.region ?_
  refine WL.c rfl (o_as ?_)
  refine WL.c rfl (o_as ?_)
  refine WL.nil ?_
  refine W.seq ?_
  refine W.seq ?_
  refine W.region ?_
  refine WL.c rfl (o_mv ?_)
  refine WL.c rfl (o_call Try.call48 (lc rfl (lc rfl (lc rfl ln))) ((in_spec m 1 1048576 _).mono ?_))
  rintro v5 w5 ⟨rfl, rfl⟩
  refine WL.c rfl (o_not' rfl ?_)
  refine WL.nil ?_
  refine W.cond rfl (fun c6 => ?_) (fun c6 => ?_)
  · try simp only [decide_eq_true_eq, decide_eq_false_iff_not, Bool.not_eq_true', Bool.not_eq_false', Bool.and_eq_true, Bool.or_eq_true, Bool.and_eq_false_iff, Bool.or_eq_false_iff] at c6
    refine W.seq ?_
    refine W.region ?_
    refine WL.c rfl (o_as ?_)
    refine WL.c rfl (o_as ?_)
    refine WL.nil ?_
    refine W.ret ?_
    refine ret2v rfl (show _ = Value.pointer _ from rfl) (show _ = Value.int _ _ from rfl) ?_
    exact ⟨fun h => (by rw [h] at c6; cases c6), fun _ => rfl, Only.refl _ _⟩
  · try simp only [decide_eq_true_eq, decide_eq_false_iff_not, Bool.not_eq_true', Bool.not_eq_false', Bool.and_eq_true, Bool.or_eq_true, Bool.and_eq_false_iff, Bool.or_eq_false_iff] at c6
    refine W.skip ?_
    refine W.seq ?_
    refine W.region ?_
    refine WL.c rfl (o_mv ?_)
    refine WL.c rfl (o_bldC (cs := [_, (.int .i64 0), (.slice none 0 0)]) TI71 (Sizes.cons TI3 (Sizes.cons TI3 (Sizes.cons TI22 Sizes.nil))) rfl (lcp (show _ = Value.int _ _ from rfl) lnp) rfl rfl ?_)
    refine WL.c rfl (o_boxB rfl ?_)
    intro w9 hC9 hx9 hs9
    refine WL.c rfl (o_as ?_)
    refine WL.c rfl (o_as ?_)
    refine WL.nil ?_
    refine W.ret ?_
    refine ret2v rfl (show _ = Value.pointer _ from rfl) (show _ = Value.int _ _ from rfl) ?_
    exact ⟨fun hi => ⟨rfl, ⟨by rw [Int.toNat_of_nonneg (by simp [inb] at hi; omega)]; exact hC9, Rows.nil _ _ _, Nat.le_refl _, by simp [inb] at hi; omega, by simp, by simp⟩⟩, fun h => (by rw [h] at c6; cases c6), hx9⟩
theorem last_spec (H p most high : Nat) (L : List Fr) (lv : Value) (V : Nat → Value) (w0 : World) (h : Stk w0 H p most high L lv V) : Ca Try.prog 34 #[.pointer (some ⟨p, 0, none⟩)] w0 (fun v w' => v = .pointer (lastP lv L.length) ∧ ∃ m, w' = w0.drewN m) := by
  have hcell := h.cell
  have hlen := h.len
  have hmb := h.mb
  have hS := Sl.own h.rows.row
  refine Ca.of Try.func34 Try.ntmps34 rfl rfl ?_
  refine W.seq ?_
  refine W.region ?_
  refine WL.c rfl (o_as ?_)
  refine WL.nil ?_
  refine W.seq ?_
  refine W.seq ?_
  refine W.region ?_
  refine WL.c rfl (o_mv ?_)
  refine WL.c rfl (o_nil rfl ?_)
  refine WL.c rfl (o_fa 2 TI71 rfl TI22 rfl rfl ?_)
  refine WL.c rfl (o_ld TI22 rfl rfl (cell_of hcell rfl) ?_)
  refine WL.c rfl (o_lenR TI22 rfl hS ?_)
  refine WL.c rfl (o_eq rfl rfl ?_)
  refine WL.nil ?_
  refine W.cond rfl (fun c8 => ?_) (fun c8 => ?_)
  · try simp only [decide_eq_true_eq, decide_eq_false_iff_not, Bool.not_eq_true', Bool.not_eq_false', Bool.and_eq_true, Bool.or_eq_true, Bool.and_eq_false_iff, Bool.or_eq_false_iff] at c8
    refine W.seq ?_
    refine W.region ?_
    refine WL.c rfl (o_as ?_)
    refine WL.nil ?_
    refine W.ret ?_
    refine ret1v rfl (show _ = Value.pointer _ from rfl) ?_
    refine ⟨?_, 0, rfl⟩
    have h0 : L.length = 0 := by omega
    have : lastP lv L.length = none := by unfold lastP; split <;> simp [h0]
    rw [this]
  · try simp only [decide_eq_true_eq, decide_eq_false_iff_not, Bool.not_eq_true', Bool.not_eq_false', Bool.and_eq_true, Bool.or_eq_true, Bool.and_eq_false_iff, Bool.or_eq_false_iff] at c8
    obtain ⟨g, cap, rfl, hb, hcs⟩ := h.rows.at (k := L.length - 1) (by omega)
    refine W.skip ?_
    refine W.seq ?_
    refine W.quiet rfl (by kernel_rfl) ?_
    refine WQ.c rfl ((QO.o rfl fun _ => o_mv ⟨rfl, rfl⟩)) ?_
    refine WQ.c rfl ((QO.r fun _ => r_nil rfl)) ?_
    refine WQ.c rfl ((QO.o rfl fun _ => o_fa 2 TI71 rfl TI22 rfl rfl ⟨rfl, rfl⟩)) ?_
    refine WQ.c rfl ((QO.o rfl fun _ => o_ld TI22 rfl rfl (cell_of hcell rfl) ⟨rfl, rfl⟩)) ?_
    refine WQ.c rfl ((QO.o rfl fun _ => o_mv ⟨rfl, rfl⟩)) ?_
    refine WQ.c rfl ((QO.r fun _ => r_nil rfl)) ?_
    refine WQ.c rfl ((QO.o rfl fun _ => o_fa 2 TI71 rfl TI22 rfl rfl ⟨rfl, rfl⟩)) ?_
    refine WQ.c rfl ((QO.o rfl fun _ => o_ld TI22 rfl rfl (cell_of hcell rfl) ⟨rfl, rfl⟩)) ?_
    refine WQ.c rfl ((QO.r fun _ => r_len TI22 rfl)) ?_
    refine WQ.c rfl ((QO.o rfl fun _ => o_subi rfl rfl (by omega) ⟨rfl, rfl⟩)) ?_
    refine WQ.c rfl ((QO.o rfl fun _ => o_ixB (i := L.length - 1) TI22 TI39 rfl (by show Value.int _ ((L.length : Int) - 1) = _; congr 1; omega) (by omega) ⟨rfl, rfl⟩)) ?_
    refine WQ.c rfl ((QO.o rfl fun _ => o_as ⟨rfl, rfl⟩)) ?_
    refine WQ.nil ?_
    intro nq
    refine W.ret ?_
    refine ret1v rfl (show _ = Value.pointer _ from rfl) ?_
    refine ⟨?_, _, rfl⟩
    have : lastP (.slice (some ⟨g, 0, none⟩) L.length cap) L.length = some ⟨g, (L.length - 1) * 7, none⟩ := by unfold lastP; simp only []; rw [if_neg (by omega)]
    rw [this, Nat.zero_add]
theorem len_spec (H p most high : Nat) (L : List Fr) (lv : Value) (V : Nat → Value) (w0 : World) (h : Stk w0 H p most high L lv V) : Ca Try.prog 11 #[.pointer (some ⟨p, 0, none⟩)] w0 (fun v w' => v = .int .i64 (L.length : Int) ∧ w' = w0) := by
  have hcell := h.cell
  refine Ca.of Try.func11 Try.ntmps11 rfl rfl ?_
  refine W.seq ?_
  refine W.region ?_
  refine WL.c rfl (o_as ?_)
  refine WL.nil ?_
  refine W.seq ?_
  refine W.region ?_
  refine WL.c rfl (o_mv ?_)
  refine WL.c rfl (o_nil rfl ?_)
  refine WL.c rfl (o_fa 2 TI71 rfl TI22 rfl rfl ?_)
  refine WL.c rfl (o_ld TI22 rfl rfl (cell_of hcell rfl) ?_)
  refine WL.c rfl (o_lenR TI22 rfl (Sl.own h.rows.row) ?_)
  refine WL.c rfl (o_as ?_)
  refine WL.nil ?_
  refine W.ret ?_
  refine ret1v rfl (show _ = Value.int _ _ from rfl) ?_
  exact ⟨rfl, rfl⟩
theorem high_spec (H p most high : Nat) (L : List Fr) (lv : Value) (V : Nat → Value) (w0 : World) (h : Stk w0 H p most high L lv V) : Ca Try.prog 12 #[.pointer (some ⟨p, 0, none⟩)] w0 (fun v w' => v = .int .i64 (high : Int) ∧ w' = w0) := by
  have hcell := h.cell
  refine Ca.of Try.func12 Try.ntmps12 rfl rfl ?_
  refine W.seq ?_
  refine W.region ?_
  refine WL.c rfl (o_as ?_)
  refine WL.nil ?_
  refine W.seq ?_
  refine W.region ?_
  refine WL.c rfl (o_mv ?_)
  refine WL.c rfl (o_nil rfl ?_)
  refine WL.c rfl (o_fa 1 TI71 rfl TI3 rfl rfl ?_)
  refine WL.c rfl (o_ld TI3 rfl rfl (cell_of hcell rfl) ?_)
  refine WL.c rfl (o_as ?_)
  refine WL.nil ?_
  refine W.ret ?_
  refine ret1v rfl (show _ = Value.int _ _ from rfl) ?_
  exact ⟨rfl, rfl⟩
theorem slots_spec (H p most high : Nat) (L : List Fr) (lv : Value) (V : Nat → Value) (w0 : World) (h : Stk w0 H p most high L lv V) : Ca Try.prog 22 #[.pointer (some ⟨p, 0, none⟩)] w0 (fun v w' => v = .int .i64 ((tabl L (L.length - 1)).length : Int) ∧ Ext w0 w') := by
  refine Ca.of Try.func22 Try.ntmps22 rfl rfl ?_
  refine W.seq ?_
  refine W.region ?_
  refine WL.c rfl (o_as ?_)
  refine WL.nil ?_
  refine W.seq ?_
  refine W.region ?_
  refine WL.c rfl (o_mv ?_)
  refine WL.c rfl (o_call Try.call34 (lc rfl ln) ((last_spec H p most high L lv V _ h).mono ?_))
  rintro v5 w5 ⟨rfl, mq, rfl⟩
  replace h := h.ext (Only.drewN w0 mq)
  have hxq := Only.drewN w0 mq
  generalize w0.drewN mq = wq at *
  refine WL.c rfl (o_as ?_)
  refine WL.nil ?_
  refine W.seq ?_
  refine W.seq ?_
  rcases Nat.eq_zero_or_pos L.length with h0 | h0
  · skip
    have hl0 : lastP lv L.length = none := by unfold lastP; split <;> simp [h0]
    rw [hl0]
    refine W.region ?_
    refine WL.c rfl (o_mv ?_)
    refine WL.c rfl (o_eqN (p := none) TI77 rfl rfl ?_)
    refine WL.nil ?_
    refine W.condT' rfl (rfl) ?_
    refine W.seq ?_
    refine W.region ?_
    refine WL.c rfl (o_as ?_)
    refine WL.nil ?_
    refine W.ret ?_
    refine ret1v rfl (show _ = Value.int _ _ from rfl) ?_
    exact ⟨by simp [tabl, h0, List.getD_eq_getElem?_getD, List.getElem?_eq_none, Fr.nil], hxq⟩
  · skip
    obtain ⟨g, cap, rfl, hb, hcs⟩ := h.rows.at (k := L.length - 1) (by omega)
    have hl0 : lastP (.slice (some ⟨g, 0, none⟩) L.length cap) L.length = some ⟨g, (L.length - 1) * 7, none⟩ := by unfold lastP; simp only []; rw [if_neg (by omega)]
    rw [hl0]
    obtain ⟨T, hT⟩ : ∃ T, T = L.getD (L.length - 1) Fr.nil := ⟨_, rfl⟩
    rw [← hT] at hcs
    have htab := h.rows.tab (k := L.length - 1) (by omega)
    rw [tabl, ← hT] at htab
    obtain ⟨tv, htv⟩ : ∃ tv, tv = V (L.length - 1) := ⟨_, rfl⟩
    rw [← htv] at hcs htab
    refine W.region ?_
    refine WL.c rfl (o_mv ?_)
    refine WL.c rfl (o_eqN (p := some ⟨g, (L.length - 1) * 7, none⟩) TI77 rfl rfl ?_)
    refine WL.nil ?_
    refine W.condF' rfl (rfl) ?_
    refine W.skip ?_
    refine W.seq ?_
    refine W.region ?_
    refine WL.c rfl (o_mv ?_)
    refine WL.c rfl (o_nil rfl ?_)
    refine WL.c rfl (o_fa 6 TI39 rfl TI37 rfl rfl ?_)
    refine WL.c rfl (o_ld TI37 rfl rfl (hcs 6 _ rfl) ?_)
    refine WL.c rfl (o_lenR TI37 rfl htab ?_)
    refine WL.c rfl (o_as ?_)
    refine WL.nil ?_
    refine W.ret ?_
    refine ret1v rfl (show _ = Value.int _ _ from rfl) ?_
    exact ⟨by rw [tabl, ← hT], hxq⟩

abbrev topF (L : List Fr) : Fr := L.getD (L.length - 1) Fr.nil
def slotR (L : List Fr) (k : Int) : Int × Int := if L.length = 0 then (0, 220) else if inb k 0 ((topF L).tab.length - 1) then ((topF L).tab.getD k.toNat 0, 0) else (0, 3)
def emptyE (L : List Fr) : Int := if L.length = 0 then 220 else 0
theorem topF_nil {L : List Fr} (h : L.length = 0) : topF L = Fr.nil := by rw [List.length_eq_zero_iff.1 h]; rfl
def pushR (most high : Nat) (L : List Fr) (f : Fr) : Int × Nat × List Fr := if most ≤ L.length then (220, high, L) else if fwhole f then (0, max high (L.length + 1), L ++ [f]) else (3, high, L)
/-- a call that turns a stack: what it has then, where it may have written, what it may hold -/
structure Turn (w w' : World) (H p most high : Nat) (L : List Fr) (lv : Value) (V : Nat → Value) (high' : Nat) (L' : List Fr) (lv' : Value) (V' : Nat → Value) : Prop where
  stk : Stk w' H p most high' L' lv' V'
  only : Only (SF p lv V L.length) w w'
  new : ∀ k, SF p lv' V' L'.length k → SF p lv V L.length k ∨ w.heap.size ≤ k
theorem Turn.same {w w' : World} {H p most high : Nat} {L : List Fr} {lv : Value} {V : Nat → Value} (h : Stk w H p most high L lv V) (hx : Ext w w') : Turn w w' H p most high L lv V high L lv V :=
  ⟨h.ext hx, hx.mono (fun _ _ h => h.elim), fun _ h => .inl h⟩
theorem own_new1 {w : World} {v : Value} {el : TypeId} {s : Nat} (hv : v.cells.size = s) : (w.alloc (.cells v.cells el)).ownsRow w.heap.size el s (.slice (some ⟨w.heap.size, 0, none⟩) 1 1) 1 v.cells.toList :=
  ⟨by simp [hv], .inr ⟨w.heap.size, 1, v.cells, rfl, Nat.le_refl _, heap_alloc_new w _, Nat.le_refl _, by rw [maxLen_eq]; omega, by rw [hv]; omega, by rw [Nat.one_mul]; exact List.take_of_length_le (by simp [hv])⟩⟩
theorem Rows.snoc {w : World} {H B : Nat} {L : List Fr} {f : Fr} {V : Nat → Value} {v tv : Value} (hr : w.ownsRow H 39 7 v (L.length + 1) (frows L V ++ fcells f tv)) (ht : Many w H 3 1 L.length V (fun j => (tabl L j).length) (fun j => ints (tabl L j)))
    (hf : w.ownsRow B 3 1 tv f.tab.length (ints f.tab)) (hB : H ≤ B) (hlt : ∀ j, j < L.length → ∀ k, (V j).ownBlock = some k → k < B) : Rows w H (L ++ [f]) v (fun j => if j = L.length then tv else V j) := by
  have e1 : ∀ j, j < L.length → tabl (L ++ [f]) j = tabl L j := fun j hj => by simp [tabl, List.getD_eq_getElem?_getD, List.getElem?_append_left hj]
  have e2 : tabl (L ++ [f]) L.length = f.tab := by simp [tabl]
  refine ⟨by rw [List.length_append, List.length_singleton, frows_snoc]; exact hr, ?_⟩
  rw [List.length_append, List.length_singleton]
  refine Many.snocG (ht.congr (fun _ _ => rfl) (fun j hj => by rw [e1 j hj]) (fun j hj => by rw [e1 j hj])) hf hB hlt (by rw [e2]) (by rw [e2])
theorem Rows.put {w : World} {H : Nat} {L : List Fr} {f : Fr} {lv tv : Value} {V : Nat → Value} {k : Nat} (hk : k < L.length) (hr : w.ownsRow H 39 7 lv L.length ((frows L V).take (k * 7) ++ fcells f tv ++ (frows L V).drop (k * 7 + 7)))
    (ht : Many w H 3 1 L.length (fun j => if j = k then tv else V j) (fun j => if j = k then f.tab.length else (tabl L j).length) (fun j => if j = k then ints f.tab else ints (tabl L j))) : Rows w H (L.set k f) lv (fun j => if j = k then tv else V j) := by
  have e1 : ∀ j, tabl (L.set k f) j = if j = k then f.tab else tabl L j := fun j => by
    by_cases e : j = k
    · subst e; simp [tabl, List.getD_eq_getElem?_getD, hk]
    · rw [if_neg e]; simp only [tabl, List.getD_eq_getElem?_getD]; rw [List.getElem?_set, if_neg (by omega)]
  refine ⟨by rw [List.length_set, ← frows_set hk]; exact hr, ?_⟩
  rw [List.length_set]
  refine ht.congr (fun _ _ => rfl) (fun j hj => ?_) (fun j hj => ?_)
  · rw [e1]; split <;> rfl
  · rw [e1]; split <;> rfl
theorem Rows.off {w : World} {H p : Nat} {L : List Fr} {lv : Value} {V : Nat → Value} {cs : Array Value} {T : TypeId} {fr : Nat × Nat} (h : Rows w H L lv V) (hc : w.heap[p]? = some (.cells cs T fr)) (h1 : 39 ≠ T) (h2 : 3 ≠ T) : ¬ RF lv V L.length p := by
  rintro (hk | ⟨j, hj, hk⟩)
  · exact own_off h.row hc h1 hk
  · exact own_off (h.tabs.row j hj) hc h2 hk
theorem tl_snoc {L : List Fr} {f : Fr} (h : ∀ k, k < L.length → (tabl L k).length ≤ 1048576) (hf : fwhole f = true) : ∀ k, k < (L ++ [f]).length → (tabl (L ++ [f]) k).length ≤ 1048576 := fun k hk => by
  rw [List.length_append, List.length_singleton] at hk
  by_cases e : k < L.length
  · have := h k e
    simp only [tabl, List.getD_eq_getElem?_getD] at this ⊢
    rw [List.getElem?_append_left e]; exact this
  · have e2 : k = L.length := by omega
    subst e2
    simp [fwhole, tright] at hf
    simp [tabl]
    exact hf.2.1
theorem tl_set {L : List Fr} {f : Fr} {i : Nat} (h : ∀ k, k < L.length → (tabl L k).length ≤ 1048576) (hf : f.tab.length ≤ 1048576) : ∀ k, k < (L.set i f).length → (tabl (L.set i f) k).length ≤ 1048576 := fun k hk => by
  rw [List.length_set] at hk
  have := h k hk
  simp only [tabl, List.getD_eq_getElem?_getD] at this ⊢
  rw [List.getElem?_set]
  by_cases e : i = k
  · subst e; rw [if_pos rfl, if_pos hk]; exact hf
  · rw [if_neg e]; exact this
theorem fwhole_tab {f : Fr} (hf : fwhole f = true) : f.tab.length ≤ 1048576 := by
  simp [fwhole, tright] at hf; exact hf.2.1
/-- a store of one cell into an own row of structs -/
theorem o_stRo {P : Program} {e : Env} {w : World} {K : Value → World → Prop} {ty : TypeId} {x y : Operand} {t el : TypeId} {dd : TypeDesc} {bs g o n base s : Nat} {z u v : Value} {xs : List Value} (ht : Ty P t dd 1 bs z) (hx : ev e x = .pointer (some ⟨g, o, none⟩)) (hy : ev e y = u) (hu : u.oneCell' = true)
    (hown : w.ownsRow base el s v n xs) (hv : v.ownBlock = some g) (hi : o < n * s) (k : ∀ w', w'.ownsRow base el s v n (xs.set o u) → Only (fun k => v.ownBlock = some k) w w' → w'.heap.size = w.heap.size → K undef w') : OP P e (.store t x y) ty w K := by
  obtain ⟨cap, cur, rfl, hb, hc, hnc, hcm, hcs, htk⟩ := own_blk hown hv
  have hm2 : n * s ≤ cap * s := Nat.mul_le_mul_right _ hnc
  refine o_stB ht hx hy hu hc (by omega) fun w' hC ho hs => k w' ⟨by simp [hown.1], .inr ⟨g, cap, _, rfl, hb, hC, hnc, hcm, by simp [hcs], ?_⟩⟩ (ho.mono (fun j _ h => by rw [hv, h])) hs
  rw [← htk]
  simp only [Array.toList_setIfInBounds, List.take_set]
theorem own_form {w : World} {base : Nat} {el : TypeId} {s n : Nat} {v : Value} {xs : List Value} (h : w.ownsRow base el s v n xs) : ∃ a c, v = .slice a n c ∧ n ≤ c := by
  rcases h.2 with ⟨rfl, rfl⟩ | ⟨g, cap, cur, rfl, hb, hc, hnc, r⟩
  · exact ⟨none, 0, rfl, Nat.le_refl _⟩
  · exact ⟨_, cap, rfl, hnc⟩
theorem own_take {w : World} {base : Nat} {el : TypeId} {s n m g cap : Nat} {xs : List Value} (h : w.ownsRow base el s (.slice (some ⟨g, 0, none⟩) n cap) n xs) (hm : m ≤ n) : w.ownsRow base el s (.slice (some ⟨g, 0, none⟩) m cap) m (xs.take (m * s)) := by
  obtain ⟨cap', cur, hv, hb, hc, hnc, hcm, hcs, ht⟩ := own_blk h rfl
  simp only [Value.slice.injEq] at hv
  obtain ⟨-, -, rfl⟩ := hv
  have hms : m * s ≤ n * s := Nat.mul_le_mul_right _ hm
  refine ⟨by rw [List.length_take, h.1]; omega, .inr ⟨g, cap, cur, rfl, hb, hc, by omega, hcm, hcs, ?_⟩⟩
  rw [← ht, List.take_take, Nat.min_eq_left hms]
theorem sliced0 (g h c s : Nat) : sliced (some ⟨g, 0, none⟩) 0 h c s = .slice (some ⟨g, 0, none⟩) h c := by
  unfold sliced
  split <;> simp [Addr.add]
theorem ite_at {α : Type} (V : Nat → α) {k j : Nat} {a : α} (h : a = V k) : (if j = k then a else V j) = V j := by
  by_cases e : j = k
  · rw [if_pos e, e, h]
  · rw [if_neg e]
theorem Many.repl {w : World} {H0 : Nat} {el : TypeId} {s N : Nat} {V : Nat → Value} {n : Nat → Nat} {X : Nat → List Value} (h : Many w H0 el s N V n X) {j0 b m : Nat} {v : Value} {xs : List Value} (hr : w.ownsRow b el s v m xs) (hb : H0 ≤ b) (hlt : ∀ j, j < N → ∀ k, (V j).ownBlock = some k → k < b) :
    Many w H0 el s N (fun j => if j = j0 then v else V j) (fun j => if j = j0 then m else n j) (fun j => if j = j0 then xs else X j) := by
  refine ⟨fun j hj => ?_, fun i j hi hj hij k hk => ?_⟩
  · by_cases e : j = j0
    · simp only [if_pos e]; exact own_mono hr hb
    · simp only [if_neg e]; exact h.row j hj
  · by_cases e : i = j0
    · have e2 : j ≠ j0 := by omega
      simp only [if_pos e, if_neg e2] at hk ⊢
      intro hk2
      have h1 := (hr.lt k hk).1
      have h2 := hlt j hj k hk2
      omega
    · by_cases e2 : j = j0
      · simp only [if_neg e, if_pos e2] at hk ⊢
        intro hk2
        have h1 := (hr.lt k hk2).1
        have h2 := hlt i hi k hk
        omega
      · simp only [if_neg e, if_neg e2] at hk ⊢
        exact h.off i j hi hj hij k hk
theorem set6 {xs : List Value} {a : Nat} {T : Fr} {tv u : Value} (h : (xs.drop a).take 7 = fcells T tv) : xs.set (a + 6) u = xs.take a ++ fcells T u ++ xs.drop (a + 7) := by
  have hl : a + 7 ≤ xs.length := by
    have := congrArg List.length h
    simp [fcells] at this; omega
  have e : xs = xs.take a ++ (fcells T tv ++ xs.drop (a + 7)) := by
    rw [← h, show xs.drop (a + 7) = (xs.drop a).drop 7 by rw [List.drop_drop], List.take_append_drop, List.take_append_drop]
  have e2 : xs.set (a + 6) u = (xs.take a ++ (fcells T tv ++ xs.drop (a + 7))).set (a + 6) u := by rw [← e]
  rw [e2, List.set_append_right _ _ (by rw [List.length_take]; omega), List.length_take, Nat.min_eq_left (by omega), show a + 6 - a = 6 by omega, List.set_append_left _ _ (by simp [fcells]), List.append_assoc]
  rfl
theorem topF_pos {L : List Fr} (h : 0 < L.length) : topF L = L[L.length - 1] := by rw [topF, List.getD_eq_getElem?_getD, List.getElem?_eq_getElem (by omega)]; rfl
def setR (L : List Fr) (f : Fr) : Int × List Fr := if L.length = 0 then (220, L) else if fwhole f then (0, L.set (L.length - 1) f) else (3, L)
def goR (L : List Fr) (f : Fr) : Int × List Fr := if L.length = 0 then (220, L) else if fright f then (0, L.set (L.length - 1) { f with tab := (topF L).tab }) else (3, L)
def markR (L : List Fr) (a : Int) : Int × List Fr := if L.length = 0 then (220, L) else if inb a 0 Huge then (if 1048576 ≤ (topF L).tab.length then (5, L) else (0, L.set (L.length - 1) { topF L with tab := (topF L).tab ++ [a] })) else (3, L)
/-- a popped table: its slice ends where it ends -/
def Clipd (w : World) (H : Nat) (v : Value) (l : List Int) : Prop := ∃ a cap, v = .slice a l.length l.length ∧ w.ownsRow H 3 1 (.slice a l.length cap) l.length (ints l)
theorem Clipd.In {w : World} {H : Nat} {v : Value} {l : List Int} (h : Clipd w H v l) : In w v l := by
  obtain ⟨a, cap, rfl, ho⟩ := h
  rcases ho.2 with ⟨h1, h2⟩ | ⟨g, cap', cur, h1, hb, hc, hnc, hcm, hcs, ht⟩
  · simp only [Value.slice.injEq] at h1
    obtain ⟨rfl, h3, rfl⟩ := h1
    have : l = [] := List.eq_nil_of_length_eq_zero h3
    subst this
    exact Sl.nil w 1
  · simp only [Value.slice.injEq] at h1
    obtain ⟨rfl, -, rfl⟩ := h1
    refine Sl.blk hc 0 _ (by simp) (Nat.le_refl _) (fun i v hv => ?_)
    rw [← ht, List.getElem?_take] at hv
    split at hv
    · simpa using hv
    · simp at hv
theorem Clipd.only {w w' : World} {H : Nat} {v : Value} {l : List Int} {F : Nat → Prop} (h : Clipd w H v l) (ho : Only F w w') (hn : ∀ k, v.ownBlock = some k → ¬ F k) : Clipd w' H v l := by
  obtain ⟨a, cap, rfl, h1⟩ := h
  exact ⟨a, cap, rfl, own_only h1 ho (fun k hk => hn k (by cases a <;> exact hk))⟩
theorem ite_SF {p : Nat} {lv lv' tv : Value} {V : Nat → Value} {n k : Nat} {w : World} {B : Nat} (hB : w.heap.size ≤ B) (hl : lv'.ownBlock = lv.ownBlock ∨ ∃ g, B ≤ g ∧ lv'.ownBlock = some g) (ht : ∀ k, tv.ownBlock = some k → w.heap.size ≤ k ∨ ∃ j, j < n ∧ (V j).ownBlock = some k) {q m : Nat} (hq : q ≤ n) (h : SF p lv' (fun j => if j = m then tv else V j) q k ∨ SF p lv' (fun j => if j = n then tv else V j) (n + 1) k) : SF p lv V n k ∨ w.heap.size ≤ k := by
  have hlv : lv'.ownBlock = some k → SF p lv V n k ∨ w.heap.size ≤ k := fun h => by
    rcases hl with hl | ⟨g, hg, hl⟩
    · rw [hl] at h; exact .inl (.inr (.inl h))
    · rw [hl] at h; cases h; exact .inr (by omega)
  have htv : tv.ownBlock = some k → SF p lv V n k ∨ w.heap.size ≤ k := fun h => by
    rcases ht k h with h | ⟨j, hj, h⟩
    · exact .inr h
    · exact .inl (.inr (.inr ⟨j, hj, h⟩))
  rcases h with h | h
  · rcases h with rfl | h | ⟨j, hj, h⟩
    · exact .inl (.inl rfl)
    · exact hlv h
    · by_cases e : j = m
      · simp only [if_pos e] at h; exact htv h
      · simp only [if_neg e] at h; exact .inl (.inr (.inr ⟨j, by omega, h⟩))
  · rcases h with rfl | h | ⟨j, hj, h⟩
    · exact .inl (.inl rfl)
    · exact hlv h
    · by_cases e : j = n
      · simp only [if_pos e] at h; exact htv h
      · simp only [if_neg e] at h; exact .inl (.inr (.inr ⟨j, by omega, h⟩))

theorem slot_spec (H p most high : Nat) (L : List Fr) (lv : Value) (V : Nat → Value) (k : Int) (w0 : World) (h : Stk w0 H p most high L lv V) : Ca Try.prog 26 #[.pointer (some ⟨p, 0, none⟩), .int .i64 k] w0 (fun v w' => v = .tuple #[.int .i64 (slotR L k).1, .int .i64 (slotR L k).2] ∧ Ext w0 w') := by
  refine Ca.of Try.func26 Try.ntmps26 rfl rfl ?_
  refine W.seq ?_
  refine W.region ?_
  refine WL.c rfl (o_as ?_)
  refine WL.c rfl (o_as ?_)
  refine WL.nil ?_
  refine W.seq ?_
  refine W.region ?_
  refine WL.c rfl (o_mv ?_)
  refine WL.c rfl (o_call Try.call34 (lc rfl ln) ((last_spec H p most high L lv V _ h).mono ?_))
  rintro v8 w8 ⟨rfl, mq, rfl⟩
  replace h := h.ext (Only.drewN w0 mq)
  have hxq := Only.drewN w0 mq
  generalize w0.drewN mq = wq at *
  refine WL.c rfl (o_as ?_)
  refine WL.nil ?_
  refine W.seq ?_
  refine W.block ?_
  refine W.seq ?_
  rcases Nat.eq_zero_or_pos L.length with h0 | h0
  · skip
    have hl0 : lastP lv L.length = none := by unfold lastP; split <;> simp [h0]
    rw [hl0]
    refine W.region ?_
    refine WL.c rfl (o_mv ?_)
    refine WL.c rfl (o_eqN (p := none) TI77 rfl rfl ?_)
    refine WL.c rfl (o_as ?_)
    refine WL.nil ?_
    refine W.condT' rfl (rfl) ?_
    refine W.seq ?_
    refine W.region ?_
    refine WL.c rfl (o_as ?_)
    refine WL.c rfl (o_as ?_)
    refine WL.nil ?_
    refine W.ret ?_
    refine ret2v rfl (show _ = Value.int _ _ from rfl) (show _ = Value.int _ _ from rfl) ?_
    exact ⟨by simp [slotR, h0], hxq⟩
  · skip
    obtain ⟨g, cap, rfl, hb, hcs⟩ := h.rows.at (k := L.length - 1) (by omega)
    have hl0 : lastP (.slice (some ⟨g, 0, none⟩) L.length cap) L.length = some ⟨g, (L.length - 1) * 7, none⟩ := by unfold lastP; simp only []; rw [if_neg (by omega)]
    rw [hl0]
    obtain ⟨T, hT⟩ : ∃ T, T = L.getD (L.length - 1) Fr.nil := ⟨_, rfl⟩
    rw [← hT] at hcs
    have htab := h.rows.tab (k := L.length - 1) (by omega)
    rw [tabl, ← hT] at htab
    obtain ⟨tv, htv⟩ : ∃ tv, tv = V (L.length - 1) := ⟨_, rfl⟩
    rw [← htv] at hcs htab
    refine W.region ?_
    refine WL.c rfl (o_mv ?_)
    refine WL.c rfl (o_eqN (p := some ⟨g, (L.length - 1) * 7, none⟩) TI77 rfl rfl ?_)
    refine WL.c rfl (o_as ?_)
    refine WL.nil ?_
    refine W.condF' rfl (rfl) ?_
    refine W.seq ?_
    refine W.region ?_
    refine WL.c rfl (o_mv ?_)
    refine WL.c rfl (o_mv ?_)
    refine WL.c rfl (o_nil rfl ?_)
    refine WL.c rfl (o_fa 6 TI39 rfl TI37 rfl rfl ?_)
    refine WL.c rfl (o_ld TI37 rfl rfl (hcs 6 _ rfl) ?_)
    refine WL.c rfl (o_lenR TI37 rfl htab ?_)
    refine WL.c rfl (o_subi rfl rfl (by have := htab.len; have := h.tl (k := L.length - 1) (by omega); rw [tabl, ← hT] at this; omega) ?_)
    refine WL.c rfl (o_call Try.call48 (lc rfl (lc rfl (lc rfl ln))) ((in_spec k 0 _ _).mono ?_))
    rintro v20 w20 ⟨rfl, rfl⟩
    refine WL.c rfl (o_not' rfl ?_)
    refine WL.c rfl (o_as ?_)
    refine WL.nil ?_
    refine W.cond rfl (fun c12 => ?_) (fun c12 => ?_)
    · try simp only [decide_eq_true_eq, decide_eq_false_iff_not, Bool.not_eq_true', Bool.not_eq_false', Bool.and_eq_true, Bool.or_eq_true, Bool.and_eq_false_iff, Bool.or_eq_false_iff] at c12
      refine W.seq ?_
      refine W.region ?_
      refine WL.c rfl (o_as ?_)
      refine WL.c rfl (o_as ?_)
      refine WL.nil ?_
      refine W.ret ?_
      refine ret2v rfl (show _ = Value.int _ _ from rfl) (show _ = Value.int _ _ from rfl) ?_
      refine ⟨?_, hxq⟩
      rw [slotR, if_neg (show ¬ L.length = 0 by omega), topF, ← hT, if_neg (by rw [c12]; simp)]
    · try simp only [decide_eq_true_eq, decide_eq_false_iff_not, Bool.not_eq_true', Bool.not_eq_false', Bool.and_eq_true, Bool.or_eq_true, Bool.and_eq_false_iff, Bool.or_eq_false_iff] at c12
      have hk0 : 0 ≤ k ∧ k < T.tab.length := by simp [inb] at c12; omega
      obtain ⟨kn, rfl⟩ : ∃ n : Nat, k = (n : Int) := ⟨k.toNat, by omega⟩
      refine W.skip ?_
      refine W.seq ?_
      refine W.region ?_
      refine WL.c rfl (o_mv ?_)
      refine WL.c rfl (o_nil rfl ?_)
      refine WL.c rfl (o_fa 6 TI39 rfl TI37 rfl rfl ?_)
      refine WL.c rfl (o_ld TI37 rfl rfl (hcs 6 _ rfl) ?_)
      refine WL.c rfl (o_mv ?_)
      refine WL.c rfl (o_ix1 TI37 TI3 rfl rfl htab (by omega) ?_)
      intro b27 o27 hc27 hb27
      refine WL.c rfl (o_ld TI3 rfl rfl (hc27.trans (getint (by omega))) ?_)
      refine WL.c rfl (o_as ?_)
      refine WL.c rfl (o_as ?_)
      refine WL.nil ?_
      refine W.ret ?_
      refine ret2v rfl (show _ = Value.int _ _ from rfl) (show _ = Value.int _ _ from rfl) ?_
      refine ⟨?_, hxq⟩
      rw [slotR, if_neg (show ¬ L.length = 0 by omega), topF, ← hT, if_pos (by simp [inb]; omega), List.getD_eq_getElem?_getD, Int.toNat_natCast, List.getElem?_eq_getElem (by omega), Option.getD_some]
theorem top_spec (H p most high : Nat) (L : List Fr) (lv : Value) (V : Nat → Value) (w0 : World) (h : Stk w0 H p most high L lv V) : Ca Try.prog 19 #[.pointer (some ⟨p, 0, none⟩)] w0 (fun v w' => ∃ tv, v = .tuple #[.agg (fcells (topF L) tv).toArray, .int .i64 (emptyE L)] ∧ w'.ownsRow w0.heap.size 3 1 tv (topF L).tab.length (ints (topF L).tab) ∧ Ext w0 w') := by
  refine Ca.of Try.func19 Try.ntmps19 rfl rfl ?_
  refine W.seq ?_
  refine W.region ?_
  refine WL.c rfl (o_alB TI39 ?_)
  intro w2 hC2 hx2 hs2
  have h2 := h.ext hx2
  refine WL.c rfl (o_as ?_)
  refine WL.nil ?_
  refine W.seq ?_
  refine W.region ?_
  refine WL.c rfl (o_mv ?_)
  refine WL.c rfl (o_call Try.call34 (lc rfl ln) ((last_spec H p most high L lv V _ h2).mono ?_))
  rintro v6 w6 ⟨rfl, mq, rfl⟩
  replace h := h2.ext (Only.drewN w2 mq)
  replace hC2 := (Only.drewN w2 mq).blk hC2 (fun h => h)
  have hxq := hx2.tr (Only.drewN w2 mq)
  generalize w2.drewN mq = wq at *
  refine WL.c rfl (o_as ?_)
  refine WL.nil ?_
  refine W.seq ?_
  refine W.seq ?_
  rcases Nat.eq_zero_or_pos L.length with h0 | h0
  · skip
    have hl0 : lastP lv L.length = none := by unfold lastP; split <;> simp [h0]
    rw [hl0]
    refine W.region ?_
    refine WL.c rfl (o_mv ?_)
    refine WL.c rfl (o_eqN (p := none) TI77 rfl rfl ?_)
    refine WL.nil ?_
    refine W.condT' rfl (rfl) ?_
    refine W.seq ?_
    refine W.region ?_
    refine WL.c rfl (o_bldC (cs := [(.int .i64 0), (.int .i64 0), (.int .i64 0), (.int .i64 0), (.int .i64 0), (.int .i64 0), (.slice none 0 0)]) TI39 (Sizes.cons TI3 (Sizes.cons TI3 (Sizes.cons TI3 (Sizes.cons TI3 (Sizes.cons TI3 (Sizes.cons TI3 (Sizes.cons TI37 Sizes.nil))))))) rfl lnp rfl rfl ?_)
    refine WL.u (o_stA TI39 rfl rfl rfl rfl hC2 rfl ?_)
    intro w9 hB9 ho9 hs9
    refine WL.c rfl (o_as ?_)
    refine WL.nil ?_
    refine W.ret ?_
    refine retCT rfl TI39 rfl (show _ = Value.int _ _ from rfl) rfl (show Cells w9 w0.heap.size 0 (fcells Fr.nil (.slice none 0 0)) from Cells.of hB9 0 _ (by simp [fcells, Fr.nil])) rfl ?_
    refine ⟨.slice none 0 0, ?_, ?_, hxq.trans' ho9 (fun _ h => h) (fun j hj he => by omega)⟩
    · rw [topF_nil h0, emptyE, if_pos h0]
    · rw [topF_nil h0]; exact World.ownsRow_nil _ _ _ _
  · skip
    obtain ⟨g, cap, rfl, hb, hcs⟩ := h.rows.at (k := L.length - 1) (by omega)
    have hl0 : lastP (.slice (some ⟨g, 0, none⟩) L.length cap) L.length = some ⟨g, (L.length - 1) * 7, none⟩ := by unfold lastP; simp only []; rw [if_neg (by omega)]
    rw [hl0]
    obtain ⟨T, hT⟩ : ∃ T, T = L.getD (L.length - 1) Fr.nil := ⟨_, rfl⟩
    rw [← hT] at hcs
    have htab := h.rows.tab (k := L.length - 1) (by omega)
    rw [tabl, ← hT] at htab
    obtain ⟨tv, htv⟩ : ∃ tv, tv = V (L.length - 1) := ⟨_, rfl⟩
    rw [← htv] at hcs htab
    refine W.region ?_
    refine WL.c rfl (o_mv ?_)
    refine WL.c rfl (o_eqN (p := some ⟨g, (L.length - 1) * 7, none⟩) TI77 rfl rfl ?_)
    refine WL.nil ?_
    refine W.condF' rfl (rfl) ?_
    refine W.skip ?_
    refine W.seq ?_
    refine W.region ?_
    refine WL.c rfl (o_mv ?_)
    refine WL.c rfl (o_nil rfl ?_)
    refine WL.c rfl (o_ldA TI39 rfl rfl hcs rfl ?_)
    refine WL.c rfl (o_call Try.call37 (lc rfl ln) ((own_spec T tv _ htab (by have := h.tl (L.length - 1) (by omega); rw [tabl, ← hT] at this; omega)).mono ?_))
    rintro u13 w13 ⟨v13, rfl, hown13, hx13⟩
    have hC2b := hx13.blk hC2 (fun h => h)
    refine WL.u (o_stA TI39 rfl (show _ = Value.agg (fcells T v13).toArray from rfl) rfl (fcells_one (own_one hown13)) hC2b rfl ?_)
    intro w9 hB9 ho9 hs9
    refine WL.c rfl (o_as ?_)
    refine WL.nil ?_
    refine W.ret ?_
    refine retCT rfl TI39 rfl (show _ = Value.int _ _ from rfl) rfl (show Cells w9 w0.heap.size 0 (fcells T v13) from Cells.of hB9 0 _ (by simp [fcells])) rfl ?_
    have hge : w0.heap.size ≤ wq.heap.size := hxq.size
    have hT' : topF L = T := hT.symm
    rw [hT', emptyE, if_neg (show ¬ L.length = 0 by omega)]
    exact ⟨v13, rfl, own_mono (own_only hown13 ho9 (fun k hk he => by subst he; exact own_off hown13 hC2b (by decide) hk)) hge, (hxq.tr hx13).trans' ho9 (fun _ h => h) (fun j hj he => by omega)⟩
theorem push_spec (H p most high : Nat) (L : List Fr) (lv : Value) (V : Nat → Value) (f : Fr) (tv : Value) (w0 : World) (h : Stk w0 H p most high L lv V) (hS : In w0 tv f.tab) (hl : f.tab.length ≤ 16000000000000) : Ca Try.prog 16 #[.pointer (some ⟨p, 0, none⟩), .agg (fcells f tv).toArray] w0 (fun v w' => v = .int .i64 (pushR most high L f).1 ∧ ∃ lv' V', Turn w0 w' H p most high L lv V (pushR most high L f).2.1 (pushR most high L f).2.2 lv' V') := by
  refine Ca.of Try.func16 Try.ntmps16 rfl rfl ?_
  refine W.seq ?_
  refine W.region ?_
  refine WL.c rfl (o_boxB rfl ?_)
  have h00 := h
  intro w3 hC3 hx3 hs3
  replace hC3 : w3.heap[w0.heap.size]? = some (.cells (fcells f tv).toArray 39 (0, 0)) := hC3
  replace h := h.ext hx3
  replace hS := hS.ext hx3
  have hcell := h.cell
  refine WL.c rfl (o_as ?_)
  refine WL.nil ?_
  refine W.seq ?_
  refine W.seq ?_
  refine W.quiet rfl (by kernel_rfl) ?_
  refine WQ.c rfl ((QO.o rfl fun _ => o_mv ⟨rfl, rfl⟩)) ?_
  refine WQ.c rfl ((QO.r fun _ => r_nil rfl)) ?_
  refine WQ.c rfl ((QO.o rfl fun _ => o_fa 2 TI71 rfl TI22 rfl rfl ⟨rfl, rfl⟩)) ?_
  refine WQ.c rfl ((QO.o rfl fun _ => o_ld TI22 rfl rfl (cell_of hcell rfl) ⟨rfl, rfl⟩)) ?_
  refine WQ.c rfl ((QO.r fun _ => r_lenR TI22 rfl (Sl.own h.rows.row))) ?_
  refine WQ.c rfl ((QO.o rfl fun _ => o_mv ⟨rfl, rfl⟩)) ?_
  refine WQ.c rfl ((QO.r fun _ => r_nil rfl)) ?_
  refine WQ.c rfl ((QO.o rfl fun _ => o_fa 0 TI71 rfl TI3 rfl rfl ⟨rfl, rfl⟩)) ?_
  refine WQ.c rfl ((QO.o rfl fun _ => o_ld TI3 rfl rfl (cell_of hcell rfl) ⟨rfl, rfl⟩)) ?_
  refine WQ.c rfl ((QO.o rfl fun _ => o_ge rfl rfl ⟨rfl, rfl⟩)) ?_
  refine WQ.nil ?_
  intro nq
  have hq := Only.drewN w3 nq
  have hxq := hx3.tr hq
  replace h := h.ext hq
  replace hS := hS.ext hq
  replace hC3 := hq.blk hC3 (fun h => h)
  generalize w3.drewN nq = wq at *
  refine W.cond rfl (fun c14 => ?_) (fun c14 => ?_)
  · try simp only [decide_eq_true_eq, decide_eq_false_iff_not, Bool.not_eq_true', Bool.not_eq_false', Bool.and_eq_true, Bool.or_eq_true, Bool.and_eq_false_iff, Bool.or_eq_false_iff] at c14
    refine W.seq ?_
    refine W.region ?_
    refine WL.c rfl (o_as ?_)
    refine WL.nil ?_
    refine W.ret ?_
    refine ret1v rfl (show _ = Value.int _ _ from rfl) ?_
    exact ⟨by rw [pushR, if_pos (by omega)], lv, V, by rw [pushR, if_pos (by omega)]; exact Turn.same h00 hxq⟩
  · try simp only [decide_eq_true_eq, decide_eq_false_iff_not, Bool.not_eq_true', Bool.not_eq_false', Bool.and_eq_true, Bool.or_eq_true, Bool.and_eq_false_iff, Bool.or_eq_false_iff] at c14
    refine W.skip ?_
    refine W.seq ?_
    refine W.seq ?_
    refine W.region ?_
    refine WL.c rfl (o_ldA TI39 rfl rfl (show Cells wq w0.heap.size 0 (fcells f tv) from Cells.of hC3 0 _ (by simp)) rfl ?_)
    refine WL.c rfl (o_call Try.call36 (lc rfl ln) ((whole_spec f tv _ hS (by rw [maxLen_eq]; omega)).mono ?_))
    rintro v16 w16 ⟨rfl, hx16⟩
    have hx := hxq.tr hx16
    replace h := h.ext hx16
    replace hS := hS.ext hx16
    replace hC3 := hx16.blk hC3 (fun h => h)
    have hcell := h.cell
    refine WL.c rfl (o_not' rfl ?_)
    refine WL.nil ?_
    refine W.cond rfl (fun c17 => ?_) (fun c17 => ?_)
    · try simp only [decide_eq_true_eq, decide_eq_false_iff_not, Bool.not_eq_true', Bool.not_eq_false', Bool.and_eq_true, Bool.or_eq_true, Bool.and_eq_false_iff, Bool.or_eq_false_iff] at c17
      refine W.seq ?_
      refine W.region ?_
      refine WL.c rfl (o_as ?_)
      refine WL.nil ?_
      refine W.ret ?_
      refine ret1v rfl (show _ = Value.int _ _ from rfl) ?_
      exact ⟨by rw [pushR, if_neg (by omega), if_neg (by simp_all)], lv, V, by rw [pushR, if_neg (by omega), if_neg (by simp_all)]; exact Turn.same h00 hx⟩
    · try simp only [decide_eq_true_eq, decide_eq_false_iff_not, Bool.not_eq_true', Bool.not_eq_false', Bool.and_eq_true, Bool.or_eq_true, Bool.and_eq_false_iff, Bool.or_eq_false_iff] at c17
      refine W.skip ?_
      refine W.seq ?_
      obtain ⟨wd, hwd⟩ : ∃ wd, wd = w16.drew := ⟨_, rfl⟩
      have hxd : Ext w16 wd := hwd ▸ Only.drew w16
      replace h := h.ext hxd
      replace hS := hS.ext hxd
      replace hC3 := hxd.blk hC3 (fun h => h)
      replace hcell := h.cell
      have hlt : ∀ k, lv.ownBlock = some k → k < wd.heap.size := fun k hk => (h.rows.row.lt k hk).2
      have hltV : ∀ j, j < L.length → ∀ k, (V j).ownBlock = some k → k < wd.heap.size := fun j hj k hk => (h.rows.tabs.lt hj hk).2
      have hoff : ¬ lv.ownBlock = some w0.heap.size := fun hk => by have := (h00.rows.row.lt _ hk).2; omega
      refine W.drawF 9 [6, 8] [No, fun k => lv.ownBlock = some k] [(0, fun v _ => v = _), (3, fun v _ => v = _)] rfl (by kernel_rfl) (by kernel_rfl) ⟨Mono.eq, Mono.eq, trivial⟩ ⟨rfl, rfl, trivial⟩ ?_
      refine WDS.p rfl (by decide) (fun e w hR hh => by obtain ⟨h0, -⟩ := hh; exact SG.n (o_mvh h0 ⟨rfl, Only.refl No _⟩)) ?_
      refine WDS.p rfl (by decide) (fun e w hR hh => by obtain ⟨h0, -⟩ := hh; exact SG.n (o_mvh h0 ⟨rfl, Only.refl No _⟩)) ?_
      refine WDS.p rfl (by decide) (fun e w hR hh => by obtain ⟨h19, -⟩ := hh; exact SG.n (o_nil h19 ⟨rfl, Only.refl No _⟩)) ?_
      refine WDS.p rfl (by decide) (fun e w hR hh => by obtain ⟨h20, -⟩ := hh; exact SG.n (o_fa 2 TI71 rfl TI22 rfl h20 ⟨rfl, Only.refl No _⟩)) ?_
      refine WDS.p rfl (by decide) (fun e w hR hh => by obtain ⟨h21, -⟩ := hh; rw [← hwd] at hR; have hc := hR.blk hcell (fun hF => by rcases hF with hF | hF | hF <;> first | exact hF | exact h.p_off (.inl hF)); exact SG.n (o_ld TI22 rfl h21 (cell_of hc rfl) ⟨rfl, Only.refl No _⟩)) ?_
      refine WDS.p rfl (by decide) (fun e w hR hh => by obtain ⟨h3, -⟩ := hh; rw [← hwd] at hR; have hc := hR.blk hC3 (fun hF => by rcases hF with hF | hF | hF <;> first | exact hF | exact hoff hF); exact SG.n (o_ldA TI39 rfl h3 (show Cells w w0.heap.size 0 (fcells f tv) from Cells.of hc 0 _ (by simp)) rfl ⟨rfl, Only.refl No _⟩)) ?_
      refine WDS.mf 0 1 (fun v w => ∃ u, v = .agg (fcells f u).toArray ∧ w.ownsRow wd.heap.size 3 1 u f.tab.length (ints f.tab)) (fun v w w2 hR hh => by obtain ⟨u, hv, ho⟩ := hh; exact ⟨u, hv, own_only ho hR (fun k hk hF => by rcases hF with hF | hF <;> first | exact hF | (have := hlt k hF; have := (ho.lt k hk).1; omega))⟩) (by kernel_rfl) rfl rfl rfl (fun e w hR hW hh => by obtain ⟨h23, -⟩ := hh; rw [← hwd] at hR hW; have hS2 := hS.ext (show Ext wd w from hW); exact SGX.n (OP.x (o_call Try.call37 (lc h23 ln) ((own_spec f tv w hS2 hl).mono (fun v w' hh => by obtain ⟨u, h1, h2, h3⟩ := hh; exact ⟨⟨u, h1, own_mono h2 hW.size⟩, h3⟩))))) ?_
      refine WDS.q 1 (fun v w => ∃ u, w.ownsRow wd.heap.size 39 7 v 1 (fcells f u) ∧ w.ownsRow wd.heap.size 3 1 u f.tab.length (ints f.tab)) (fun v w w2 hR hh => by obtain ⟨u, hv, ho⟩ := hh; exact ⟨u, own_only hv hR (fun k hk hF => by rcases hF with hF | hF <;> first | exact hF | (have := hlt k hF; have := (hv.lt k hk).1; omega)), own_only ho hR (fun k hk hF => by rcases hF with hF | hF <;> first | exact hF | (have := hlt k hF; have := (ho.lt k hk).1; omega))⟩) (by kernel_rfl) rfl (by decide) (fun e w hR hh => by obtain ⟨h24, -⟩ := hh; rw [← hwd] at hR; have hw2 := hR.size; obtain ⟨u, hu24, h24o⟩ := h24; exact SG.n (o_bs1 TI22 TI39 hu24 (by decide) (by decide) rfl ⟨⟨u, own_mono (own_new1 rfl) hw2, own_ext h24o (Only.alloc w _)⟩, Only.alloc w _⟩)) ?_
      refine WDS.mf 1 2 (fun v w => ∃ u, w.ownsRow H 39 7 v (L.length + 1) (frows L V ++ fcells f u) ∧ w.ownsRow wd.heap.size 3 1 u f.tab.length (ints f.tab) ∧ (v.ownBlock = lv.ownBlock ∨ ∃ g, wd.heap.size ≤ g ∧ v.ownBlock = some g)) (fun v w w2 hR hh => by obtain ⟨u, hv, ho, hb⟩ := hh; exact ⟨u, own_ext hv hR, own_ext ho hR, hb⟩) (by kernel_rfl) rfl rfl rfl (fun e w hR hW hh => by obtain ⟨h25, h22, -⟩ := hh; rw [← hwd] at hR hW; have hw2 := hR.size; have hW2 : Ext wd w := hW.mono (fun k _ hF => by rcases hF with hF | hF <;> exact hF); obtain ⟨u, h25r, ho25⟩ := h25; exact SGX.n (OP.x (o_apO H TI22 TI39 h22 rfl (own_ext h.rows.row hW2) (Sl.own h25r) rfl (by decide) (fcells_all (own_one ho25)) (by rw [maxLen_eq]; have := h.len; have := h.mb; omega) (by have := h.len; have := h.mb; omega) (by have := h.lt p (.inl rfl); have := h.lo; omega) (fun v' w' h1 h2 h3 _ => ⟨⟨u, h1, own_only ho25 h2 (fun k hk hF => by have := hlt k hF; have := (ho25.lt k hk).1; omega), h3.imp id (fun h => ⟨_, hw2, h⟩)⟩, h2⟩)))) ?_
      rintro e w hR ⟨h26, h25, h24, h23, h22, h21, h20, h19, h18, h0, h3, -⟩
      rw [← hwd] at hR
      obtain ⟨u, hr26, hou, hb26⟩ := h26
      obtain ⟨v26, hv26⟩ : ∃ v, v = e 26 := ⟨_, rfl⟩
      rw [← hv26] at hr26 hb26
      have hc5 := hR.blk hcell (fun hF => by rcases hF with hF | hF | hF <;> first | exact hF | exact h.p_off (.inl hF))
      have hrow5 : Rows w H (L ++ [f]) v26 (fun j => if j = L.length then u else V j) := Rows.snoc hr26 (h.rows.tabs.only hR (fun j hj k hk hF => by rcases hF with hF | hF | hF <;> first | exact hF | exact own_row_off h.rows.row (h.rows.tabs.row j hj) (by decide) k hk hF)) hou (by have := h.lt p (.inl rfl); have := h.lo; omega) hltV
      refine WL.c rfl (o_nil h18 ?_)
      refine WL.c rfl (o_fa 2 TI71 rfl TI22 rfl rfl ?_)
      refine WL.u (o_stB TI22 rfl (show _ = v26 from hv26.symm) (own_one hr26) hc5 (show 2 < 3 by decide) ?_)
      intro w6 hB6 ho6 hs6
      replace hB6 : w6.heap[p]? = some (.cells #[.int .i64 (most : Int), .int .i64 (high : Int), v26] 71 (0, 0)) := hB6
      have hrow6 := hrow5.only ho6 (fun k hk he => by subst he; exact hrow5.off hc5 (by decide) (by decide) hk)
      refine WL.nil ?_
      refine W.seq ?_
      refine W.tail 13 rfl (by kernel_rfl) ?_
      refine WS.c rfl ((SO.o rfl (o_mvh h0 ⟨rfl, rfl⟩))) ?_
      refine WS.c rfl ((SO.o rfl (o_mvh h0 ⟨rfl, rfl⟩))) ?_
      refine WS.c rfl ((SO.r (r_nil rfl))) ?_
      refine WS.c rfl ((SO.o rfl (o_fa 1 TI71 rfl TI3 rfl rfl ⟨rfl, rfl⟩))) ?_
      refine WS.c rfl ((SO.o rfl (o_ld TI3 rfl rfl (cell_of hB6 rfl) ⟨rfl, rfl⟩))) ?_
      refine WS.c rfl ((SO.o rfl (o_mvh h0 ⟨rfl, rfl⟩))) ?_
      refine WS.c rfl ((SO.r (r_nil rfl))) ?_
      refine WS.c rfl ((SO.o rfl (o_fa 2 TI71 rfl TI22 rfl rfl ⟨rfl, rfl⟩))) ?_
      refine WS.c rfl ((SO.o rfl (o_ld TI22 rfl rfl (cell_of hB6 rfl) ⟨rfl, rfl⟩))) ?_
      refine WS.c rfl ((SO.r (r_lenR TI22 rfl (Sl.own hrow6.row)))) ?_
      refine WS.c rfl ((SO.r (r_max rfl rfl))) ?_
      refine WS.c rfl ((SO.r (r_nil rfl))) ?_
      refine WS.c rfl ((SO.o rfl (o_fa 1 TI71 rfl TI3 rfl rfl ⟨rfl, rfl⟩))) ?_
      refine WS.nil ?_
      refine WL.u (o_stB TI3 rfl (show _ = Value.int _ _ from rfl) rfl hB6 (show 1 < 3 by decide) ?_)
      intro w7 hB7 ho7 hs7
      have hrow7 := (hrow6.ext (Only.drew w6)).only ho7 (fun k hk he => by subst he; exact hrow6.off hB6 (by decide) (by decide) hk)
      refine WL.nil ?_
      refine W.seq ?_
      refine W.region ?_
      refine WL.c rfl (o_as ?_)
      refine WL.nil ?_
      refine W.ret ?_
      refine ret1v rfl (show _ = Value.int _ _ from rfl) ?_
      have hp : pushR most high L f = (0, max high (L.length + 1), L ++ [f]) := by rw [pushR, if_neg (by omega), if_pos c17]
      rw [hp]
      have hlen2 : (L ++ [f]).length = L.length + 1 := by simp
      rw [hlen2] at hB7
      refine ⟨rfl, v26, _, ⟨hB7, hrow7, h.lo, h.mb, by rw [hlen2]; omega, tl_snoc h.tl c17⟩, ?_, fun k hk => ?_⟩
      · refine ((((hx.tr hxd).trans' (H := SF p lv V L.length) hR (fun _ hF => hF.elim) ?_).trans' ho6 (fun _ hF => hF) ?_).trans' (Only.drew w6) (fun _ hF => hF) (fun _ _ hF => hF.elim)).trans' ho7 (fun _ hF => hF) ?_
        · rintro k - (hF | hF | hF)
          · exact hF.elim
          · exact .inr (.inl hF)
          · exact hF.elim
        · rintro k - rfl; exact .inl rfl
        · rintro k - rfl; exact .inl rfl
      · rw [hlen2] at hk
        exact ite_SF (B := wd.heap.size) (m := 0) (hx.tr hxd).size hb26 (fun k hk => .inl (by have := (hou.lt k hk).1; have := (hx.tr hxd).size; omega)) (Nat.zero_le _) (.inr hk)
theorem set_spec (H p most high : Nat) (L : List Fr) (lv : Value) (V : Nat → Value) (f : Fr) (fv : Value) (w0 : World) (h : Stk w0 H p most high L lv V) (hS : In w0 fv f.tab) (hl : f.tab.length ≤ 16000000000000) : Ca Try.prog 20 #[.pointer (some ⟨p, 0, none⟩), .agg (fcells f fv).toArray] w0 (fun v w' => v = .int .i64 (setR L f).1 ∧ ∃ lv' V', Turn w0 w' H p most high L lv V high (setR L f).2 lv' V') := by
  refine Ca.of Try.func20 Try.ntmps20 rfl rfl ?_
  refine W.seq ?_
  refine W.region ?_
  refine WL.c rfl (o_boxB rfl ?_)
  have h00 := h
  intro w3 hC3 hx3 hs3
  replace hC3 : w3.heap[w0.heap.size]? = some (.cells (fcells f fv).toArray 39 (0, 0)) := hC3
  replace h := h.ext hx3
  replace hS := hS.ext hx3
  refine WL.c rfl (o_as ?_)
  refine WL.nil ?_
  refine W.seq ?_
  refine W.region ?_
  refine WL.c rfl (o_mv ?_)
  refine WL.c rfl (o_call Try.call34 (lc rfl ln) ((last_spec H p most high L lv V _ h).mono ?_))
  rintro v7 w7 ⟨rfl, mq, rfl⟩
  replace h := h.ext (Only.drewN w3 mq)
  replace hS := hS.ext (Only.drewN w3 mq)
  replace hC3 := (Only.drewN w3 mq).blk hC3 (fun h => h)
  have hxq := hx3.tr (Only.drewN w3 mq)
  generalize w3.drewN mq = wq at *
  refine WL.c rfl (o_as ?_)
  refine WL.nil ?_
  refine W.seq ?_
  refine W.seq ?_
  rcases Nat.eq_zero_or_pos L.length with h0 | h0
  · skip
    have hl0 : lastP lv L.length = none := by unfold lastP; split <;> simp [h0]
    rw [hl0]
    refine W.region ?_
    refine WL.c rfl (o_mv ?_)
    refine WL.c rfl (o_eqN (p := none) TI77 rfl rfl ?_)
    refine WL.nil ?_
    refine W.condT' rfl (rfl) ?_
    refine W.seq ?_
    refine W.region ?_
    refine WL.c rfl (o_as ?_)
    refine WL.nil ?_
    refine W.ret ?_
    refine ret1v rfl (show _ = Value.int _ _ from rfl) ?_
    have hp : setR L f = (220, L) := by rw [setR, if_pos h0]
    rw [hp]
    exact ⟨rfl, lv, V, Turn.same h00 hxq⟩
  · skip
    obtain ⟨g, cap, rfl, hb, hcs⟩ := h.rows.at (k := L.length - 1) (by omega)
    have hl0 : lastP (.slice (some ⟨g, 0, none⟩) L.length cap) L.length = some ⟨g, (L.length - 1) * 7, none⟩ := by unfold lastP; simp only []; rw [if_neg (by omega)]
    rw [hl0]
    obtain ⟨T, hT⟩ : ∃ T, T = L.getD (L.length - 1) Fr.nil := ⟨_, rfl⟩
    rw [← hT] at hcs
    have htab := h.rows.tab (k := L.length - 1) (by omega)
    rw [tabl, ← hT] at htab
    obtain ⟨tv, htv⟩ : ∃ tv, tv = V (L.length - 1) := ⟨_, rfl⟩
    rw [← htv] at hcs htab
    refine W.region ?_
    refine WL.c rfl (o_mv ?_)
    refine WL.c rfl (o_eqN (p := some ⟨g, (L.length - 1) * 7, none⟩) TI77 rfl rfl ?_)
    refine WL.nil ?_
    refine W.condF' rfl (rfl) ?_
    refine W.skip ?_
    refine W.seq ?_
    refine W.seq ?_
    refine W.region ?_
    refine WL.c rfl (o_ldA TI39 rfl rfl (show Cells wq w0.heap.size 0 (fcells f fv) from Cells.of hC3 0 _ (by simp)) rfl ?_)
    refine WL.c rfl (o_call Try.call36 (lc rfl ln) ((whole_spec f fv _ hS (by rw [maxLen_eq]; omega)).mono ?_))
    rintro v11 w11 ⟨rfl, hx11⟩
    replace hxq := hxq.tr hx11
    replace h := h.ext hx11
    replace hS := hS.ext hx11
    replace hC3 := hx11.blk hC3 (fun h => h)
    refine WL.c rfl (o_not' rfl ?_)
    refine WL.nil ?_
    refine W.cond rfl (fun c12 => ?_) (fun c12 => ?_)
    · try simp only [decide_eq_true_eq, decide_eq_false_iff_not, Bool.not_eq_true', Bool.not_eq_false', Bool.and_eq_true, Bool.or_eq_true, Bool.and_eq_false_iff, Bool.or_eq_false_iff] at c12
      refine W.seq ?_
      refine W.region ?_
      refine WL.c rfl (o_as ?_)
      refine WL.nil ?_
      refine W.ret ?_
      refine ret1v rfl (show _ = Value.int _ _ from rfl) ?_
      have hp : setR L f = (3, L) := by rw [setR, if_neg (by omega), if_neg (by simp_all)]
      rw [hp]
      exact ⟨rfl, _, V, Turn.same h00 hxq⟩
    · try simp only [decide_eq_true_eq, decide_eq_false_iff_not, Bool.not_eq_true', Bool.not_eq_false', Bool.and_eq_true, Bool.or_eq_true, Bool.and_eq_false_iff, Bool.or_eq_false_iff] at c12
      refine W.skip ?_
      refine W.seq ?_
      refine W.region ?_
      refine WL.c rfl (o_mv ?_)
      refine WL.c rfl (o_ldA TI39 rfl rfl (show Cells w11 w0.heap.size 0 (fcells f fv) from Cells.of hC3 0 _ (by simp)) rfl ?_)
      refine WL.c rfl (o_call Try.call37 (lc rfl ln) ((own_spec f fv _ hS hl).mono ?_))
      rintro v15 w15 ⟨u15, rfl, hown15, hx15⟩
      have hltV : ∀ j, j < L.length → ∀ k, (V j).ownBlock = some k → k < w11.heap.size := fun j hj k hk => (h.rows.tabs.lt hj hk).2
      have hH : H ≤ w11.heap.size := by have := h.lt p (.inl rfl); have := h.lo; omega
      replace h := h.ext hx15
      have hx15' := hxq.tr hx15
      refine WL.c rfl (o_nil rfl ?_)
      refine WL.u (o_stRA TI39 rfl rfl (show _ = Value.agg (fcells f u15).toArray from rfl) rfl (fcells_one (own_one hown15)) h.rows.row hb (show L.length - 1 < L.length by omega) ?_)
      intro w16 hr16 ho16 hs16
      have hrow16 := Rows.put (f := f) (tv := u15) (k := L.length - 1) (by omega) hr16 (Many.repl (h.rows.tabs.only ho16 (fun j hj => own_row_off h.rows.row (h.rows.tabs.row j hj) (by decide))) (own_only hown15 ho16 (own_row_off h.rows.row hown15 (by decide))) hH hltV)
      refine WL.nil ?_
      refine W.seq ?_
      refine W.region ?_
      refine WL.c rfl (o_as ?_)
      refine WL.nil ?_
      refine W.ret ?_
      refine ret1v rfl (show _ = Value.int _ _ from rfl) ?_
      have hp : setR L f = (0, L.set (L.length - 1) f) := by rw [setR, if_neg (by omega), if_pos c12]
      rw [hp]
      refine ⟨rfl, _, _, ⟨ho16.blk h.cell (fun hk => h.p_off (.inl hk)), hrow16, h.lo, h.mb, by rw [List.length_set]; exact h.len, tl_set h.tl (fwhole_tab c12)⟩, hx15'.trans' ho16 (fun _ hF => hF.elim) (fun k _ hk => .inr (.inl hk)), fun k hk => ?_⟩
      rw [List.length_set] at hk
      exact ite_SF (B := w11.heap.size) (m := L.length - 1) (q := L.length) hxq.size (.inl rfl) (fun k hk => .inl (by have := (hown15.lt k hk).1; have := hxq.size; omega)) (Nat.le_refl _) (.inl hk)
theorem go_spec (H p most high : Nat) (L : List Fr) (lv : Value) (V : Nat → Value) (f : Fr) (fv : Value) (w0 : World) (h : Stk w0 H p most high L lv V) : Ca Try.prog 23 #[.pointer (some ⟨p, 0, none⟩), .agg (fcells f fv).toArray] w0 (fun v w' => v = .int .i64 (goR L f).1 ∧ ∃ lv' V', Turn w0 w' H p most high L lv V high (goR L f).2 lv' V') := by
  refine Ca.of Try.func23 Try.ntmps23 rfl rfl ?_
  refine W.seq ?_
  refine W.region ?_
  refine WL.c rfl (o_boxB rfl ?_)
  have h00 := h
  intro w3 hC3 hx3 hs3
  replace hC3 : w3.heap[w0.heap.size]? = some (.cells (fcells f fv).toArray 39 (0, 0)) := hC3
  replace h := h.ext hx3
  refine WL.c rfl (o_as ?_)
  refine WL.nil ?_
  refine W.seq ?_
  refine W.region ?_
  refine WL.c rfl (o_mv ?_)
  refine WL.c rfl (o_call Try.call34 (lc rfl ln) ((last_spec H p most high L lv V _ h).mono ?_))
  rintro v7 w7 ⟨rfl, mq, rfl⟩
  replace h := h.ext (Only.drewN w3 mq)
  replace hC3 := (Only.drewN w3 mq).blk hC3 (fun h => h)
  have hxq := hx3.tr (Only.drewN w3 mq)
  generalize w3.drewN mq = wq at *
  refine WL.c rfl (o_as ?_)
  refine WL.nil ?_
  refine W.seq ?_
  refine W.seq ?_
  rcases Nat.eq_zero_or_pos L.length with h0 | h0
  · skip
    have hl0 : lastP lv L.length = none := by unfold lastP; split <;> simp [h0]
    rw [hl0]
    refine W.region ?_
    refine WL.c rfl (o_mv ?_)
    refine WL.c rfl (o_eqN (p := none) TI77 rfl rfl ?_)
    refine WL.nil ?_
    refine W.condT' rfl (rfl) ?_
    refine W.seq ?_
    refine W.region ?_
    refine WL.c rfl (o_as ?_)
    refine WL.nil ?_
    refine W.ret ?_
    refine ret1v rfl (show _ = Value.int _ _ from rfl) ?_
    have hp : goR L f = (220, L) := by rw [goR, if_pos h0]
    rw [hp]
    exact ⟨rfl, lv, V, Turn.same h00 hxq⟩
  · skip
    obtain ⟨g, cap, rfl, hb, hcs⟩ := h.rows.at (k := L.length - 1) (by omega)
    have hl0 : lastP (.slice (some ⟨g, 0, none⟩) L.length cap) L.length = some ⟨g, (L.length - 1) * 7, none⟩ := by unfold lastP; simp only []; rw [if_neg (by omega)]
    rw [hl0]
    obtain ⟨T, hT⟩ : ∃ T, T = L.getD (L.length - 1) Fr.nil := ⟨_, rfl⟩
    rw [← hT] at hcs
    have htab := h.rows.tab (k := L.length - 1) (by omega)
    rw [tabl, ← hT] at htab
    obtain ⟨tv, htv⟩ : ∃ tv, tv = V (L.length - 1) := ⟨_, rfl⟩
    rw [← htv] at hcs htab
    refine W.region ?_
    refine WL.c rfl (o_mv ?_)
    refine WL.c rfl (o_eqN (p := some ⟨g, (L.length - 1) * 7, none⟩) TI77 rfl rfl ?_)
    refine WL.nil ?_
    refine W.condF' rfl (rfl) ?_
    refine W.skip ?_
    refine W.seq ?_
    refine W.seq ?_
    refine W.region ?_
    refine WL.c rfl (o_ldA TI39 rfl rfl (show Cells wq w0.heap.size 0 (fcells f fv) from Cells.of hC3 0 _ (by simp)) rfl ?_)
    refine WL.c rfl (o_call Try.call47 (lc rfl ln) ((right_spec f fv _).mono ?_))
    rintro v11 w11 ⟨rfl, hx11⟩
    replace hxq := hxq.tr hx11
    replace h := h.ext hx11
    replace hC3 := hx11.blk hC3 (fun h => h)
    replace hcs := hcs.only hx11 (fun h => h)
    refine WL.c rfl (o_not' rfl ?_)
    refine WL.nil ?_
    refine W.cond rfl (fun c12 => ?_) (fun c12 => ?_)
    · try simp only [decide_eq_true_eq, decide_eq_false_iff_not, Bool.not_eq_true', Bool.not_eq_false', Bool.and_eq_true, Bool.or_eq_true, Bool.and_eq_false_iff, Bool.or_eq_false_iff] at c12
      refine W.seq ?_
      refine W.region ?_
      refine WL.c rfl (o_as ?_)
      refine WL.nil ?_
      refine W.ret ?_
      refine ret1v rfl (show _ = Value.int _ _ from rfl) ?_
      have hp : goR L f = (3, L) := by rw [goR, if_neg (by omega), if_neg (by simp_all)]
      rw [hp]
      exact ⟨rfl, _, V, Turn.same h00 hxq⟩
    · try simp only [decide_eq_true_eq, decide_eq_false_iff_not, Bool.not_eq_true', Bool.not_eq_false', Bool.and_eq_true, Bool.or_eq_true, Bool.and_eq_false_iff, Bool.or_eq_false_iff] at c12
      refine W.skip ?_
      refine W.seq ?_
      refine W.region ?_
      refine WL.c rfl (o_mv ?_)
      refine WL.c rfl (o_nil rfl ?_)
      refine WL.c rfl (o_fa 6 TI39 rfl TI37 rfl rfl ?_)
      refine WL.c rfl (o_ld TI37 rfl rfl (hcs 6 _ rfl) ?_)
      refine WL.c rfl (o_fa 6 TI39 rfl TI37 rfl rfl ?_)
      refine WL.u (o_stB TI37 rfl (show _ = tv from rfl) (by rw [htv]; exact own_one (h.rows.tabs.row (L.length - 1) (by omega))) hC3 (show 6 < 7 by decide) ?_)
      intro w17 hB17 ho17 hs17
      replace hB17 : w17.heap[w0.heap.size]? = some (.cells (fcells f tv).toArray 39 (0, 0)) := hB17
      replace h := h.only ho17 (fun k hk he => by subst he; have := (h00.lt _ hk).2; omega)
      have hx17 : Ext w0 w17 := hxq.trans' ho17 (fun _ h => h) (fun j hj he => by omega)
      refine WL.nil ?_
      refine W.seq ?_
      refine W.region ?_
      refine WL.c rfl (o_mv ?_)
      refine WL.c rfl (o_ldA TI39 rfl rfl (show Cells w17 w0.heap.size 0 (fcells f tv) from Cells.of hB17 0 _ (by simp)) rfl ?_)
      refine WL.c rfl (o_nil rfl ?_)
      refine WL.u (o_stRA TI39 rfl rfl (show _ = Value.agg (fcells f tv).toArray from rfl) rfl (fcells_one (by rw [htv]; exact own_one (h.rows.tabs.row (L.length - 1) (by omega)))) h.rows.row hb (show L.length - 1 < L.length by omega) ?_)
      intro w16 hr16 ho16 hs16
      have htabs := h.rows.tabs.only ho16 (fun j hj => own_row_off h.rows.row (h.rows.tabs.row j hj) (by decide))
      have hrow16 := Rows.put (f := { f with tab := T.tab }) (tv := tv) (k := L.length - 1) (by omega) hr16 (htabs.congr (fun j _ => ite_at V htv) (fun j _ => ite_at (fun j => (tabl L j).length) (by rw [hT])) (fun j _ => ite_at (fun j => ints (tabl L j)) (by rw [hT])))
      refine WL.nil ?_
      refine W.seq ?_
      refine W.region ?_
      refine WL.c rfl (o_as ?_)
      refine WL.nil ?_
      refine W.ret ?_
      refine ret1v rfl (show _ = Value.int _ _ from rfl) ?_
      have hp : goR L f = (0, L.set (L.length - 1) { f with tab := T.tab }) := by rw [goR, if_neg (by omega), if_pos c12, topF, ← hT]
      rw [hp]
      refine ⟨rfl, _, _, ⟨ho16.blk h.cell (fun hk => h.p_off (.inl hk)), hrow16, h.lo, h.mb, by rw [List.length_set]; exact h.len, tl_set h.tl (by have := h.tl (L.length - 1) (by omega); rw [tabl, ← hT] at this; exact this)⟩, hx17.trans' ho16 (fun _ hF => hF.elim) (fun k _ hk => .inr (.inl hk)), fun k hk => ?_⟩
      rw [List.length_set] at hk
      exact ite_SF (B := w0.heap.size) (m := L.length - 1) (q := L.length) (Nat.le_refl _) (.inl rfl) (fun k hk => .inr ⟨L.length - 1, by omega, by rw [← htv]; exact hk⟩) (Nat.le_refl _) (.inl hk)
theorem mark_spec (H p most high : Nat) (L : List Fr) (lv : Value) (V : Nat → Value) (a : Int) (w0 : World) (h : Stk w0 H p most high L lv V) : Ca Try.prog 25 #[.pointer (some ⟨p, 0, none⟩), .int .i64 a] w0 (fun v w' => v = .int .i64 (markR L a).1 ∧ ∃ lv' V', Turn w0 w' H p most high L lv V high (markR L a).2 lv' V') := by
  have h00 := h
  refine Ca.of Try.func25 Try.ntmps25 rfl rfl ?_
  refine W.seq ?_
  refine W.region ?_
  refine WL.c rfl (o_as ?_)
  refine WL.nil ?_
  refine W.seq ?_
  refine W.region ?_
  refine WL.c rfl (o_mv ?_)
  refine WL.c rfl (o_call Try.call34 (lc rfl ln) ((last_spec H p most high L lv V _ h).mono ?_))
  rintro v7 w7 ⟨rfl, mq, rfl⟩
  replace h := h.ext (Only.drewN w0 mq)
  have hxq := Only.drewN w0 mq
  generalize w0.drewN mq = wq at *
  refine WL.c rfl (o_as ?_)
  refine WL.nil ?_
  refine W.seq ?_
  refine W.block ?_
  refine W.seq ?_
  rcases Nat.eq_zero_or_pos L.length with h0 | h0
  · skip
    have hl0 : lastP lv L.length = none := by unfold lastP; split <;> simp [h0]
    rw [hl0]
    refine W.region ?_
    refine WL.c rfl (o_mv ?_)
    refine WL.c rfl (o_eqN (p := none) TI77 rfl rfl ?_)
    refine WL.c rfl (o_as ?_)
    refine WL.nil ?_
    refine W.condT' rfl (rfl) ?_
    refine W.seq ?_
    refine W.region ?_
    refine WL.c rfl (o_as ?_)
    refine WL.nil ?_
    refine W.ret ?_
    refine ret1v rfl (show _ = Value.int _ _ from rfl) ?_
    have hp : markR L a = (220, L) := by rw [markR, if_pos h0]
    rw [hp]
    exact ⟨rfl, lv, V, Turn.same h00 hxq⟩
  · skip
    obtain ⟨g, cap, rfl, hb, hcs⟩ := h.rows.at (k := L.length - 1) (by omega)
    have hl0 : lastP (.slice (some ⟨g, 0, none⟩) L.length cap) L.length = some ⟨g, (L.length - 1) * 7, none⟩ := by unfold lastP; simp only []; rw [if_neg (by omega)]
    rw [hl0]
    obtain ⟨T, hT⟩ : ∃ T, T = L.getD (L.length - 1) Fr.nil := ⟨_, rfl⟩
    rw [← hT] at hcs
    have htab := h.rows.tab (k := L.length - 1) (by omega)
    rw [tabl, ← hT] at htab
    obtain ⟨tv, htv⟩ : ∃ tv, tv = V (L.length - 1) := ⟨_, rfl⟩
    rw [← htv] at hcs htab
    refine W.region ?_
    refine WL.c rfl (o_mv ?_)
    refine WL.c rfl (o_eqN (p := some ⟨g, (L.length - 1) * 7, none⟩) TI77 rfl rfl ?_)
    refine WL.c rfl (o_as ?_)
    refine WL.nil ?_
    refine W.condF' rfl (rfl) ?_
    refine W.seq ?_
    refine W.region ?_
    refine WL.c rfl (o_mv ?_)
    refine WL.c rfl (o_call Try.call48 (lc rfl (lc rfl (lc rfl ln))) ((in_spec a 0 Huge _).mono ?_))
    rintro v13 w13 ⟨rfl, rfl⟩
    refine WL.c rfl (o_not' rfl ?_)
    refine WL.c rfl (o_as ?_)
    refine WL.nil ?_
    refine W.cond rfl (fun c11 => ?_) (fun c11 => ?_)
    · try simp only [decide_eq_true_eq, decide_eq_false_iff_not, Bool.not_eq_true', Bool.not_eq_false', Bool.and_eq_true, Bool.or_eq_true, Bool.and_eq_false_iff, Bool.or_eq_false_iff] at c11
      refine W.seq ?_
      refine W.region ?_
      refine WL.c rfl (o_as ?_)
      refine WL.nil ?_
      refine W.ret ?_
      refine ret1v rfl (show _ = Value.int _ _ from rfl) ?_
      have hp : markR L a = (3, L) := by rw [markR, if_neg (by omega), if_neg (by simp_all)]
      rw [hp]
      exact ⟨rfl, _, V, Turn.same h00 hxq⟩
    · try simp only [decide_eq_true_eq, decide_eq_false_iff_not, Bool.not_eq_true', Bool.not_eq_false', Bool.and_eq_true, Bool.or_eq_true, Bool.and_eq_false_iff, Bool.or_eq_false_iff] at c11
      refine W.seq ?_
      refine W.region ?_
      refine WL.c rfl (o_mv ?_)
      refine WL.c rfl (o_nil rfl ?_)
      refine WL.c rfl (o_fa 6 TI39 rfl TI37 rfl rfl ?_)
      refine WL.c rfl (o_ld TI37 rfl rfl (hcs 6 _ rfl) ?_)
      refine WL.c rfl (o_lenR TI37 rfl htab ?_)
      refine WL.c rfl (o_ge rfl rfl ?_)
      refine WL.c rfl (o_as ?_)
      refine WL.nil ?_
      refine W.cond rfl (fun c15 => ?_) (fun c15 => ?_)
      · try simp only [decide_eq_true_eq, decide_eq_false_iff_not, Bool.not_eq_true', Bool.not_eq_false', Bool.and_eq_true, Bool.or_eq_true, Bool.and_eq_false_iff, Bool.or_eq_false_iff] at c15
        refine W.seq ?_
        refine W.region ?_
        refine WL.c rfl (o_as ?_)
        refine WL.nil ?_
        refine W.ret ?_
        refine ret1v rfl (show _ = Value.int _ _ from rfl) ?_
        have hp : markR L a = (5, L) := by rw [markR, if_neg (by omega), if_pos c11, topF, ← hT, if_pos (by omega)]
        rw [hp]
        exact ⟨rfl, _, V, Turn.same h00 hxq⟩
      · try simp only [decide_eq_true_eq, decide_eq_false_iff_not, Bool.not_eq_true', Bool.not_eq_false', Bool.and_eq_true, Bool.or_eq_true, Bool.and_eq_false_iff, Bool.or_eq_false_iff] at c15
        refine W.skip ?_
        refine W.seq ?_
        have hrow : w13.ownsRow H 3 1 tv T.tab.length (ints T.tab) := by have := h.rows.tabs.row (L.length - 1) (by omega); rw [tabl, ← hT, ← htv] at this; exact this
        have hHq : H ≤ w13.heap.size := by have := h.lt p (.inl rfl); have := h.lo; omega
        refine W.region ?_
        refine WL.c rfl (o_mv ?_)
        refine WL.c rfl (o_mv ?_)
        refine WL.c rfl (o_nil rfl ?_)
        refine WL.c rfl (o_fa 6 TI39 rfl TI37 rfl rfl ?_)
        refine WL.c rfl (o_ld TI37 rfl rfl (hcs 6 _ rfl) ?_)
        refine WL.c rfl (o_mv ?_)
        refine WL.apO (H) rfl rfl TI37 TI3 (show _ = Value.int _ _ from rfl) rfl hrow (by decide) (by decide) rfl (one1 rfl) rfl (by rw [maxLen_eq]; omega) (by omega) hHq ?_
        intro v29 w29 hown29 ho29 hb29 hk29
        have hown29 : w29.ownsRow H 3 1 v29 (T.tab ++ [a]).length (ints (T.tab ++ [a])) := by rw [List.length_append, List.length_singleton, ints, List.map_append]; exact hown29
        have hr29 := own_only h.rows.row ho29 (fun k hk hF => own_row_off h.rows.row (h.rows.tabs.row (L.length - 1) (by omega)) (by decide) k (by rw [← htv]; exact hF) hk)
        have hcell29 := ho29.blk h.cell (fun hF => h.p_off (.inr ⟨L.length - 1, by omega, by rw [← htv]; exact hF⟩))
        refine WL.c rfl (o_nil rfl ?_)
        refine WL.c rfl (o_fa 6 TI39 rfl TI37 rfl rfl ?_)
        refine WL.u (o_stRo TI37 rfl (show _ = v29 from rfl) (own_one hown29) hr29 hb (show (L.length - 1) * 7 + 6 < L.length * 7 by omega) ?_)
        intro w31 hr31 ho31 hs31
        rw [set6 (T := T) (tv := tv) (by rw [frows_at (by omega), ← hT, ← htv])] at hr31
        have hm31 := (Many.grow h.rows.tabs (j0 := L.length - 1) (by omega) (by rw [← htv]; exact ho29) (by rw [← htv]; exact hb29) (Nat.le_succ _) hown29).only ho31 (fun j hj k hk hF => by
          by_cases e : j = L.length - 1
          · simp only [if_pos e] at hk; exact own_row_off hr29 hown29 (by decide) k hk hF
          · simp only [if_neg e] at hk; exact own_row_off h.rows.row (h.rows.tabs.row j hj) (by decide) k hk hF)
        have hrow31 := Rows.put (f := { T with tab := T.tab ++ [a] }) (tv := v29) (k := L.length - 1) (by omega) hr31 hm31
        refine WL.nil ?_
        refine W.seq ?_
        refine W.region ?_
        refine WL.c rfl (o_as ?_)
        refine WL.nil ?_
        refine W.ret ?_
        refine ret1v rfl (show _ = Value.int _ _ from rfl) ?_
        have hp : markR L a = (0, L.set (L.length - 1) { T with tab := T.tab ++ [a] }) := by rw [markR, if_neg (by omega), if_pos c11, topF, ← hT, if_neg (by omega)]
        rw [hp]
        refine ⟨rfl, _, _, ⟨ho31.blk hcell29 (fun hk => h.p_off (.inl hk)), hrow31, h.lo, h.mb, by rw [List.length_set]; exact h.len, tl_set h.tl (by show (T.tab ++ [a]).length ≤ _; rw [List.length_append, List.length_singleton]; omega)⟩, (hxq.trans' (H := SF p _ V L.length) ho29 (fun _ hF => hF.elim) (fun k _ hk => .inr (.inr ⟨L.length - 1, by omega, by rw [← htv]; exact hk⟩))).trans' ho31 (fun _ hF => hF) (fun k _ hk => .inr (.inl hk)), fun k hk => ?_⟩
        rw [List.length_set] at hk
        refine ite_SF (B := w0.heap.size) (m := L.length - 1) (q := L.length) (Nat.le_refl _) (.inl rfl) (fun k hk => ?_) (Nat.le_refl _) (.inl hk)
        have := hxq.size
        rcases hb29 with hb29 | hb29 <;> rw [hb29] at hk
        · exact .inr ⟨L.length - 1, by omega, by rw [← htv]; exact hk⟩
        · cases hk; exact .inl (by omega)
theorem clip_spec (a : Option Addr) (n c : Nat) (w0 : World) (hnc : n ≤ c) : Ca Try.prog 35 #[.slice a n c] w0 (fun v w' => v = .slice a n n ∧ w' = w0) := by
  refine Ca.of Try.func35 Try.ntmps35 rfl rfl ?_
  refine W.seq ?_
  refine W.region ?_
  refine WL.c rfl (o_as ?_)
  refine WL.nil ?_
  refine W.seq ?_
  refine W.region ?_
  refine WL.c rfl (o_mv ?_)
  refine WL.c rfl (o_mv ?_)
  refine WL.c rfl (o_len TI37 rfl ?_)
  refine WL.c rfl (o_mv ?_)
  refine WL.c rfl (o_len TI37 rfl ?_)
  refine WL.c rfl (o_clip TI37 TI3 rfl rfl rfl (hnc) ?_)
  refine WL.c rfl (o_as ?_)
  refine WL.nil ?_
  refine W.ret ?_
  refine ret1v rfl rfl ?_
  exact ⟨rfl, rfl⟩
theorem head_spec (H p most high : Nat) (L : List Fr) (lv : Value) (V : Nat → Value) (w0 : World) (h : Stk w0 H p most high L lv V) : Ca Try.prog 28 #[.pointer (some ⟨p, 0, none⟩)] w0 (fun v w' => v = .tuple #[.agg (fcells (topF L) (.slice none 0 0)).toArray, .int .i64 (emptyE L)] ∧ Ext w0 w') := by
  refine Ca.of Try.func28 Try.ntmps28 rfl rfl ?_
  refine W.seq ?_
  refine W.region ?_
  refine WL.c rfl (o_alB TI39 ?_)
  intro w2 hC2 hx2 hs2
  replace h := h.ext hx2
  refine WL.c rfl (o_as ?_)
  refine WL.nil ?_
  refine W.seq ?_
  refine W.region ?_
  refine WL.c rfl (o_mv ?_)
  refine WL.c rfl (o_call Try.call34 (lc rfl ln) ((last_spec H p most high L lv V _ h).mono ?_))
  rintro v7 w7 ⟨rfl, mq, rfl⟩
  replace h := h.ext (Only.drewN w2 mq)
  replace hC2 := (Only.drewN w2 mq).blk hC2 (fun h => h)
  have hxq := hx2.tr (Only.drewN w2 mq)
  generalize w2.drewN mq = wq at *
  refine WL.c rfl (o_as ?_)
  refine WL.nil ?_
  refine W.seq ?_
  refine W.seq ?_
  rcases Nat.eq_zero_or_pos L.length with h0 | h0
  · skip
    have hl0 : lastP lv L.length = none := by unfold lastP; split <;> simp [h0]
    rw [hl0]
    refine W.region ?_
    refine WL.c rfl (o_mv ?_)
    refine WL.c rfl (o_eqN (p := none) TI77 rfl rfl ?_)
    refine WL.nil ?_
    refine W.condT' rfl (rfl) ?_
    refine W.seq ?_
    refine W.region ?_
    refine WL.c rfl (o_bldC (cs := [(.int .i64 0), (.int .i64 0), (.int .i64 0), (.int .i64 0), (.int .i64 0), (.int .i64 0), (.slice none 0 0)]) TI39 (Sizes.cons TI3 (Sizes.cons TI3 (Sizes.cons TI3 (Sizes.cons TI3 (Sizes.cons TI3 (Sizes.cons TI3 (Sizes.cons TI37 Sizes.nil))))))) rfl lnp rfl rfl ?_)
    refine WL.u (o_stA TI39 rfl rfl rfl rfl hC2 rfl ?_)
    intro w9 hB9 ho9 hs9
    refine WL.c rfl (o_as ?_)
    refine WL.nil ?_
    refine W.ret ?_
    refine retCT rfl TI39 rfl (show _ = Value.int _ _ from rfl) rfl (show Cells w9 w0.heap.size 0 (fcells Fr.nil (.slice none 0 0)) from Cells.of hB9 0 _ (by simp [fcells, Fr.nil])) rfl ?_
    rw [topF_nil h0, emptyE, if_pos h0]
    exact ⟨rfl, hxq.trans' ho9 (fun _ h => h) (fun j hj he => by omega)⟩
  · skip
    obtain ⟨g, cap, rfl, hb, hcs⟩ := h.rows.at (k := L.length - 1) (by omega)
    have hl0 : lastP (.slice (some ⟨g, 0, none⟩) L.length cap) L.length = some ⟨g, (L.length - 1) * 7, none⟩ := by unfold lastP; simp only []; rw [if_neg (by omega)]
    rw [hl0]
    obtain ⟨T, hT⟩ : ∃ T, T = L.getD (L.length - 1) Fr.nil := ⟨_, rfl⟩
    rw [← hT] at hcs
    have htab := h.rows.tab (k := L.length - 1) (by omega)
    rw [tabl, ← hT] at htab
    obtain ⟨tv, htv⟩ : ∃ tv, tv = V (L.length - 1) := ⟨_, rfl⟩
    rw [← htv] at hcs htab
    refine W.region ?_
    refine WL.c rfl (o_mv ?_)
    refine WL.c rfl (o_eqN (p := some ⟨g, (L.length - 1) * 7, none⟩) TI77 rfl rfl ?_)
    refine WL.nil ?_
    refine W.condF' rfl (rfl) ?_
    refine W.skip ?_
    refine W.seq ?_
    refine W.region ?_
    refine WL.c rfl (o_mv ?_)
    refine WL.c rfl (o_nil rfl ?_)
    refine WL.c rfl (o_ldA TI39 rfl rfl hcs rfl ?_)
    refine WL.c rfl (o_alB TI39 ?_)
    intro w5 hC5 hx5 hs5
    have hne : w0.heap.size < wq.heap.size := (Array.getElem?_eq_some_iff.1 hC2).1
    replace hC2 := hx5.blk hC2 (fun h => h)
    refine WL.u (o_stA TI39 rfl (show _ = Value.agg (fcells T tv).toArray from rfl) rfl (fcells_one (by rw [htv]; exact own_one (h.rows.tabs.row (L.length - 1) (by omega)))) hC5 rfl ?_)
    intro w6 hB6 ho6 hs6
    replace hC2 := ho6.blk hC2 (show ¬ w0.heap.size = wq.heap.size by omega)
    refine WL.nil ?_
    refine W.seq ?_
    refine W.region ?_
    refine WL.c rfl (o_fa 6 TI39 rfl TI37 rfl rfl ?_)
    refine WL.u (o_stB TI37 rfl rfl rfl hB6 (show 6 < 7 by decide) ?_)
    intro w7 hB7 ho7 hs7
    replace hB7 : w7.heap[wq.heap.size]? = some (.cells (fcells T (.slice none 0 0)).toArray 39 (0, 0)) := hB7
    replace hC2 := ho7.blk hC2 (show ¬ w0.heap.size = wq.heap.size by omega)
    refine WL.nil ?_
    refine W.seq ?_
    refine W.region ?_
    refine WL.c rfl (o_ldA TI39 rfl rfl (show Cells w7 wq.heap.size 0 (fcells T (.slice none 0 0)) from Cells.of hB7 0 _ (by simp)) rfl ?_)
    refine WL.u (o_stA TI39 rfl (show _ = Value.agg (fcells T (.slice none 0 0)).toArray from rfl) rfl (fcells_one rfl) hC2 rfl ?_)
    intro w8 hB8 ho8 hs8
    refine WL.c rfl (o_as ?_)
    refine WL.nil ?_
    refine W.ret ?_
    refine retCT rfl TI39 rfl (show _ = Value.int _ _ from rfl) rfl (show Cells w8 w0.heap.size 0 (fcells T (.slice none 0 0)) from Cells.of hB8 0 _ (by simp)) rfl ?_
    have hT' : topF L = T := hT.symm
    rw [hT', emptyE, if_neg (show ¬ L.length = 0 by omega)]
    exact ⟨rfl, (((hxq.tr hx5).trans' ho6 (fun _ h => h) (fun j hj he => by omega)).trans' ho7 (fun _ h => h) (fun j hj he => by omega)).trans' ho8 (fun _ h => h) (fun j hj he => by omega)⟩
theorem pop_spec (H p most high : Nat) (L : List Fr) (lv : Value) (V : Nat → Value) (w0 : World) (h : Stk w0 H p most high L lv V) : Ca Try.prog 14 #[.pointer (some ⟨p, 0, none⟩)] w0 (fun v w' => ∃ tv, v = .tuple #[.agg (fcells (topF L) tv).toArray, .int .i64 (emptyE L)] ∧ Clipd w' H tv (topF L).tab ∧ ∃ lv' V', Turn w0 w' H p most high L lv V high (L.take (L.length - 1)) lv' V' ∧ ∀ k, tv.ownBlock = some k → RF lv V L.length k ∧ ¬ SF p lv' V' (L.length - 1) k) := by
  have h00 := h
  refine Ca.of Try.func14 Try.ntmps14 rfl rfl ?_
  refine W.seq ?_
  refine W.region ?_
  refine WL.c rfl (o_alB TI39 ?_)
  intro w2 hC2 hx2 hs2
  replace h := h.ext hx2
  refine WL.c rfl (o_as ?_)
  refine WL.nil ?_
  refine W.seq ?_
  refine W.region ?_
  refine WL.c rfl (o_mv ?_)
  refine WL.c rfl (o_call Try.call34 (lc rfl ln) ((last_spec H p most high L lv V _ h).mono ?_))
  rintro v7 w7 ⟨rfl, mq, rfl⟩
  replace h := h.ext (Only.drewN w2 mq)
  replace hC2 := (Only.drewN w2 mq).blk hC2 (fun h => h)
  have hxq := hx2.tr (Only.drewN w2 mq)
  generalize w2.drewN mq = wq at *
  refine WL.c rfl (o_as ?_)
  refine WL.nil ?_
  refine W.seq ?_
  refine W.seq ?_
  rcases Nat.eq_zero_or_pos L.length with h0 | h0
  · skip
    have hl0 : lastP lv L.length = none := by unfold lastP; split <;> simp [h0]
    rw [hl0]
    refine W.region ?_
    refine WL.c rfl (o_mv ?_)
    refine WL.c rfl (o_eqN (p := none) TI77 rfl rfl ?_)
    refine WL.nil ?_
    refine W.condT' rfl (rfl) ?_
    refine W.seq ?_
    refine W.region ?_
    refine WL.c rfl (o_bldC (cs := [(.int .i64 0), (.int .i64 0), (.int .i64 0), (.int .i64 0), (.int .i64 0), (.int .i64 0), (.slice none 0 0)]) TI39 (Sizes.cons TI3 (Sizes.cons TI3 (Sizes.cons TI3 (Sizes.cons TI3 (Sizes.cons TI3 (Sizes.cons TI3 (Sizes.cons TI37 Sizes.nil))))))) rfl lnp rfl rfl ?_)
    refine WL.u (o_stA TI39 rfl rfl rfl rfl hC2 rfl ?_)
    intro w9 hB9 ho9 hs9
    refine WL.c rfl (o_as ?_)
    refine WL.nil ?_
    refine W.ret ?_
    refine retCT rfl TI39 rfl (show _ = Value.int _ _ from rfl) rfl (show Cells w9 w0.heap.size 0 (fcells Fr.nil (.slice none 0 0)) from Cells.of hB9 0 _ (by simp [fcells, Fr.nil])) rfl ?_
    rw [topF_nil h0, emptyE, if_pos h0, List.length_eq_zero_iff.1 h0]
    rw [List.length_eq_zero_iff.1 h0] at h00
    exact ⟨.slice none 0 0, rfl, ⟨none, 0, rfl, World.ownsRow_nil _ _ _ _⟩, lv, V, Turn.same h00 (hxq.trans' ho9 (fun _ h => h) (fun j hj he => by omega)), fun k hk => by cases hk⟩
  · skip
    obtain ⟨g, cap, rfl, hb, hcs⟩ := h.rows.at (k := L.length - 1) (by omega)
    have hl0 : lastP (.slice (some ⟨g, 0, none⟩) L.length cap) L.length = some ⟨g, (L.length - 1) * 7, none⟩ := by unfold lastP; simp only []; rw [if_neg (by omega)]
    rw [hl0]
    obtain ⟨T, hT⟩ : ∃ T, T = L.getD (L.length - 1) Fr.nil := ⟨_, rfl⟩
    rw [← hT] at hcs
    have htab := h.rows.tab (k := L.length - 1) (by omega)
    rw [tabl, ← hT] at htab
    obtain ⟨tv, htv⟩ : ∃ tv, tv = V (L.length - 1) := ⟨_, rfl⟩
    rw [← htv] at hcs htab
    refine W.region ?_
    refine WL.c rfl (o_mv ?_)
    refine WL.c rfl (o_eqN (p := some ⟨g, (L.length - 1) * 7, none⟩) TI77 rfl rfl ?_)
    refine WL.nil ?_
    refine W.condF' rfl (rfl) ?_
    refine W.skip ?_
    refine W.seq ?_
    have hrow : wq.ownsRow H 3 1 tv T.tab.length (ints T.tab) := by have := h.rows.tabs.row (L.length - 1) (by omega); rw [tabl, ← hT, ← htv] at this; exact this
    obtain ⟨ta, tc, rfl, htc⟩ := own_form hrow
    refine W.region ?_
    refine WL.c rfl (o_mv ?_)
    refine WL.c rfl (o_nil rfl ?_)
    refine WL.c rfl (o_ldA TI39 rfl rfl hcs rfl ?_)
    refine WL.c rfl (o_alB TI39 ?_)
    intro w5 hC5 hx5 hs5
    have hne : w0.heap.size < wq.heap.size := (Array.getElem?_eq_some_iff.1 hC2).1
    replace hC2 := hx5.blk hC2 (fun h => h)
    replace h := h.ext hx5
    refine WL.u (o_stA TI39 rfl (show _ = Value.agg (fcells T (.slice ta T.tab.length tc)).toArray from rfl) rfl (fcells_one rfl) hC5 rfl ?_)
    intro w6 hB6 ho6 hs6
    replace hC2 := ho6.blk hC2 (show ¬ w0.heap.size = wq.heap.size by omega)
    replace h := h.only ho6 (fun k hk he => by have := (h00.lt k hk).2; omega)
    have hcell := h.cell
    have hx6 : Ext w0 w6 := (hxq.tr hx5).trans' ho6 (fun _ h => h) (fun j hj he => by omega)
    refine WL.nil ?_
    refine W.seq ?_
    refine W.tail 12 rfl (by kernel_rfl) ?_
    refine WS.c rfl ((SO.o rfl (o_mv ⟨rfl, rfl⟩))) ?_
    refine WS.c rfl ((SO.r (r_nil rfl))) ?_
    refine WS.c rfl ((SO.o rfl (o_fa 2 TI71 rfl TI22 rfl rfl ⟨rfl, rfl⟩))) ?_
    refine WS.c rfl ((SO.o rfl (o_ld TI22 rfl rfl (cell_of hcell rfl) ⟨rfl, rfl⟩))) ?_
    refine WS.c rfl ((SO.o rfl (o_mv ⟨rfl, rfl⟩))) ?_
    refine WS.c rfl ((SO.r (r_nil rfl))) ?_
    refine WS.c rfl ((SO.o rfl (o_fa 2 TI71 rfl TI22 rfl rfl ⟨rfl, rfl⟩))) ?_
    refine WS.c rfl ((SO.o rfl (o_ld TI22 rfl rfl (cell_of hcell rfl) ⟨rfl, rfl⟩))) ?_
    refine WS.c rfl ((SO.r (r_len TI22 rfl))) ?_
    refine WS.c rfl ((SO.o rfl (o_subi rfl rfl (by have := h.len; have := h.mb; omega) ⟨rfl, rfl⟩))) ?_
    refine WS.c rfl ((SO.o rfl (o_bldC (cs := [(.int .i64 0), (.int .i64 0), (.int .i64 0), (.int .i64 0), (.int .i64 0), (.int .i64 0), (.slice none 0 0)]) TI39 (Sizes.cons TI3 (Sizes.cons TI3 (Sizes.cons TI3 (Sizes.cons TI3 (Sizes.cons TI3 (Sizes.cons TI3 (Sizes.cons TI37 Sizes.nil))))))) rfl lnp rfl rfl ⟨rfl, rfl⟩))) ?_
    refine WS.c rfl ((SO.o rfl (o_ixB (i := L.length - 1) TI22 TI39 rfl (by show Value.int _ ((L.length : Int) - 1) = _; congr 1; omega) (by omega) ⟨rfl, rfl⟩))) ?_
    refine WS.nil ?_
    replace h := h.ext (Only.drew w6)
    replace hB6 : w6.drew.heap[wq.heap.size]? = _ := hB6
    replace hC2 : w6.drew.heap[w0.heap.size]? = _ := hC2
    replace hx6 := hx6.tr (Only.drew w6)
    replace hrow := own_only hrow ((hx5.trans' ho6 (fun _ h => h) (fun j hj he => by omega)).tr (Only.drew w6)) (fun _ _ h => h)
    replace hs6 : w6.drew.heap.size = w5.heap.size := hs6
    generalize w6.drew = wd at *
    refine WL.u (o_stRA TI39 rfl (Nat.zero_add _) (show _ = Value.agg (fcells Fr.nil (.slice none 0 0)).toArray from rfl) rfl rfl h.rows.row hb (show L.length - 1 < L.length by omega) ?_)
    intro w8 hr8 ho8 hs8
    have hr8' := own_take hr8 (show L.length - 1 ≤ L.length by omega)
    have hrow8 : w8.ownsRow H 3 1 (.slice ta T.tab.length tc) T.tab.length (ints T.tab) := own_only hrow ho8 (own_row_off h.rows.row hrow (by decide))
    rw [List.append_assoc, List.take_append_of_le_length (by rw [List.length_take, frows_len]; omega), List.take_take, Nat.min_self, frows_take (by omega)] at hr8'
    have hm8 := h.rows.tabs.only ho8 (fun j hj => own_row_off h.rows.row (h.rows.tabs.row j hj) (by decide))
    have hcell8 := ho8.blk h.cell (fun hk => h.p_off (.inl hk))
    replace hB6 := ho8.blk hB6 (fun hk => by have := (h00.lt _ (.inr (.inl hk))).2; omega)
    replace hC2 := ho8.blk hC2 (fun hk => by have := (h00.lt _ (.inr (.inl hk))).2; omega)
    refine WL.nil ?_
    refine W.seq ?_
    refine W.tail 14 rfl (by kernel_rfl) ?_
    refine WS.c rfl ((SO.o rfl (o_mv ⟨rfl, rfl⟩))) ?_
    refine WS.c rfl ((SO.o rfl (o_mv ⟨rfl, rfl⟩))) ?_
    refine WS.c rfl ((SO.r (r_nil rfl))) ?_
    refine WS.c rfl ((SO.o rfl (o_fa 2 TI71 rfl TI22 rfl rfl ⟨rfl, rfl⟩))) ?_
    refine WS.c rfl ((SO.o rfl (o_ld TI22 rfl rfl (cell_of hcell8 rfl) ⟨rfl, rfl⟩))) ?_
    refine WS.c rfl ((SO.o rfl (o_mv ⟨rfl, rfl⟩))) ?_
    refine WS.c rfl ((SO.r (r_nil rfl))) ?_
    refine WS.c rfl ((SO.o rfl (o_fa 2 TI71 rfl TI22 rfl rfl ⟨rfl, rfl⟩))) ?_
    refine WS.c rfl ((SO.o rfl (o_ld TI22 rfl rfl (cell_of hcell8 rfl) ⟨rfl, rfl⟩))) ?_
    refine WS.c rfl ((SO.r (r_len TI22 rfl))) ?_
    refine WS.c rfl ((SO.o rfl (o_subi rfl rfl (by have := h.len; have := h.mb; omega) ⟨rfl, rfl⟩))) ?_
    refine WS.c rfl ((SO.o rfl (o_slv (h := L.length - 1) TI22 TI39 rfl Lo.n (Hi.s (by show Value.int .i64 ((L.length : Int) - 1) = _; congr 1; omega)) (Nat.zero_le _) (show _ ≤ cap by obtain ⟨_, _, hv, _, _, hnc, _⟩ := own_blk h.rows.row hb; simp only [Value.slice.injEq] at hv; omega) ⟨rfl, (sliced0 _ _ _ _).symm⟩))) ?_
    refine WS.c rfl ((SO.r (r_nil rfl))) ?_
    refine WS.c rfl ((SO.o rfl (o_fa 2 TI71 rfl TI22 rfl rfl ⟨rfl, rfl⟩))) ?_
    refine WS.nil ?_
    refine WL.u (o_stB TI22 rfl (show _ = Value.slice (some ⟨g, 0, none⟩) (L.length - 1) cap from rfl) rfl hcell8 (show 2 < 3 by decide) ?_)
    intro w10 hB10 ho10 hs10
    replace ho10 : Only (fun k => k = p) w8 w10 := (Only.drew w8).trans' ho10 (fun _ hF => hF.elim) (fun _ _ h => h)
    replace hB10 : w10.heap[p]? = some (.cells #[.int .i64 (most : Int), .int .i64 (high : Int), .slice (some ⟨g, 0, none⟩) (L.length - 1) cap] 71 (0, 0)) := hB10
    have hp0 := (h00.lt p (.inl rfl)).2
    have hr10 := own_only hr8' ho10 (fun k hk he => by subst he; exact own_off hr8' hcell8 (by decide) hk)
    have hrow10 := own_only hrow8 ho10 (fun k hk he => by subst he; exact own_off hrow8 hcell8 (by decide) hk)
    have hm10 := hm8.only ho10 (fun j hj k hk he => by subst he; exact own_off (hm8.row j hj) hcell8 (by decide) hk)
    replace hB6 := ho10.blk hB6 (show ¬ wq.heap.size = p by omega)
    replace hC2 := ho10.blk hC2 (show ¬ w0.heap.size = p by omega)
    refine WL.nil ?_
    refine W.seq ?_
    refine W.region ?_
    refine WL.c rfl (o_fa 6 TI39 rfl TI37 rfl rfl ?_)
    refine WL.c rfl (o_ld TI37 rfl rfl (cell_of hB6 rfl) ?_)
    refine WL.c rfl (o_call Try.call35 (lc rfl ln) ((clip_spec ta T.tab.length tc _ htc).mono ?_))
    rintro v42 w42 ⟨rfl, rfl⟩
    refine WL.c rfl (o_fa 6 TI39 rfl TI37 rfl rfl ?_)
    refine WL.u (o_stB TI37 rfl (show _ = Value.slice ta T.tab.length T.tab.length from rfl) rfl hB6 (show 6 < 7 by decide) ?_)
    intro w11 hB11 ho11 hs11
    replace hB11 : w11.heap[wq.heap.size]? = some (.cells (fcells T (.slice ta T.tab.length T.tab.length)).toArray 39 (0, 0)) := hB11
    replace hC2 := ho11.blk hC2 (show ¬ w0.heap.size = wq.heap.size by omega)
    refine WL.nil ?_
    refine W.seq ?_
    refine W.region ?_
    refine WL.c rfl (o_ldA TI39 rfl rfl (show Cells w11 wq.heap.size 0 (fcells T (.slice ta T.tab.length T.tab.length)) from Cells.of hB11 0 _ (by simp)) rfl ?_)
    refine WL.u (o_stA TI39 rfl (show _ = Value.agg (fcells T (.slice ta T.tab.length T.tab.length)).toArray from rfl) rfl (fcells_one rfl) hC2 rfl ?_)
    intro w12 hB12 ho12 hs12
    refine WL.c rfl (o_as ?_)
    refine WL.nil ?_
    refine W.ret ?_
    refine retCT rfl TI39 rfl (show _ = Value.int _ _ from rfl) rfl (show Cells w12 w0.heap.size 0 (fcells T (.slice ta T.tab.length T.tab.length)) from Cells.of hB12 0 _ (by simp)) rfl ?_
    have hT' : topF L = T := hT.symm
    rw [hT', emptyE, if_neg (show ¬ L.length = 0 by omega)]
    have hn12 : ∀ k, (k = wq.heap.size ∨ k = w0.heap.size) → w0.heap.size ≤ k := fun k hk => by omega
    have hl1 : (L.take (L.length - 1)).length = L.length - 1 := by rw [List.length_take]; omega
    have e1 : ∀ j, j < L.length - 1 → tabl (L.take (L.length - 1)) j = tabl L j := fun j hj => by simp only [tabl, List.getD_eq_getElem?_getD, List.getElem?_take, if_pos hj]
    have hoN : Only (fun k => k = wq.heap.size ∨ k = w0.heap.size) w42 w12 := (ho11.mono (fun _ _ h => .inl h)).trans' ho12 (fun _ h => h) (fun _ _ h => .inr h)
    have hSF : ∀ k, SF p (.slice (some ⟨g, 0, none⟩) L.length cap) V L.length k → ¬ (k = wq.heap.size ∨ k = w0.heap.size) := fun k hk he => by have := (h00.lt k hk).2; have := hn12 k he; omega
    have htvk : ∀ k, (Value.slice ta T.tab.length tc).ownBlock = some k → (V (L.length - 1)).ownBlock = some k := fun k hk => by rw [← htv]; exact hk
    refine ⟨.slice ta T.tab.length T.tab.length, rfl, ⟨ta, tc, rfl, own_only hrow10 hoN (fun k hk => hSF k (.inr (.inr ⟨L.length - 1, by omega, htvk k hk⟩)))⟩, .slice (some ⟨g, 0, none⟩) (L.length - 1) cap, V, ⟨⟨hoN.blk hB10 (hSF p (.inl rfl)), ⟨?_, ?_⟩, h.lo, h.mb, by rw [hl1]; have := h.len; omega, fun k hk => by rw [hl1] at hk; rw [e1 k hk]; exact h.tl k (by omega)⟩, ?_, fun k hk => ?_⟩, fun k hk => ⟨.inr ⟨L.length - 1, by omega, htvk k (by cases ta <;> exact hk)⟩, ?_⟩⟩
    · rw [hl1]
      exact own_only hr10 hoN (fun k hk => hSF k (.inr (.inl hk)))
    · rw [hl1]
      have hm12 := hm10.only hoN (fun j hj k hk => hSF k (.inr (.inr ⟨j, hj, hk⟩)))
      exact ⟨fun j hj => by rw [e1 j hj]; exact hm12.row j (by omega), fun i j hi hj => hm12.off i j (by omega) (by omega)⟩
    · exact (((hx6.trans' (H := SF p (.slice (some ⟨g, 0, none⟩) L.length cap) V L.length) ho8 (fun _ h => h.elim) (fun k _ hk => .inr (.inl hk))).trans' ho10 (fun _ h => h) (fun k _ hk => .inl hk)).trans' hoN (fun _ h => h) (fun k hk he => by have := hn12 k he; omega))
    · rw [hl1] at hk
      rcases hk with rfl | hk | ⟨j, hj, hk⟩
      · exact .inl (.inl rfl)
      · exact .inl (.inr (.inl hk))
      · exact .inl (.inr (.inr ⟨j, by omega, hk⟩))
    · have hk' : (Value.slice ta T.tab.length tc).ownBlock = some k := by cases ta <;> exact hk
      rintro (rfl | hF | ⟨j, hj, hF⟩)
      · exact own_off hrow8 hcell8 (by decide) hk'
      · exact own_row_off h.rows.row hrow (by decide) k hk' hF
      · exact h.rows.tabs.off j (L.length - 1) (by omega) (by omega) (by omega) k hF (htvk k hk')

def vI (n : Int) : List UInt8 := vput n.toNat
def fnums (f : Fr) : List Int := [f.rt, f.pl, f.bs, f.en + 1, f.nd + 1, f.nx, (f.tab.length : Int)]
def fbytes (f : Fr) : List UInt8 := (fnums f).flatMap vI ++ f.tab.flatMap vI
def saved (most high : Nat) (L : List Fr) : List UInt8 := 102 :: ([(most : Int), (L.length : Int), (high : Int)].flatMap vI ++ L.flatMap fbytes)
def numOk (n : Int) : Prop := 0 ≤ n ∧ n ≤ 4611686018427387905
theorem numOk_lt {n : Int} (h : numOk n) : n.toNat < 2 ^ 64 := by
  have := h.2
  have := h.1
  have : (2 : Nat) ^ 64 = 18446744073709551616 := by decide
  omega
theorem vI_len {n : Int} (h : numOk n) : (vI n).length ≤ 10 := by
  unfold vI; rw [vput_len]
  exact vsize_10 (by have := h.2; have := h.1; have : (2:Nat)^64 = 18446744073709551616 := by decide
                     omega)
theorem vIs_len : ∀ {l : List Int}, (∀ n ∈ l, numOk n) → (l.flatMap vI).length ≤ 10 * l.length
  | [], _ => by simp
  | a :: l, h => by
    have := vIs_len (fun n hn => h n (List.mem_cons_of_mem _ hn))
    have := vI_len (h a (List.mem_cons_self ..))
    rw [List.flatMap_cons, List.length_append, List.length_cons]; omega
theorem inb_iff {n lo hi : Int} : inb n lo hi = true ↔ lo ≤ n ∧ n ≤ hi := by simp [inb]
theorem fnums_ok {f : Fr} (h : fwhole f = true) : ∀ n ∈ fnums f, numOk n := by
  have ht := fwhole_tab h
  simp only [fwhole, fright, Bool.and_eq_true, inb_iff] at h
  intro n hn
  simp only [fnums, List.mem_cons, List.not_mem_nil, or_false] at hn
  unfold numOk
  simp only [Huge] at h
  rcases hn with rfl | rfl | rfl | rfl | rfl | rfl | rfl <;> omega
theorem ftab_ok {f : Fr} (h : fwhole f = true) : ∀ n ∈ f.tab, numOk n := by
  intro n hn
  simp only [fwhole, tright, Bool.and_eq_true, List.all_eq_true] at h
  have := inb_iff.1 (h.2.2 n hn)
  simp only [Huge] at this
  unfold numOk; omega
theorem fbytes_len {f : Fr} (h : fwhole f = true) : (fbytes f).length ≤ 10485830 := by
  have h1 := vIs_len (fnums_ok h)
  have h2 := vIs_len (ftab_ok h)
  have h3 := fwhole_tab h
  rw [fbytes, List.length_append]
  have : (fnums f).length = 7 := rfl
  omega
theorem frames_len : ∀ {L : List Fr}, (∀ f ∈ L, fwhole f = true) → (L.flatMap fbytes).length ≤ 10485830 * L.length
  | [], _ => by simp
  | a :: l, h => by
    have := frames_len (fun n hn => h n (List.mem_cons_of_mem _ hn))
    have := fbytes_len (h a (List.mem_cons_self ..))
    rw [List.flatMap_cons, List.length_append, List.length_cons]; omega
structure OutV (w : World) (B b : Nat) (ov : Value) (xs : List UInt8) : Prop where
  cell : w.heap[b]? = some (.cells #[ov] 23 (0, 0))
  row : w.ownsRow B 5 1 ov xs.length (xs.map bv)
theorem OutV.only {w w' : World} {B b : Nat} {ov : Value} {xs : List UInt8} {F : Nat → Prop} (h : OutV w B b ov xs) (ho : Only F w w') (hb : ¬ F b) (hk : ∀ k, ov.ownBlock = some k → ¬ F k) : OutV w' B b ov xs := ⟨ho.blk h.cell hb, own_only h.row ho hk⟩
theorem OutV.ext {w w' : World} {B b : Nat} {ov : Value} {xs : List UInt8} (h : OutV w B b ov xs) (ho : Ext w w') : OutV w' B b ov xs := h.only ho (fun h => h) (fun _ _ h => h)
theorem OutV.off {w : World} {B b : Nat} {ov : Value} {xs : List UInt8} (h : OutV w B b ov xs) : ¬ ov.ownBlock = some b := own_off h.row h.cell (by decide)
theorem o_cvN {P : Program} {e : Env} {w : World} {K : Value → World → Prop} {ty : TypeId} {x : Operand} {t u : TypeId} {z0 : Int} {s b s' b' : Nat} {z z' : Value} (ht : Ty P t (.int .i64) s b z) (hu : Ty P u (.int .u64) s' b' z') (hx : ev e x = .int .i64 z0) (h0 : 0 ≤ z0) (h1 : z0 < 18446744073709551616) (kk : K (.int .u64 (z0.toNat : Int)) w) : OP P e (.convert t u x) ty w K :=
  o_cvI ht hu hx (by
    obtain ⟨n, rfl⟩ : ∃ n : Nat, z0 = (n : Int) := ⟨z0.toNat, by omega⟩
    have h2 : IntKind.u64.wrap (n : Int) = (n : Int) := by
      rw [wrapU (by decide)]
      have h3 : 2 ^ ubits IntKind.u64 = 18446744073709551616 := by decide
      rw [h3, Nat.mod_eq_of_lt (by omega)]
    rw [h2]; exact kk)
theorem own_newN {w : World} {vs : List Value} {el : TypeId} {n : Nat} (hl : vs.length = n) (hm : n ≤ maxLen) : (w.alloc (.cells vs.toArray el)).ownsRow w.heap.size el 1 (.slice (some ⟨w.heap.size, 0, none⟩) n n) n vs :=
  ⟨by simp [hl], .inr ⟨w.heap.size, n, vs.toArray, rfl, Nat.le_refl _, heap_alloc_new w _, Nat.le_refl _, hm, by simp [hl], by rw [Nat.mul_one]; exact List.take_of_length_le (by simp [hl])⟩⟩
theorem take_flat {α : Type} {f : α → List UInt8} {l : List α} {k : Nat} (h : k < l.length) : (l.take (k + 1)).flatMap f = (l.take k).flatMap f ++ f l[k] := by
  rw [← List.take_append_getElem h, List.flatMap_append]; simp

theorem clipb_spec (a : Option Addr) (n c : Nat) (w0 : World) (hnc : n ≤ c) : Ca Try.prog 31 #[.slice a n c] w0 (fun v w' => v = .slice a n n ∧ w' = w0) := by
  refine Ca.of Try.func31 Try.ntmps31 rfl rfl ?_
  refine W.seq ?_
  refine W.region ?_
  refine WL.c rfl (o_as ?_)
  refine WL.nil ?_
  refine W.seq ?_
  refine W.region ?_
  refine WL.c rfl (o_mv ?_)
  refine WL.c rfl (o_mv ?_)
  refine WL.c rfl (o_len TI23 rfl ?_)
  refine WL.c rfl (o_mv ?_)
  refine WL.c rfl (o_len TI23 rfl ?_)
  refine WL.c rfl (o_clip TI23 TI5 rfl rfl rfl (hnc) ?_)
  refine WL.c rfl (o_as ?_)
  refine WL.nil ?_
  refine W.ret ?_
  refine ret1v rfl rfl ?_
  exact ⟨rfl, rfl⟩
theorem save1_spec (H0 B b : Nat) (l : List Int) (lv ov : Value) (xs : List UInt8) (w0 : World) (hrow : w0.ownsRow H0 3 1 lv l.length (ints l)) (ho : OutV w0 B b ov xs) (hBb : B ≤ b) (hok : ∀ n ∈ l, numOk n) (hlen : xs.length + 10 * l.length ≤ 100000000000000) (hll : l.length ≤ 16777216) : Ca Try.prog 29 #[lv, .pointer (some ⟨b, 0, none⟩)] w0 (fun v w' => ∃ ov', OutV w' B b ov' (xs ++ l.flatMap vI) ∧ Only (fun k => k = b ∨ ov.ownBlock = some k) w0 w' ∧ (ov'.ownBlock = ov.ownBlock ∨ ∃ g, w0.heap.size ≤ g ∧ ov'.ownBlock = some g)) := by
  refine Ca.of Try.func29 Try.ntmps29 rfl rfl ?_
  refine W.seq ?_
  refine W.region ?_
  refine WL.c rfl (o_mv ?_)
  refine WL.c rfl (o_lenR TI37 rfl (Sl.own hrow) ?_)
  refine WL.c rfl (o_mv ?_)
  refine WL.nil ?_
  refine W.block ?_
  refine W.loop (fun e w => ∃ (k : Nat) (ou : Value), k ≤ l.length ∧ e 1 = .pointer (some ⟨b, 0, none⟩) ∧ e 5 = lv ∧ e 6 = .int .i64 (l.length : Int) ∧ e 7 = .int .i64 (k : Int) ∧ OutV w B b ou (xs ++ (l.take k).flatMap vI) ∧ Only (fun k => k = b ∨ ov.ownBlock = some k) w0 w ∧ (ou.ownBlock = ov.ownBlock ∨ ∃ g, w0.heap.size ≤ g ∧ ou.ownBlock = some g)) (fun e w => l.length - (intOf (e 7)).toNat) ?_ ?_
  · exact ⟨0, ov, Nat.zero_le _, rfl, rfl, rfl, rfl, by simpa using ho, Only.refl _ _, .inl rfl⟩
  rintro e w ⟨k, ou, hk, h1, h5, h6, h7, hou, hoo, hbb⟩
  have hm7 := h7
  have hrw : w.ownsRow H0 3 1 lv l.length (ints l) := own_only hrow hoo (fun j hj hF => by rcases hF with rfl | hF; exact own_off hrow ho.cell (by decide) hj; exact own_row_off ho.row hrow (by decide) j hj hF)
  refine W.seq ?_
  refine W.region ?_
  refine WL.c rfl (o_lt h7 h6 ?_)
  refine WL.nil ?_
  refine W.seq ?_
  refine W.cond rfl (fun c8 => ?_) (fun c8 => ?_)
  · try simp only [decide_eq_true_eq, decide_eq_false_iff_not, Bool.not_eq_true', Bool.not_eq_false', Bool.and_eq_true, Bool.or_eq_true, Bool.and_eq_false_iff, Bool.or_eq_false_iff] at c8
    refine W.skip ?_
    refine W.seq ?_
    refine W.block ?_
    refine W.seq ?_
    have hk1 : k < l.length := by omega
    have hok1 := hok l[k] (List.getElem_mem hk1)
    have hvl := vI_len hok1
    refine W.region ?_
    refine WL.c rfl (o_ix1 TI37 TI3 h5 h7 (Sl.own hrw) (by omega) ?_)
    intro b9 o9 hc9 hb9
    refine WL.c rfl (o_ld TI3 rfl rfl (hc9.trans (getint hk1)) ?_)
    refine WL.c rfl (o_as ?_)
    refine WL.nil ?_
    obtain ⟨wd, hwd⟩ : ∃ wd, wd = w.drew := ⟨_, rfl⟩
    have hxd : Ext w wd := hwd ▸ Only.drew w
    replace hou := hou.ext hxd
    have hxl : (xs ++ (l.take k).flatMap vI).length ≤ xs.length + 10 * k := by
      have := vIs_len (l := l.take k) (fun n hn => hok n (List.mem_of_mem_take hn))
      rw [List.length_append]; rw [List.length_take] at this; omega
    have hlt : ∀ k, ou.ownBlock = some k → k < wd.heap.size := fun k hk => (hou.row.lt k hk).2
    have hblt : b < wd.heap.size := (Array.getElem?_eq_some_iff.1 hou.cell).1
    refine W.drawF 5 [4] [fun k => ou.ownBlock = some k] [(1, fun v _ => v = _), (4, fun v _ => v = _), (5, fun v _ => v = _), (6, fun v _ => v = _), (7, fun v _ => v = _)] rfl (by kernel_rfl) (by kernel_rfl) ⟨Mono.eq, Mono.eq, Mono.eq, Mono.eq, Mono.eq, trivial⟩ ⟨h1, rfl, h5, h6, h7, trivial⟩ ?_
    refine WDS.p rfl (by decide) (fun e w hR hh => by obtain ⟨h1, -⟩ := hh; rw [← hwd] at hR; have hc := hR.blk hou.cell (fun hF => by rcases hF with hF | hF <;> first | exact hou.off hF | exact hF); exact SG.n (o_ld TI23 rfl h1 (cell_of hc rfl) ⟨rfl, Only.refl No _⟩)) ?_
    refine WDS.p rfl (by decide) (fun e w hR hh => by obtain ⟨h4, -⟩ := hh; exact SG.n (o_mvh h4 ⟨rfl, Only.refl No _⟩)) ?_
    refine WDS.p rfl (by decide) (fun e w hR hh => by obtain ⟨h12, -⟩ := hh; exact SG.n (o_cvN TI3 TI68 h12 hok1.1 (by have := hok1.2; omega) ⟨rfl, Only.refl No _⟩)) ?_
    refine WDS.q 0 (fun v w => w.ownsRow wd.heap.size 5 1 v (vI l[k]).length ((vI l[k]).map bv)) (fun v w w2 hR hh => own_only hh hR (fun k hk hF => by rcases hF with hF | hF <;> first | exact hF | (have := hlt k hF; have := (hh.lt k hk).1; omega))) (by kernel_rfl) rfl (by decide) (fun e w hR hh => by obtain ⟨h13, -⟩ := hh; rw [← hwd] at hR; exact SG.n (o_call Try.call30 (lc h13 ln) ((put_spec l[k].toNat (numOk_lt hok1) w).mono (fun v w' hh => by obtain ⟨g, rfl, hg, hc, hx⟩ := hh; exact ⟨⟨by simp, .inr ⟨g, vsize l[k].toNat, _, by rw [vI, vput_len], Nat.le_trans hR.size hg, hc, by rw [vI, vput_len]; exact Nat.le_refl _, by rw [maxLen_eq]; rw [vI, vput_len] at hvl; omega, by simp [vput_len], by rw [List.take_of_length_le (by simp [vI, vput_len])]; rfl⟩⟩, hx⟩)))) ?_
    refine WDS.mf 0 1 (fun v w => w.ownsRow B 5 1 v ((xs ++ (l.take k).flatMap vI).length + (vI l[k]).length) ((xs ++ (l.take k).flatMap vI).map bv ++ (vI l[k]).map bv) ∧ (v.ownBlock = ou.ownBlock ∨ ∃ g, wd.heap.size ≤ g ∧ v.ownBlock = some g)) (fun v w w2 hR hh => ⟨own_ext hh.1 hR, hh.2⟩) (by kernel_rfl) rfl rfl rfl (fun e w hR hW hh => by obtain ⟨h14, h11, -⟩ := hh; rw [← hwd] at hR hW; have hw2 := hR.size; have hW2 : Ext wd w := hW.mono (fun k _ hF => hF); exact SGX.n (OP.x (o_apO B TI23 TI5 h11 rfl (own_ext hou.row hW2) (Sl.own h14) rfl (by decide) one_bv (by rw [maxLen_eq]; omega) (by omega) (by omega) (fun v' w' h1 h2 h3 _ => ⟨⟨h1, h3.imp id (fun h => ⟨_, hw2, h⟩)⟩, h2⟩)))) ?_
    rintro e w hR ⟨h15, h14, h13, h12, h11, h1, h4, h5, h6, h7, -⟩
    rw [← hwd] at hR
    obtain ⟨hr15, hb15⟩ := h15
    obtain ⟨v15, hv15⟩ : ∃ v, v = e 15 := ⟨_, rfl⟩
    rw [← hv15] at hr15 hb15
    have hc15 := hR.blk hou.cell (fun hF => by rcases hF with hF | hF <;> first | exact hou.off hF | exact hF)
    have hr15' := hr15
    rw [← List.length_append, ← List.map_append] at hr15'
    refine WL.u (o_stB TI23 h1 (show _ = v15 from hv15.symm) (own_one hr15) hc15 (show 0 < 1 by decide) ?_)
    intro w6 hB6 hos15 hs6
    have ho15' : OutV w6 B b v15 (xs ++ (l.take k).flatMap vI ++ vI l[k]) := ⟨hB6, own_only hr15' hos15 (fun k hk he => by subst he; exact own_off hr15' hc15 (by decide) hk)⟩
    refine WL.nil ?_
    refine W.region ?_
    refine WL.c rfl (o_addi h7 rfl (by omega) ?_)
    refine WL.c rfl (o_mv ?_)
    refine WL.nil ?_
    refine ⟨⟨k + 1, v15, by omega, h1, h5, h6, rfl, ?_, ?_, ?_⟩, ?_⟩
    · rw [take_flat hk1, ← List.append_assoc]; exact ho15'
    · refine (((hoo.ext hxd).trans' hR (fun _ h => h) (fun j hj hF => ?_))).trans' hos15 (fun _ h => h) (fun j _ hj => .inl hj)
      rcases hF with hF | hF
      · rcases hbb with hbb | ⟨g, hg, hbb⟩
        · rw [hbb] at hF; exact .inr hF
        · rw [hbb] at hF; cases hF; omega
      · exact hF.elim
    · rcases hb15 with hb15 | ⟨g, hg, hb15⟩
      · rw [hb15]; exact hbb
      · exact .inr ⟨g, by have := hoo.size; have := hxd.size; omega, hb15⟩
    · show l.length - ((k : Int) + 1).toNat < _
      rw [hm7]; simp [intOf]; omega
  · try simp only [decide_eq_true_eq, decide_eq_false_iff_not, Bool.not_eq_true', Bool.not_eq_false', Bool.and_eq_true, Bool.or_eq_true, Bool.and_eq_false_iff, Bool.or_eq_false_iff] at c8
    refine W.exit ?_
    refine ret0 rfl ?_
    have hkl : k = l.length := by omega
    subst hkl
    rw [List.take_length] at hou
    exact ⟨ou, hou, hoo, hbb⟩
theorem save_spec (H p most high : Nat) (L : List Fr) (lv : Value) (V : Nat → Value) (w0 : World) (h : Stk w0 H p most high L lv V) (hw : ∀ f ∈ L, fwhole f = true) (hh : high ≤ 1048576) : Ca Try.prog 8 #[.pointer (some ⟨p, 0, none⟩)] w0 (fun v w' => ∃ g cap, v = .slice (some ⟨g, 0, none⟩) (saved most high L).length (saved most high L).length ∧ w'.ownsRow w0.heap.size 5 1 (.slice (some ⟨g, 0, none⟩) (saved most high L).length cap) (saved most high L).length ((saved most high L).map bv) ∧ Ext w0 w') := by
  have hmb := h.mb
  have hlen := h.len
  have hplt := (h.lt p (.inl rfl)).2
  refine Ca.of Try.func8 Try.ntmps8 rfl rfl ?_
  refine W.seq ?_
  refine W.region ?_
  refine WL.c rfl (o_as ?_)
  refine WL.nil ?_
  refine W.seq ?_
  refine W.region ?_
  refine WL.c rfl (o_bs1 TI23 TI5 (show _ = Value.int _ _ from rfl) (by decide) (by decide) rfl ?_)
  have hr7 : (w0.alloc (.cells (Value.int .u8 102).cells 5)).ownsRow w0.heap.size 5 1 (.slice (some ⟨w0.heap.size, 0, none⟩) 1 1) [(102 : UInt8)].length ([(102 : UInt8)].map bv) := own_new1 rfl
  have hx7 : Ext w0 (w0.alloc (.cells (Value.int .u8 102).cells 5)) := Only.alloc w0 _
  have hs7 : (w0.alloc (.cells (Value.int .u8 102).cells 5)).heap.size = w0.heap.size + 1 := by simp
  generalize w0.alloc (.cells (Value.int .u8 102).cells 5) = w7 at *
  refine WL.c rfl (o_alB TI23 ?_)
  intro w3 hC3 hx3 hs3
  rw [hs7] at hC3 ⊢
  refine WL.u (o_stB TI23 rfl (show _ = Value.slice (some ⟨w0.heap.size, 0, none⟩) 1 1 from rfl) rfl hC3 (show 0 < 1 by decide) ?_)
  intro w4 hB4 ho4 hs4
  have hout : OutV w4 w0.heap.size (w0.heap.size + 1) (.slice (some ⟨w0.heap.size, 0, none⟩) 1 1) [102] := ⟨hB4, own_only (own_ext hr7 hx3) ho4 (fun k hk he => by simp only [Value.ownBlock, Option.some.injEq] at hk; omega)⟩
  have hx4 : Ext w0 w4 := (hx7.tr hx3).trans' ho4 (fun _ h => h) (fun j hj he => by omega)
  refine WL.nil ?_
  refine W.seq ?_
  refine W.region ?_
  refine WL.c rfl (o_mkF (lc rfl ln) ?_)
  refine WL.c rfl (o_as ?_)
  refine WL.nil ?_
  refine W.seq ?_
  obtain ⟨wd, hwd⟩ : ∃ wd, wd = w4.drew := ⟨_, rfl⟩
  have hxd : Ext w4 wd := hwd ▸ Only.drew w4
  replace hout := hout.ext hxd
  have h4 := h.ext (hx4.tr hxd)
  have hcell := h4.cell
  refine W.drawT 15 (Ext) [(0, fun v _ => v = _), (3, fun v _ => v = _), (4, fun v _ => v = _)] rfl (by kernel_rfl) (Only.refl No) (fun _ _ _ h k => h.trans k) ⟨Mono.eq, Mono.eq, Mono.eq, trivial⟩ ⟨rfl, rfl, rfl, trivial⟩ ?_
  refine WD.p rfl (fun e w hR hh => by obtain ⟨h4, -⟩ := hh; exact SG.n (o_mvh h4 ⟨rfl, Only.refl No _⟩)) ?_
  refine WD.p rfl (fun e w hR hh => by obtain ⟨h0, -⟩ := hh; exact SG.n (o_mvh h0 ⟨rfl, Only.refl No _⟩)) ?_
  refine WD.p rfl (fun e w hR hh => by obtain ⟨h10, -⟩ := hh; exact SG.n (o_nil h10 ⟨rfl, Only.refl No _⟩)) ?_
  refine WD.p rfl (fun e w hR hh => by obtain ⟨h11, -⟩ := hh; exact SG.n (o_fa 0 TI71 rfl TI3 rfl h11 ⟨rfl, Only.refl No _⟩)) ?_
  refine WD.p rfl (fun e w hR hh => by obtain ⟨h12, -⟩ := hh; rw [← hwd] at hR; have hc := hR.blk hcell (fun h => h); exact SG.n (o_ld TI3 rfl h12 (cell_of hc rfl) ⟨rfl, Only.refl No _⟩)) ?_
  refine WD.p rfl (fun e w hR hh => by obtain ⟨h0, -⟩ := hh; exact SG.n (o_mvh h0 ⟨rfl, Only.refl No _⟩)) ?_
  refine WD.p rfl (fun e w hR hh => by obtain ⟨h14, -⟩ := hh; exact SG.n (o_nil h14 ⟨rfl, Only.refl No _⟩)) ?_
  refine WD.p rfl (fun e w hR hh => by obtain ⟨h15, -⟩ := hh; exact SG.n (o_fa 2 TI71 rfl TI22 rfl h15 ⟨rfl, Only.refl No _⟩)) ?_
  refine WD.p rfl (fun e w hR hh => by obtain ⟨h16, -⟩ := hh; rw [← hwd] at hR; have hc := hR.blk hcell (fun h => h); exact SG.n (o_ld TI22 rfl h16 (cell_of hc rfl) ⟨rfl, Only.refl No _⟩)) ?_
  refine WD.p rfl (fun e w hR hh => by obtain ⟨h17, -⟩ := hh; rw [← hwd] at hR; exact SG.n (o_lenR TI22 h17 (Sl.own (h4.rows.ext hR).row) ⟨rfl, Only.refl No _⟩)) ?_
  refine WD.p rfl (fun e w hR hh => by obtain ⟨h0, -⟩ := hh; exact SG.n (o_mvh h0 ⟨rfl, Only.refl No _⟩)) ?_
  refine WD.p rfl (fun e w hR hh => by obtain ⟨h19, -⟩ := hh; exact SG.n (o_nil h19 ⟨rfl, Only.refl No _⟩)) ?_
  refine WD.p rfl (fun e w hR hh => by obtain ⟨h20, -⟩ := hh; exact SG.n (o_fa 1 TI71 rfl TI3 rfl h20 ⟨rfl, Only.refl No _⟩)) ?_
  refine WD.p rfl (fun e w hR hh => by obtain ⟨h21, -⟩ := hh; rw [← hwd] at hR; have hc := hR.blk hcell (fun h => h); exact SG.n (o_ld TI3 rfl h21 (cell_of hc rfl) ⟨rfl, Only.refl No _⟩)) ?_
  refine WD.q (fun v w => w.ownsRow wd.heap.size 3 1 v 3 (ints [(most : Int), (L.length : Int), (high : Int)])) (fun v w w2 hR hh => own_ext hh hR) rfl (fun e w hR hh => by obtain ⟨h22, h18, h13, -⟩ := hh; rw [← hwd] at hR; exact SG.n (o_bsn (xs := [(.tmp 13), (.tmp 18), (.tmp 22)]) TI37 TI3 rfl (lc h13 (lc h18 (lc h22 ln))) rfl rfl (by decide) (by decide) ⟨own_mono (own_newN rfl (by decide)) hR.size, Only.alloc w _⟩)) ?_
  rintro e w hR ⟨h23, h22, h21, h20, h19, h18, h17, h16, h15, h14, h13, h12, h11, h10, h9, h0, h3, h4, -⟩
  rw [← hwd] at hR
  replace hout := hout.ext hR
  have hx9 := (hx4.tr hxd).tr hR
  refine WL.c rfl (o_callC h9 Try.call29 (lc rfl ln) ((save1_spec wd.heap.size w0.heap.size (w0.heap.size + 1) [(most : Int), (L.length : Int), (high : Int)] (e 23) _ [102] _ h23 hout (by omega) (by intro n hn; simp only [List.mem_cons, List.not_mem_nil, or_false] at hn; unfold numOk; omega) (by simp) (by simp)).mono ?_))
  rintro v24 w24 ⟨ou, hou, hf24, -⟩
  have hx24 : Ext w0 w24 := hx9.trans' hf24 (fun _ h => h) (fun j hj hF => by rcases hF with hF | hF; omega; simp only [Value.ownBlock, Option.some.injEq] at hF; omega)
  obtain ⟨hd, hhd⟩ : ∃ hd, hd = [102] ++ [(most : Int), (L.length : Int), (high : Int)].flatMap vI := ⟨_, rfl⟩
  rw [← hhd] at hou
  have hhl : hd.length ≤ 31 := by
    have := vIs_len (l := [(most : Int), (L.length : Int), (high : Int)]) (by intro n hn; simp only [List.mem_cons, List.not_mem_nil, or_false] at hn; unfold numOk; omega)
    rw [hhd, List.length_append]; simp only [List.length_cons, List.length_nil] at this ⊢; omega
  have h5 := h.ext hx24
  refine WL.nil ?_
  refine W.seq ?_
  refine W.seq ?_
  refine W.region ?_
  refine WL.c rfl (o_mvh h0 ?_)
  refine WL.c rfl (o_nil rfl ?_)
  refine WL.c rfl (o_fa 2 TI71 rfl TI22 rfl rfl ?_)
  refine WL.c rfl (o_ld TI22 rfl rfl (cell_of h5.cell rfl) ?_)
  refine WL.c rfl (o_lenR TI22 rfl (Sl.own h5.rows.row) ?_)
  refine WL.c rfl (o_mv ?_)
  refine WL.nil ?_
  refine W.block ?_
  refine W.loop (fun e w => ∃ (k : Nat) (ou : Value), k ≤ L.length ∧ e 3 = .pointer (some ⟨w0.heap.size + 1, 0, none⟩) ∧ e 4 = .func (.func 29) #[] #[.pointer (some ⟨w0.heap.size + 1, 0, none⟩)] ∧ e 28 = lv ∧ e 29 = .int .i64 (L.length : Int) ∧ e 30 = .int .i64 (k : Int) ∧ OutV w w0.heap.size (w0.heap.size + 1) ou (hd ++ (L.take k).flatMap fbytes) ∧ Ext w0 w) (fun e w => L.length - (intOf (e 30)).toNat) ?_ ?_
  · exact ⟨0, ou, Nat.zero_le _, h3, h4, rfl, rfl, rfl, by simpa using hou, hx24⟩
  rintro e w ⟨k, ou, hk, h3, h4, h28, h29, h30, hou, hxw⟩
  have hm30 := h30
  have h5 := h.ext hxw
  refine W.seq ?_
  refine W.region ?_
  refine WL.c rfl (o_lt h30 h29 ?_)
  refine WL.nil ?_
  refine W.seq ?_
  refine W.cond rfl (fun c31 => ?_) (fun c31 => ?_)
  · try simp only [decide_eq_true_eq, decide_eq_false_iff_not, Bool.not_eq_true', Bool.not_eq_false', Bool.and_eq_true, Bool.or_eq_true, Bool.and_eq_false_iff, Bool.or_eq_false_iff] at c31
    refine W.skip ?_
    refine W.seq ?_
    refine W.block ?_
    refine W.seq ?_
    have hk1 : k < L.length := by omega
    have hfw := hw L[k] (List.getElem_mem hk1)
    have hft := fwhole_tab hfw
    have hflen := fbytes_len hfw
    have hLl : ((L.take k).flatMap fbytes).length ≤ 10485830 * k := by
      have := frames_len (L := L.take k) (fun f hf => hw f (List.mem_of_mem_take hf))
      rw [List.length_take, Nat.min_eq_left hk] at this; exact this
    have hol : (hd ++ (L.take k).flatMap fbytes).length ≤ 31 + 10485830 * k := by rw [List.length_append]; omega
    have hrk : w.ownsRow H 3 1 (V k) L[k].tab.length (ints L[k].tab) := by
      have := h5.rows.tabs.row k hk1
      simp only [tabl, List.getD_eq_getElem?_getD, List.getElem?_eq_getElem hk1, Option.getD_some] at this
      exact this
    refine W.region ?_
    refine WL.c rfl (o_ix TI22 TI39 h28 h30 (Sl.own h5.rows.row) (by omega) ?_)
    intro b32 o32 c32 hl32 hc32
    rw [frows_at hk1, List.getD_eq_getElem?_getD, List.getElem?_eq_getElem hk1, Option.getD_some] at hc32
    refine WL.c rfl (o_ldA TI39 rfl rfl hc32 rfl ?_)
    refine WL.c rfl (o_alB TI39 ?_)
    intro w6 hC6 hx6 hs6
    replace hou := hou.ext hx6
    replace hrk := own_ext hrk hx6
    refine WL.u (o_stA TI39 rfl (show _ = Value.agg (fcells L[k] (V k)).toArray from rfl) rfl (fcells_one (own_one hrk)) hC6 rfl ?_)
    intro w8 hB6 ho6 hs8
    have hx8 : Ext w0 w8 := (hxw.tr hx6).trans' ho6 (fun _ h => h) (fun j hj he => by have := hxw.size; omega)
    have hx68 : Ext w w8 := hx6.trans' ho6 (fun _ h => h) (fun j hj he => by omega)
    replace hou := hou.only ho6 (show ¬ w0.heap.size + 1 = w.heap.size from fun he => by have := (Array.getElem?_eq_some_iff.1 hou.cell).1; have := (hou.row.lt); have h9 := own_off hou.row hC6 (by decide); have h10 := hou.cell; rw [he, hC6] at h10; cases h10) (fun k hk he => by subst he; exact own_off hou.row hC6 (by decide) hk)
    replace hrk := own_only hrk ho6 (fun k hk he => by subst he; exact own_off hrk hC6 (by decide) hk)
    have hfo := hfw
    simp only [fwhole, fright, Bool.and_eq_true, inb_iff, Huge] at hfo
    refine WL.nil ?_
    refine W.seq ?_
    refine W.region ?_
    refine WL.c rfl (o_mvh h4 ?_)
    refine WL.c rfl (o_fa 0 TI39 rfl TI3 rfl rfl ?_)
    refine WL.c rfl (o_ld TI3 rfl rfl (cell_of hB6 rfl) ?_)
    refine WL.c rfl (o_fa 1 TI39 rfl TI3 rfl rfl ?_)
    refine WL.c rfl (o_ld TI3 rfl rfl (cell_of hB6 rfl) ?_)
    refine WL.c rfl (o_fa 2 TI39 rfl TI3 rfl rfl ?_)
    refine WL.c rfl (o_ld TI3 rfl rfl (cell_of hB6 rfl) ?_)
    refine WL.c rfl (o_fa 3 TI39 rfl TI3 rfl rfl ?_)
    refine WL.c rfl (o_ld TI3 rfl rfl (cell_of hB6 rfl) ?_)
    refine WL.c rfl (o_addi rfl rfl (by omega) ?_)
    refine WL.c rfl (o_fa 4 TI39 rfl TI3 rfl rfl ?_)
    refine WL.c rfl (o_ld TI3 rfl rfl (cell_of hB6 rfl) ?_)
    refine WL.c rfl (o_addi rfl rfl (by omega) ?_)
    refine WL.c rfl (o_fa 5 TI39 rfl TI3 rfl rfl ?_)
    refine WL.c rfl (o_ld TI3 rfl rfl (cell_of hB6 rfl) ?_)
    refine WL.c rfl (o_fa 6 TI39 rfl TI37 rfl rfl ?_)
    refine WL.c rfl (o_ld TI37 rfl rfl (cell_of hB6 rfl) ?_)
    refine WL.c rfl (o_lenR TI37 rfl (Sl.own hrk) ?_)
    refine WL.c rfl (o_bsn (xs := [(.tmp 36), (.tmp 38), (.tmp 40), (.tmp 43), (.tmp 46), (.tmp 48), (.tmp 51)]) TI37 TI3 rfl (lc (show _ = Value.int _ _ from rfl) (lc (show _ = Value.int _ _ from rfl) (lc (show _ = Value.int _ _ from rfl) (lc (show _ = Value.int _ _ from rfl) (lc (show _ = Value.int _ _ from rfl) (lc (show _ = Value.int _ _ from rfl) (lc (show _ = Value.int _ _ from rfl) ln))))))) rfl rfl (by decide) (by decide) ?_)
    have hr52 : (w8.alloc (.cells (ints (fnums L[k])).toArray 3)).ownsRow w8.heap.size 3 1 (.slice (some ⟨w8.heap.size, 0, none⟩) 7 7) (fnums L[k]).length (ints (fnums L[k])) := own_newN rfl (by decide)
    have hx52 : Ext w8 (w8.alloc (.cells (ints (fnums L[k])).toArray 3)) := Only.alloc w8 _
    replace hou := hou.ext hx52
    replace hrk := own_ext hrk hx52
    replace hB6 := hx52.blk hB6 (fun h => h)
    show WL _ _ _ _ _ _ (w8.alloc (.cells (ints (fnums L[k])).toArray 3))
    generalize w8.alloc (.cells (ints (fnums L[k])).toArray 3) = w52 at *
    refine WL.c rfl (o_callC (show _ = Value.func (.func 29) #[] #[.pointer (some ⟨w0.heap.size + 1, 0, none⟩)] from rfl) Try.call29 (lc rfl ln) ((save1_spec w8.heap.size w0.heap.size (w0.heap.size + 1) (fnums L[k]) _ _ _ _ hr52 hou (by omega) (fnums_ok hfw) (by have : (fnums L[k]).length = 7 := rfl; omega) (by have : (fnums L[k]).length = 7 := rfl; omega)).mono ?_))
    rintro v53 w53 ⟨ou1, hou1, hf53, -⟩
    have hrow0 : w0.heap.size ≤ w0.heap.size + 1 := Nat.le_succ _
    have hx53 : Ext w0 w53 := (hx8.tr hx52).trans' hf53 (fun _ h => h) (fun j hj hF => by rcases hF with hF | hF; omega; have := (hou.row.lt j hF).1; omega)
    replace hB6 := hf53.blk hB6 (fun hF => by rcases hF with hF | hF; have h10 := hou.cell; rw [← hF, hB6] at h10; cases h10; exact own_off hou.row hB6 (by decide) hF)
    replace hrk := own_only hrk hf53 (fun j hj hF => by rcases hF with rfl | hF; exact own_off hrk hou.cell (by decide) hj; exact own_row_off hou.row hrk (by decide) j hj hF)
    have hl53 : (hd ++ (L.take k).flatMap fbytes ++ (fnums L[k]).flatMap vI).length ≤ 31 + 10485830 * k + 70 := by
      have := vIs_len (fnums_ok hfw)
      have : (fnums L[k]).length = 7 := rfl
      rw [List.length_append]; omega
    refine WL.nil ?_
    refine W.region ?_
    refine WL.c rfl (o_mvh h4 ?_)
    refine WL.c rfl (o_fa 6 TI39 rfl TI37 rfl rfl ?_)
    refine WL.c rfl (o_ld TI37 rfl rfl (cell_of hB6 rfl) ?_)
    refine WL.c rfl (o_callC (show _ = Value.func (.func 29) #[] #[.pointer (some ⟨w0.heap.size + 1, 0, none⟩)] from rfl) Try.call29 (lc (show _ = V k from rfl) ln) ((save1_spec H w0.heap.size (w0.heap.size + 1) L[k].tab (V k) _ _ _ hrk hou1 (by omega) (ftab_ok hfw) (by omega) (by omega)).mono ?_))
    rintro v57 w57 ⟨ou2, hou2, hf57, -⟩
    have hx57 : Ext w0 w57 := hx53.trans' hf57 (fun _ h => h) (fun j hj hF => by rcases hF with hF | hF; omega; have := (hou1.row.lt j hF).1; omega)
    refine WL.nil ?_
    refine W.region ?_
    refine WL.c rfl (o_addi h30 rfl (by omega) ?_)
    refine WL.c rfl (o_mv ?_)
    refine WL.nil ?_
    refine ⟨⟨k + 1, ou2, by omega, h3, h4, h28, h29, rfl, ?_, hx57⟩, ?_⟩
    · rw [take_flat hk1, ← List.append_assoc, fbytes, ← List.append_assoc]; exact hou2
    · show L.length - ((k : Int) + 1).toNat < _
      rw [hm30]; simp [intOf]; omega
  · try simp only [decide_eq_true_eq, decide_eq_false_iff_not, Bool.not_eq_true', Bool.not_eq_false', Bool.and_eq_true, Bool.or_eq_true, Bool.and_eq_false_iff, Bool.or_eq_false_iff] at c31
    refine W.exit ?_
    refine W.seq ?_
    have hkl : k = L.length := by omega
    subst hkl
    rw [List.take_length] at hou
    have hsv : hd ++ L.flatMap fbytes = saved most high L := by rw [hhd]; rfl
    rw [hsv] at hou
    obtain ⟨g, cap, rfl, hgb⟩ := own_some hou.row (by simp [saved])
    refine W.region ?_
    refine WL.c rfl (o_ld TI23 rfl h3 (cell_of hou.cell rfl) ?_)
    refine WL.c rfl (o_call Try.call31 (lc rfl ln) ((clipb_spec (some ⟨g, 0, none⟩) _ cap _ (by obtain ⟨_, _, hv, _, _, hnc, _⟩ := own_blk hou.row hgb; simp only [Value.slice.injEq] at hv; omega)).mono ?_))
    rintro v60 w60 ⟨rfl, rfl⟩
    refine WL.c rfl (o_as ?_)
    refine WL.nil ?_
    refine W.ret ?_
    refine ret1v rfl (show _ = Value.slice (some ⟨g, 0, none⟩) (saved most high L).length (saved most high L).length from rfl) ?_
    exact ⟨g, cap, rfl, hou.row, hxw⟩

theorem Sl.keep {w w' : World} {s n : Nat} {v : Value} {xs : List Value} {F : Nat → Prop} (h : Sl w s v n xs) (ho : Only F w w') (hn : ∀ b, v.ownBlock = some b → F b → xs = []) : Sl w' s v n xs := by
  by_cases e : xs = []
  · subst e
    obtain ⟨hl, hv⟩ := h
    refine ⟨hl, ?_⟩
    rcases hv with ⟨h1, a, c, rfl⟩ | ⟨b, off, c, rfl, hnc, hc⟩
    · exact .inl ⟨h1, a, c, rfl⟩
    · exact .inr ⟨b, off, c, rfl, hnc, fun i v hv => by simp at hv⟩
  · exact h.only ho (fun b hb hF => e (hn b hb hF))
theorem By.drop {w : World} {a : Option Addr} {c k : Nat} {xs : List UInt8} (h : By w (.slice a xs.length c) xs) (hk : k ≤ xs.length) : By w (sliced a k xs.length c 1) (xs.drop k) := by
  have := Sl.sliced h k xs.length hk (Nat.le_refl _)
  simp only [Nat.mul_one] at this
  rw [List.take_of_length_le (by simp), ← List.map_drop] at this
  simpa [By] using this
/-- the reader: its bytes lie in blocks that are older than B0, itself in a newer one -/
structure Rdr (w : World) (B0 q : Nat) (bv : Value) (xs : List UInt8) (at_ : Nat) : Prop where
  cell : w.heap[q]? = some (.cells #[bv, .int .i64 (at_ : Int)] 75 (0, 0))
  by_ : By w bv xs
  off : ∀ b, bv.ownBlock = some b → B0 ≤ b → xs = []
  hq : B0 ≤ q
  le : at_ ≤ xs.length
  small : xs.length ≤ 1000000000000000000
theorem Rdr.keep {w w' : World} {B0 q at_ : Nat} {bv : Value} {xs : List UInt8} {F : Nat → Prop} (h : Rdr w B0 q bv xs at_) (ho : Only F w w') (hF : ∀ k, F k → B0 ≤ k) (hq : ¬ F q) : Rdr w' B0 q bv xs at_ :=
  ⟨ho.blk h.cell hq, Sl.keep h.by_ ho (fun b hb hFb => by rw [h.off b hb (hF b hFb)]; rfl), h.off, h.hq, h.le, h.small⟩
theorem Rdr.ext {w w' : World} {B0 q at_ : Nat} {bv : Value} {xs : List UInt8} (h : Rdr w B0 q bv xs at_) (ho : Ext w w') : Rdr w' B0 q bv xs at_ := h.keep ho (fun _ h => h.elim) (fun h => h)
inductive Rd (α : Type) where
  | ok (n : α) (at_ : Nat)
  | bad (e at_ : Nat)
def Rd.bind {α β : Type} (r : Rd α) (f : α → Nat → Rd β) : Rd β := match r with
  | .ok n a => f n a
  | .bad e a => .bad e a
def rdN (xs : List UInt8) (at_ : Nat) (lo hi : Int) : Rd Nat :=
  if (vget 0 0 (xs.drop at_)).2.2 = 0 then
    (if hi < ((vget 0 0 (xs.drop at_)).1 : Int) ∨ ((vget 0 0 (xs.drop at_)).1 : Int) < lo then .bad 221 at_ else .ok (vget 0 0 (xs.drop at_)).1 (at_ + (vget 0 0 (xs.drop at_)).2.1))
  else .bad (vget 0 0 (xs.drop at_)).2.2 (at_ + (vget 0 0 (xs.drop at_)).2.1)
def pan (e a : Nat) : PanicEntry := { v := .iface 31 (.agg #[.int .i64 (e : Int), .int .i64 (a : Int)]), recovered := false }
theorem vget_used : ∀ (xs : List UInt8) (k n : Nat), (vget k n xs).2.1 ≤ k + xs.length
  | [], k, n => by simp [vget]
  | c :: cs, k, n => by
    rw [vget]
    split
    · simp only [List.length_cons]; omega
    · split
      · simp only [List.length_cons]; omega
      · have := vget_used cs (k + 1) (n + c.toNat % 128 * 128 ^ k)
        rw [List.length_cons]; omega
def rdMany (xs : List UInt8) : Nat → Nat → List Int → Rd (List Int)
  | 0, a, acc => .ok acc a
  | m + 1, a, acc => (rdN xs a 0 Huge).bind fun n a => rdMany xs m a (acc ++ [(n : Int)])
def rdF (xs : List UInt8) (a : Nat) : Rd Fr :=
  (rdN xs a 0 Huge).bind fun n1 a => (rdN xs a 0 Huge).bind fun n2 a => (rdN xs a 0 Huge).bind fun n3 a =>
  (rdN xs a 0 4611686018427387905).bind fun n4 a => (rdN xs a 0 4611686018427387905).bind fun n5 a => (rdN xs a 0 Huge).bind fun n6 a =>
  (rdN xs a 0 1048576).bind fun m a => (rdMany xs m a []).bind fun t a => .ok ⟨n1, n2, n3, (n4 : Int) - 1, (n5 : Int) - 1, n6, t⟩ a
theorem rdN_ok {xs : List UInt8} {a0 n a : Nat} {lo hi : Int} (h : rdN xs a0 lo hi = .ok n a) : lo ≤ n ∧ (n : Int) ≤ hi := by
  unfold rdN at h
  split at h
  · split at h
    · cases h
    · simp only [Rd.ok.injEq] at h
      obtain ⟨rfl, -⟩ := h
      omega
  · cases h
theorem o_cvM {P : Program} {e : Env} {w : World} {K : Value → World → Prop} {ty : TypeId} {x : Operand} {t u : TypeId} {n : Nat} {s b s' b' : Nat} {z z' : Value} (ht : Ty P t (.int .u64) s b z) (hu : Ty P u (.int .i64) s' b' z') (hx : ev e x = .int .u64 (n : Int)) (h1 : n < 9223372036854775808) (kk : K (.int .i64 (n : Int)) w) : OP P e (.convert t u x) ty w K :=
  o_cvI ht hu hx (by
    have h2 : IntKind.i64.wrap (n : Int) = (n : Int) := wrap64' _ (by omega)
    rw [h2]; exact kk)

theorem number_spec (B0 q at_ : Nat) (lo hi : Int) (bv : Value) (xs : List UInt8) (w0 : World) (h : Rdr w0 B0 q bv xs at_) (hlo : 0 ≤ lo) (hhi : 0 ≤ hi) (hhi2 : hi ≤ 4611686018427387905) : CaX Try.prog 50 #[.pointer (some ⟨q, 0, none⟩), .int .i64 lo, .int .i64 hi] w0 (fun v w' => ∃ n a, rdN xs at_ lo hi = .ok n a ∧ v = .int .i64 (n : Int) ∧ Rdr w' B0 q bv xs a ∧ Only (fun k => k = q) w0 w') (fun ch w' => ∃ e a, rdN xs at_ lo hi = .bad e a ∧ ch = [pan e a] ∧ Ext w0 w') := by
  obtain ⟨ba, bc, rfl⟩ := h.by_.isSlice
  have hcell := h.cell
  have hsm := h.small
  have hle := h.le
  have hu := vget_used (xs.drop at_) 0 0
  rw [List.length_drop] at hu
  have hbd := h.by_
  refine CaX.of Try.func50 Try.ntmps50 rfl rfl ?_
  refine W.seq ?_
  refine W.region ?_
  refine WL.c rfl (o_as ?_)
  refine WL.nil ?_
  refine W.seq ?_
  refine W.quiet rfl (by kernel_rfl) ?_
  refine WQ.c rfl ((QO.o rfl fun _ => o_mv ⟨rfl, rfl⟩)) ?_
  refine WQ.c rfl ((QO.r fun _ => r_nil rfl)) ?_
  refine WQ.c rfl ((QO.o rfl fun _ => o_fa 0 TI75 rfl TI23 rfl rfl ⟨rfl, rfl⟩)) ?_
  refine WQ.c rfl ((QO.o rfl fun _ => o_ld TI23 rfl rfl (cell_of hcell rfl) ⟨rfl, rfl⟩)) ?_
  refine WQ.c rfl ((QO.o rfl fun _ => o_mv ⟨rfl, rfl⟩)) ?_
  refine WQ.c rfl ((QO.r fun _ => r_nil rfl)) ?_
  refine WQ.c rfl ((QO.o rfl fun _ => o_fa 1 TI75 rfl TI3 rfl rfl ⟨rfl, rfl⟩)) ?_
  refine WQ.c rfl ((QO.o rfl fun _ => o_ld TI3 rfl rfl (cell_of hcell rfl) ⟨rfl, rfl⟩)) ?_
  refine WQ.c rfl ((QO.o rfl fun _ => o_slv TI23 TI5 rfl (Lo.s rfl) Hi.n h.le (by obtain ⟨_, hv⟩ := h.by_; rcases hv with ⟨h1, a, c, hv⟩ | ⟨b, off, c, hv, hnc, hc⟩ <;> simp only [Value.slice.injEq] at hv <;> omega) ⟨rfl, rfl⟩)) ?_
  refine WQ.c rfl (QO.call Try.call70 (lc rfl ln) (fun _ => Ca.same (get_spec (xs.drop at_) (sliced ba at_ xs.length bc 1) _ (By.drop (Sl.ext h.by_ (Only.drewN _ _)) h.le) (by rw [maxLen_eq, List.length_drop]; omega)))) ?_
  refine WQ.c rfl ((QO.o rfl fun _ => o_mv ⟨rfl, rfl⟩)) ?_
  refine WQ.c rfl ((QO.o rfl fun _ => o_ext rfl rfl ⟨rfl, rfl⟩)) ?_
  refine WQ.c rfl ((QO.o rfl fun _ => o_ext rfl rfl ⟨rfl, rfl⟩)) ?_
  refine WQ.c rfl ((QO.o rfl fun _ => o_ext rfl rfl ⟨rfl, rfl⟩)) ?_
  refine WQ.c rfl ((QO.o rfl fun _ => o_as ⟨rfl, rfl⟩)) ?_
  refine WQ.c rfl ((QO.o rfl fun _ => o_as ⟨rfl, rfl⟩)) ?_
  refine WQ.c rfl ((QO.o rfl fun _ => o_as ⟨rfl, rfl⟩)) ?_
  refine WQ.nil ?_
  intro nq
  have hxq := Only.drewN w0 nq
  have h1 := h.ext hxq
  replace hcell := h1.cell
  generalize w0.drewN nq = wq at *
  obtain ⟨r, hr⟩ : ∃ r, r = vget 0 0 (xs.drop at_) := ⟨_, rfl⟩
  rw [← hr] at hu
  refine W.seq ?_
  refine W.seq ?_
  refine W.region ?_
  refine WL.c rfl (o_mv ?_)
  refine WL.c rfl (o_ne rfl rfl ?_)
  refine WL.nil ?_
  refine W.cond rfl (fun c25 => ?_) (fun c25 => ?_)
  · try simp only [decide_eq_true_eq, decide_eq_false_iff_not, Bool.not_eq_true', Bool.not_eq_false', Bool.and_eq_true, Bool.or_eq_true, Bool.and_eq_false_iff, Bool.or_eq_false_iff] at c25
    refine W.region ?_
    refine WL.c rfl (o_mv ?_)
    refine WL.c rfl (o_mv ?_)
    refine WL.c rfl (o_nil rfl ?_)
    refine WL.c rfl (o_fa 1 TI75 rfl TI3 rfl rfl ?_)
    refine WL.c rfl (o_ld TI3 rfl rfl (cell_of hcell rfl) ?_)
    refine WL.c rfl (o_mv ?_)
    refine WL.c rfl (o_addi rfl rfl (by rw [← hr]; omega) ?_)
    refine WL.c rfl (o_bldC (cs := [_, _]) TI31 (Sizes.cons TI29 (Sizes.cons TI3 Sizes.nil)) rfl (lcp (show _ = Value.int _ _ from rfl) (lcp (show _ = Value.int _ _ from rfl) lnp)) rfl rfl ?_)
    refine WL.c rfl (o_mkI TI31 rfl rfl ?_)
    refine WL.ux (ox_panic (show _ = Value.iface _ _ from rfl) ?_)
    exact ⟨_, _, by rw [rdN, if_neg (by omega)], rfl, hxq⟩
  · try simp only [decide_eq_true_eq, decide_eq_false_iff_not, Bool.not_eq_true', Bool.not_eq_false', Bool.and_eq_true, Bool.or_eq_true, Bool.and_eq_false_iff, Bool.or_eq_false_iff] at c25
    refine W.skip ?_
    refine W.seq ?_
    refine W.seq ?_
    by_cases hg : hi < ((vget 0 0 (xs.drop at_)).1 : Int)
    · skip
      skip
      refine W.region ?_
      refine WL.c rfl (o_mv ?_)
      refine WL.c rfl (o_mv ?_)
      refine WL.c rfl (o_cvN TI3 TI68 rfl hhi (by omega) ?_)
      refine WL.c rfl (o_gt rfl rfl ?_)
      refine WL.c rfl (o_mv ?_)
      refine WL.s rfl (decide_eq_true (by omega)) rfl ?_
      refine WL.s rfl (decide_eq_true (by omega)) rfl ?_
      refine WL.s rfl (decide_eq_true (by omega)) rfl ?_
      refine WL.s rfl (decide_eq_true (by omega)) rfl ?_
      refine WL.c rfl (o_pickT rfl (decide_eq_true (by omega)) ?_)
      refine WL.nil ?_
      refine W.condT' rfl (rfl) ?_
      refine W.region ?_
      refine WL.c rfl (o_mv ?_)
      refine WL.c rfl (o_nil rfl ?_)
      refine WL.c rfl (o_fa 1 TI75 rfl TI3 rfl rfl ?_)
      refine WL.c rfl (o_ld TI3 rfl rfl (cell_of hcell rfl) ?_)
      refine WL.c rfl (o_bldC (cs := [(.int .i64 221), _]) TI31 (Sizes.cons TI29 (Sizes.cons TI3 Sizes.nil)) rfl (lcp (show _ = Value.int _ _ from rfl) (lcp (show _ = Value.int _ _ from rfl) lnp)) rfl rfl ?_)
      refine WL.c rfl (o_mkI TI31 rfl rfl ?_)
      refine WL.ux (ox_panic (show _ = Value.iface _ _ from rfl) ?_)
      exact ⟨_, _, by rw [rdN, if_pos (by omega), if_pos (.inl hg)], rfl, hxq⟩
    · skip
      skip
      refine W.region ?_
      refine WL.c rfl (o_mv ?_)
      refine WL.c rfl (o_mv ?_)
      refine WL.c rfl (o_cvN TI3 TI68 rfl hhi (by omega) ?_)
      refine WL.c rfl (o_gt rfl rfl ?_)
      refine WL.c rfl (o_mv ?_)
      refine WL.g rfl (decide_eq_false (by omega)) rfl (o_mv ?_)
      refine WL.g rfl (decide_eq_false (by omega)) rfl (o_cvM TI68 TI3 rfl (by omega) ?_)
      refine WL.g rfl (decide_eq_false (by omega)) rfl (o_mv ?_)
      refine WL.g rfl (decide_eq_false (by omega)) rfl (o_lt rfl rfl ?_)
      refine WL.c rfl (o_pickO rfl rfl ?_)
      refine WL.nil ?_
      refine W.cond rfl (fun c44 => ?_) (fun c44 => ?_)
      · try simp only [decide_eq_true_eq, decide_eq_false_iff_not, Bool.not_eq_true', Bool.not_eq_false', Bool.and_eq_true, Bool.or_eq_true, Bool.and_eq_false_iff, Bool.or_eq_false_iff] at c44
        refine W.region ?_
        refine WL.c rfl (o_mv ?_)
        refine WL.c rfl (o_nil rfl ?_)
        refine WL.c rfl (o_fa 1 TI75 rfl TI3 rfl rfl ?_)
        refine WL.c rfl (o_ld TI3 rfl rfl (cell_of hcell rfl) ?_)
        refine WL.c rfl (o_bldC (cs := [(.int .i64 221), _]) TI31 (Sizes.cons TI29 (Sizes.cons TI3 Sizes.nil)) rfl (lcp (show _ = Value.int _ _ from rfl) (lcp (show _ = Value.int _ _ from rfl) lnp)) rfl rfl ?_)
        refine WL.c rfl (o_mkI TI31 rfl rfl ?_)
        refine WL.ux (ox_panic (show _ = Value.iface _ _ from rfl) ?_)
        exact ⟨_, _, by rw [rdN, if_pos (by omega), if_pos (by omega)], rfl, hxq⟩
      · try simp only [decide_eq_true_eq, decide_eq_false_iff_not, Bool.not_eq_true', Bool.not_eq_false', Bool.and_eq_true, Bool.or_eq_true, Bool.and_eq_false_iff, Bool.or_eq_false_iff] at c44
        refine W.skip ?_
        refine W.seq ?_
        refine W.region ?_
        refine WL.c rfl (o_mv ?_)
        refine WL.c rfl (o_nil rfl ?_)
        refine WL.c rfl (o_fa 1 TI75 rfl TI3 rfl rfl ?_)
        refine WL.c rfl (o_ld TI3 rfl rfl (cell_of hcell rfl) ?_)
        refine WL.c rfl (o_mv ?_)
        refine WL.c rfl (o_addi rfl rfl (by rw [← hr]; omega) ?_)
        refine WL.c rfl (o_nil rfl ?_)
        refine WL.c rfl (o_fa 1 TI75 rfl TI3 rfl rfl ?_)
        refine WL.u (o_stB TI3 rfl (show _ = Value.int _ _ from rfl) rfl hcell (show 1 < 2 by decide) ?_)
        intro w6 hB6 ho6 hs6
        refine WL.nil ?_
        refine W.seq ?_
        refine W.region ?_
        refine WL.c rfl (o_mv ?_)
        refine WL.c rfl (o_cvM TI68 TI3 rfl (by omega) ?_)
        refine WL.c rfl (o_as ?_)
        refine WL.nil ?_
        refine W.ret ?_
        refine ret1v rfl (show _ = Value.int _ _ from rfl) ?_
        refine ⟨_, _, by rw [rdN, if_pos (by omega), if_neg (by omega)], rfl, ⟨hB6, Sl.keep h1.by_ ho6 (fun b hb he => by subst he; rw [h1.off _ hb h1.hq]; rfl), h1.off, h1.hq, by rw [← hr]; omega, h1.small⟩, hxq.trans' ho6 (fun _ h => h.elim) (fun _ _ h => h)⟩
end Go.Proofs.Ytdiaeafjjffjmaa
