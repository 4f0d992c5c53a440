/-
  Walks and lemmas. Written by program out of specs of mine.
-/
import Derived.WalkKit
import Derived.WalkSpells
import Derived.WalkLawsBesides
import Derived.Deep.Quiet
import Derived.StillTail
import Derived.StringKeys
import Derived.Laws.StructEq
import Derived.Laws.Externs
import Derived.Laws.Tables
import Derived.Scope
import Derived.Laws.AppendOwn
import Derived.Maps.AppendAt
import Derived.Recover
import Derived.Test.YthlbhnefldaoiaaDoorProg
import Derived.Shelf.Strconv.Itoa0
import Derived.Shelf.Strconv.Itoa1
import Derived.Shelf.LaysM
import Derived.Shelf.Strconv.Itoa2
import Derived.Shelf.Strconv.Itoa3
import Derived.Shelf.Strings.Builder1
import Derived.Shelf.Strings.OnBuilder
import Derived.Lib.Builder
import Derived.Lib.UnsafeStr
import Derived.Lib.ItoaLen
import Derived.SizedLaws
import Derived.ChangeArms
import Derived.ChangeSlices
import Derived.Lib.ConvBytes
import Derived.Test.YthlbhnefldaoiaaDoorRows
import Derived.ProofKit
import Derived.OpenShut
import Derived.ShutString
import Derived.ChangeOld
import Derived.Below
import Derived.JoinedCond
import Derived.SliceStrings
import Derived.Test.YthlbhnefldaoiaaDoorCards
import Derived.Test.YthlbhnefldaoiaaDoorTie
import Derived.Deep.DeepHandedRow
import Derived.Lib.LaidTab
import Derived.Test.YthlbhnefldaoiaaDoorKa1
set_option linter.unusedSimpArgs false
set_option linter.unusedVariables false
set_option maxRecDepth 100000
set_option linter.unusedSimpArgs false
set_option linter.unusedVariables false
set_option maxRecDepth 100000
namespace Go.Proofs.YthlbhnefldaoiaaDoor
open Go Go.Vc Go.RowKit Go.Proofs

def vsize (n : Nat) : Nat := if h : n < 128 then 1 else vsize (n / 128) + 1
theorem vsize_lt {n : Nat} (h : n < 128) : vsize n = 1 := by rw [vsize, dif_pos h]
theorem vsize_ge {n : Nat} (h : ¬ n < 128) : vsize n = vsize (n / 128) + 1 := by rw [vsize, dif_neg h]
theorem vsize_pos (n : Nat) : 1 ≤ vsize n := by by_cases h : n < 128
                                                · rw [vsize_lt h]; omega
                                                · rw [vsize_ge h]; omega
theorem vsize_pow : ∀ (k n : Nat), n < 128 ^ (k + 1) → vsize n ≤ k + 1 := by
  intro k
  induction k with
  | zero => intro n h; rw [vsize_lt (by simpa using h)]; omega
  | succ k ih =>
    intro n h
    by_cases hn : n < 128
    · rw [vsize_lt hn]; omega
    · rw [vsize_ge hn]
      have := ih (n / 128) (Nat.div_lt_of_lt_mul (by rw [Nat.pow_succ] at h; omega))
      omega
theorem vsize_10 {n : Nat} (h : n < 2 ^ 64) : vsize n ≤ 10 := vsize_pow 9 n (Nat.lt_of_lt_of_le h (by decide))
/-- byte number j of n -/
def dig (n j : Nat) : Nat := n / 128 ^ j % 128
def vbyte (n s j : Nat) : UInt8 := UInt8.ofNat (if j + 1 < s then dig n j + 128 else dig n j)
def vput (n : Nat) : List UInt8 := (List.range (vsize n)).map (vbyte n (vsize n))
theorem vput_len (n : Nat) : (vput n).length = vsize n := by simp [vput]
theorem or128 : ∀ a : Nat, a < 256 → a ||| 128 = a % 128 + 128 := by decide +kernel
theorem and127 : ∀ a : Nat, a < 256 → a &&& 127 = a % 128 := by decide +kernel
def vfault (c : UInt8) (k : Nat) : Bool := (decide (0 < k) && decide (c.toNat = 0)) || (decide (k = 9) && decide (1 < c.toNat))
def vget (k n : Nat) : List UInt8 → Nat × Nat × Nat
  | [] => (0, k, 20)
  | c :: cs => if vfault c k then (0, k, 21) else if c.toNat < 128 then (n + c.toNat % 128 * 128 ^ k, k + 1, 0) else vget (k + 1) (n + c.toNat % 128 * 128 ^ k) cs
abbrev By (w : World) (v : Value) (xs : List UInt8) : Prop := Sl w 1 v xs.length (xs.map bv)
theorem pow_lt9 {k : Nat} (hk : k ≤ 9) : 128 ^ k ≤ 2 ^ 63 := Nat.le_trans (Nat.pow_le_pow_right (by decide) hk) (by decide)
/-- one group more -/
theorem grp {k m c : Nat} (hk : k ≤ 9) (hm : m < 128 ^ k) (hc : c < 256) (h9 : k = 9 → c ≤ 1) :
    (m ||| ((c &&& 127) % 2 ^ 64 * 2 ^ (7 * k)) % 2 ^ 64) = m + c % 128 * 128 ^ k ∧ m + c % 128 * 128 ^ k < 2 ^ 64 ∧ (k < 9 → m + c % 128 * 128 ^ k < 128 ^ (k + 1)) := by
  have e : (2 : Nat) ^ (7 * k) = 128 ^ k := by rw [Nat.pow_mul]
  have h1 : c % 128 < 128 := Nat.mod_lt _ (by decide)
  have hp := pow_lt9 hk
  have lt2 : k < 9 → m + c % 128 * 128 ^ k < 128 ^ (k + 1) := by
    intro _
    have : c % 128 * 128 ^ k ≤ 127 * 128 ^ k := Nat.mul_le_mul_right _ (by omega)
    rw [Nat.pow_succ]; omega
  have lt : m + c % 128 * 128 ^ k < 2 ^ 64 := by
    by_cases h : k = 9
    · have := h9 h
      have : c % 128 * 128 ^ k ≤ 1 * 128 ^ k := Nat.mul_le_mul_right _ (by omega)
      omega
    · have h3 := lt2 (by omega)
      have : 128 ^ (k + 1) ≤ 128 ^ 9 := Nat.pow_le_pow_right (by decide) (by omega)
      have : (128 : Nat) ^ 9 = 2 ^ 63 := by decide
      omega
  refine ⟨?_, lt, lt2⟩
  rw [and127 c hc, Nat.mod_eq_of_lt (show c % 128 < 2 ^ 64 by omega), e, Nat.mod_eq_of_lt (by omega)]
  have := Nat.two_pow_add_eq_or_of_lt (i := 7 * k) (b := m) (by rw [e]; exact hm) (c % 128)
  rw [e] at this
  rw [Nat.or_comm, Nat.mul_comm, ← this]
  exact Nat.add_comm _ _
theorem getbv {xs : List UInt8} {k : Nat} (h : k < xs.length) : (xs.map bv)[k]? = some (bv xs[k]) := by simp [h]
theorem vfault9 {c : UInt8} {k : Nat} (h : vfault c k = false) : (k = 9 → c.toNat ≤ 1) ∧ (0 < k → c.toNat ≠ 0) := by
  simp only [vfault, Bool.or_eq_false_iff, Bool.and_eq_false_iff, decide_eq_false_iff_not] at h
  omega

theorem size_spec (n : Nat) (hn : n < 2 ^ 64) (w0 : World) : Ca Tryd.prog 54 #[.int .u64 (n : Int)] w0 (fun v w' => v = .int .i64 (vsize n : Int) ∧ w' = w0) := by
  have hs := vsize_10 hn
  refine Ca.of Tryd.func54 Tryd.ntmps54 rfl rfl ?_
  refine W.seq ?_
  refine W.region ?_
  refine WL.c rfl (o_as ?_)
  refine WL.nil ?_
  refine W.seq ?_
  refine W.region ?_
  refine WL.c rfl (o_as ?_)
  refine WL.nil ?_
  refine W.seq ?_
  refine W.block ?_
  refine W.loop (fun e w => ∃ m k : Nat, e 0 = .int .u64 (m : Int) ∧ m < 2 ^ 64 ∧ e 3 = .int .i64 (k : Int) ∧ vsize n + 1 = vsize m + k ∧ w = w0) (fun e w => (intOf (e 0)).toNat) ?_ ?_
  · exact ⟨n, 1, rfl, hn, rfl, rfl, rfl⟩
  rintro e w ⟨m, k, h0, hm, h3, hk, rfl⟩
  refine W.seq ?_
  refine W.seq ?_
  refine W.region ?_
  refine WL.c rfl (o_mvh h0 ?_)
  refine WL.c rfl (o_ge rfl rfl ?_)
  refine WL.nil ?_
  refine W.cond rfl (fun c5 => ?_) (fun c5 => ?_)
  · try simp only [decide_eq_true_eq, decide_eq_false_iff_not, Bool.not_eq_true', Bool.not_eq_false', Bool.and_eq_true, Bool.or_eq_true, Bool.and_eq_false_iff, Bool.or_eq_false_iff] at c5
    refine W.skip ?_
    refine W.block ?_
    refine W.seq ?_
    refine W.region ?_
    refine WL.c rfl (o_mvh h0 ?_)
    refine WL.c rfl (n_shr (b := 7) 18446744073709551616 rfl (by decide) rfl rfl (by omega) ?_)
    refine WL.c rfl (o_as ?_)
    refine WL.nil ?_
    refine W.region ?_
    refine WL.c rfl (o_mvh h3 ?_)
    refine WL.c rfl (o_addi rfl rfl (by omega) ?_)
    refine WL.c rfl (o_as ?_)
    refine WL.nil ?_
    have := vsize_ge (n := m) (by omega)
    refine ⟨⟨m / 128, k + 1, rfl, by omega, rfl, by omega, rfl⟩, ?_⟩
    show ((m / 128 : Nat) : Int).toNat < (intOf (e 0)).toNat
    rw [h0]; simp [intOf]; omega
  · try simp only [decide_eq_true_eq, decide_eq_false_iff_not, Bool.not_eq_true', Bool.not_eq_false', Bool.and_eq_true, Bool.or_eq_true, Bool.and_eq_false_iff, Bool.or_eq_false_iff] at c5
    refine W.exit ?_
    refine W.seq ?_
    refine W.region ?_
    refine WL.c rfl (o_mvh h3 ?_)
    refine WL.c rfl (o_as ?_)
    refine WL.nil ?_
    refine W.ret ?_
    refine ret1v rfl (show _ = Value.int _ _ from rfl) ?_
    have := vsize_lt (n := m) (by omega)
    exact ⟨by congr 1; omega, rfl⟩
theorem fault_spec (c : UInt8) (k : Nat) (w : World) : Ca Tryd.prog 70 #[bv c, .int .i64 (k : Int)] w (fun v w' => v = .bool (vfault c k) ∧ w' = w) := by
  refine Ca.of Tryd.func70 Tryd.ntmps70 rfl rfl ?_
  refine W.seq ?_
  refine W.region ?_
  refine WL.c rfl (o_as ?_)
  refine WL.nil ?_
  refine W.seq ?_
  refine W.region ?_
  refine WL.c rfl (o_mv ?_)
  refine WL.c rfl (o_gt rfl rfl ?_)
  refine WL.c rfl (o_mv ?_)
  refine WL.sp 2 rfl (fun g7 => ?_) (fun g7 => ?_)
  · skip
    refine WL.g rfl (g7) rfl (o_mv ?_)
    refine WL.g rfl (g7) rfl (o_eq rfl rfl ?_)
    refine WL.c rfl (o_pickA rfl rfl ?_)
    refine WL.c rfl (o_mv ?_)
    refine WL.sp 6 rfl (fun g11 => ?_) (fun g11 => ?_)
    · skip
      refine WL.s rfl (g11) rfl ?_
      refine WL.s rfl (g11) rfl ?_
      refine WL.s rfl (g11) rfl ?_
      refine WL.z rfl rfl ?_
      refine WL.z rfl rfl ?_
      refine WL.s rfl (g11) rfl ?_
      refine WL.c rfl (o_pickT rfl (g11) ?_)
      refine WL.c rfl (o_as ?_)
      refine WL.nil ?_
      refine W.ret ?_
      refine ret1v rfl (show _ = Value.bool _ from rfl) ?_
      refine ⟨?_, rfl⟩
      congr 1
      simp only [decide_eq_true_eq, decide_eq_false_iff_not, Bool.and_eq_true, Bool.and_eq_false_iff] at *
      rw [Bool.eq_iff_iff]
      simp only [vfault, Bool.or_eq_true, Bool.and_eq_true, decide_eq_true_eq, true_iff, iff_true, Bool.false_eq_true, iff_false, false_iff, false_or, or_false, and_false, false_and, true_and, and_true, reduceCtorEq]
      omega
    · skip
      refine WL.g rfl (g11) rfl (o_mv ?_)
      refine WL.g rfl (g11) rfl (o_eq rfl rfl ?_)
      refine WL.g rfl (g11) rfl (o_mv ?_)
      refine WL.sp 9 rfl (fun g14 => ?_) (fun g14 => ?_)
      · skip
        refine WL.g rfl (g14) rfl (o_mv ?_)
        refine WL.g rfl (g14) rfl (o_gt rfl rfl ?_)
        refine WL.g rfl (g11) rfl (o_pickA rfl rfl ?_)
        refine WL.c rfl (o_pickO rfl rfl ?_)
        refine WL.c rfl (o_as ?_)
        refine WL.nil ?_
        refine W.ret ?_
        refine ret1v rfl (show _ = Value.bool _ from rfl) ?_
        refine ⟨?_, rfl⟩
        congr 1
        simp only [decide_eq_true_eq, decide_eq_false_iff_not, Bool.and_eq_true, Bool.and_eq_false_iff] at *
        rw [Bool.eq_iff_iff]
        simp only [vfault, Bool.or_eq_true, Bool.and_eq_true, decide_eq_true_eq, true_iff, iff_true, Bool.false_eq_true, iff_false, false_iff, false_or, or_false, and_false, false_and, true_and, and_true, reduceCtorEq]
        omega
      · skip
        refine WL.s rfl (g14) rfl ?_
        refine WL.s rfl (g14) rfl ?_
        refine WL.g rfl (g11) rfl (o_pickF rfl (g14) ?_)
        refine WL.c rfl (o_pickO rfl rfl ?_)
        refine WL.c rfl (o_as ?_)
        refine WL.nil ?_
        refine W.ret ?_
        refine ret1v rfl (show _ = Value.bool _ from rfl) ?_
        refine ⟨?_, rfl⟩
        congr 1
        simp only [decide_eq_true_eq, decide_eq_false_iff_not, Bool.and_eq_true, Bool.and_eq_false_iff] at *
        rw [Bool.eq_iff_iff]
        simp only [vfault, Bool.or_eq_true, Bool.and_eq_true, decide_eq_true_eq, true_iff, iff_true, Bool.false_eq_true, iff_false, false_iff, false_or, or_false, and_false, false_and, true_and, and_true, reduceCtorEq]
        omega
  · skip
    refine WL.s rfl (g7) rfl ?_
    refine WL.s rfl (g7) rfl ?_
    refine WL.c rfl (o_pickF rfl (g7) ?_)
    refine WL.c rfl (o_mv ?_)
    refine WL.g rfl (rfl) rfl (o_mv ?_)
    refine WL.g rfl (rfl) rfl (o_eq rfl rfl ?_)
    refine WL.g rfl (rfl) rfl (o_mv ?_)
    refine WL.sp 9 rfl (fun g14 => ?_) (fun g14 => ?_)
    · skip
      refine WL.g rfl (g14) rfl (o_mv ?_)
      refine WL.g rfl (g14) rfl (o_gt rfl rfl ?_)
      refine WL.g rfl (rfl) rfl (o_pickA rfl rfl ?_)
      refine WL.c rfl (o_pickO rfl rfl ?_)
      refine WL.c rfl (o_as ?_)
      refine WL.nil ?_
      refine W.ret ?_
      refine ret1v rfl (show _ = Value.bool _ from rfl) ?_
      refine ⟨?_, rfl⟩
      congr 1
      simp only [decide_eq_true_eq, decide_eq_false_iff_not, Bool.and_eq_true, Bool.and_eq_false_iff] at *
      rw [Bool.eq_iff_iff]
      simp only [vfault, Bool.or_eq_true, Bool.and_eq_true, decide_eq_true_eq, true_iff, iff_true, Bool.false_eq_true, iff_false, false_iff, false_or, or_false, and_false, false_and, true_and, and_true, reduceCtorEq]
      omega
    · skip
      refine WL.s rfl (g14) rfl ?_
      refine WL.s rfl (g14) rfl ?_
      refine WL.g rfl (rfl) rfl (o_pickF rfl (g14) ?_)
      refine WL.c rfl (o_pickO rfl rfl ?_)
      refine WL.c rfl (o_as ?_)
      refine WL.nil ?_
      refine W.ret ?_
      refine ret1v rfl (show _ = Value.bool _ from rfl) ?_
      refine ⟨?_, rfl⟩
      congr 1
      simp only [decide_eq_true_eq, decide_eq_false_iff_not, Bool.and_eq_true, Bool.and_eq_false_iff] at *
      rw [Bool.eq_iff_iff]
      simp only [vfault, Bool.or_eq_true, Bool.and_eq_true, decide_eq_true_eq, true_iff, iff_true, Bool.false_eq_true, iff_false, false_iff, false_or, or_false, and_false, false_and, true_and, and_true, reduceCtorEq]
      omega
theorem get_spec (xs : List UInt8) (v : Value) (w0 : World) (hB : By w0 v xs) (hlen : xs.length ≤ maxLen) : Ca Tryd.prog 57 #[v] w0 (fun r w' => r = .tuple #[.int .u64 ((vget 0 0 xs).1 : Int), .int .i64 ((vget 0 0 xs).2.1 : Int), .int .i64 ((vget 0 0 xs).2.2 : Int)] ∧ w' = w0) := by
  unfold maxLen at hlen
  refine Ca.of Tryd.func57 Tryd.ntmps57 rfl rfl ?_
  refine W.seq ?_
  refine W.region ?_
  refine WL.c rfl (o_as ?_)
  refine WL.c rfl (o_as ?_)
  refine WL.c rfl (o_as ?_)
  refine WL.nil ?_
  refine W.seq ?_
  refine W.seq ?_
  refine W.region ?_
  refine WL.c rfl (o_mv ?_)
  refine WL.c rfl (o_lenR TI34 rfl hB ?_)
  refine WL.c rfl (o_mv ?_)
  refine WL.nil ?_
  refine W.block ?_
  refine W.loop (fun e w => ∃ k m : Nat, e 2 = .int .u64 (m : Int) ∧ e 7 = v ∧ e 8 = .int .i64 (xs.length : Int) ∧ e 9 = .int .i64 (k : Int) ∧ k ≤ xs.length ∧ k ≤ 9 ∧ m < 128 ^ k ∧ vget 0 0 xs = vget k m (xs.drop k) ∧ e 0 = v ∧ w = w0) (fun e w => xs.length - (intOf (e 9)).toNat) ?_ ?_
  · exact ⟨0, 0, rfl, rfl, rfl, rfl, Nat.zero_le _, by omega, by decide, rfl, rfl, rfl⟩
  rintro e w ⟨k, m, h2, h7, h8, h9, hk, hk9, hm, hg, h0, rfl⟩
  refine W.seq ?_
  refine W.region ?_
  refine WL.c rfl (o_lt h9 h8 ?_)
  refine WL.nil ?_
  refine W.seq ?_
  refine W.cond rfl (fun c10 => ?_) (fun c10 => ?_)
  · try simp only [decide_eq_true_eq, decide_eq_false_iff_not, Bool.not_eq_true', Bool.not_eq_false', Bool.and_eq_true, Bool.or_eq_true, Bool.and_eq_false_iff, Bool.or_eq_false_iff] at c10
    refine W.skip ?_
    refine W.seq ?_
    refine W.block ?_
    refine W.seq ?_
    have hk1 : k < xs.length := by omega
    refine W.region ?_
    refine WL.c rfl (o_mvh h9 ?_)
    refine WL.c rfl (o_ix1 TI34 TI5 h7 h9 hB (by omega) ?_)
    intro b12 o12 hc12 hb12
    refine WL.c rfl (o_ld TI5 rfl rfl (hc12.trans (getbv hk1)) ?_)
    refine WL.c rfl (o_as ?_)
    refine WL.c rfl (o_as ?_)
    refine WL.nil ?_
    refine W.seq ?_
    refine W.seq ?_
    refine W.region ?_
    refine WL.c rfl (o_mv ?_)
    refine WL.c rfl (o_mv ?_)
    refine WL.c rfl (o_call Tryd.call70 (lc rfl (lc rfl ln)) ((fault_spec xs[k] k _).mono ?_))
    rintro v w' ⟨rfl, rfl⟩
    refine WL.nil ?_
    refine W.cond rfl (fun c16 => ?_) (fun c16 => ?_)
    · try simp only [decide_eq_true_eq, decide_eq_false_iff_not, Bool.not_eq_true', Bool.not_eq_false', Bool.and_eq_true, Bool.or_eq_true, Bool.and_eq_false_iff, Bool.or_eq_false_iff] at c16
      have hf : vfault xs[k] k = true := c16
      refine W.seq ?_
      refine W.region ?_
      refine WL.c rfl (o_mv ?_)
      refine WL.c rfl (o_as ?_)
      refine WL.c rfl (o_as ?_)
      refine WL.c rfl (o_as ?_)
      refine WL.nil ?_
      refine W.ret ?_
      refine ret3v rfl (show _ = Value.int _ _ from rfl) (show _ = Value.int _ _ from rfl) (show _ = Value.int _ _ from rfl) ?_
      refine ⟨?_, rfl⟩
      have hcons : xs.drop k = xs[k] :: xs.drop (k + 1) := by rw [List.getElem_cons_drop]
      rw [hg, hcons, vget]
      simp only [hf, if_true]; rfl
    · try simp only [decide_eq_true_eq, decide_eq_false_iff_not, Bool.not_eq_true', Bool.not_eq_false', Bool.and_eq_true, Bool.or_eq_true, Bool.and_eq_false_iff, Bool.or_eq_false_iff] at c16
      have hf : vfault xs[k] k = false := c16
      have hc8 : (xs[k]).toNat < 256 := UInt8.toNat_lt _
      have hgr := grp (c := (xs[k]).toNat) hk9 hm hc8 (vfault9 hf).1
      have hm64 : m < 18446744073709551616 := by have := pow_lt9 hk9; omega
      refine W.skip ?_
      refine W.seq ?_
      refine W.region ?_
      refine WL.c rfl (o_mvh h2 ?_)
      refine WL.c rfl (o_mv ?_)
      refine WL.c rfl (n_and (b := 127) 256 rfl (by decide) rfl rfl (by omega) (by decide) ?_)
      refine WL.c rfl (n_cvI 18446744073709551616 rfl TI5 TI58 (by decide) rfl ?_)
      refine WL.c rfl (o_mv ?_)
      refine WL.c rfl (o_muli rfl rfl (by omega) ?_)
      refine WL.c rfl (n_shl (b := 7 * k) 18446744073709551616 rfl (by decide) rfl (by show Value.int _ (7 * (k : Int)) = _; rfl) ?_)
      refine WL.c rfl (n_or 18446744073709551616 rfl (by decide) rfl rfl (by omega) (Nat.mod_lt _ (by decide)) ?_)
      refine WL.c rfl (o_as ?_)
      refine WL.nil ?_
      refine W.seq ?_
      refine W.region ?_
      refine WL.c rfl (o_mv ?_)
      refine WL.c rfl (o_lt rfl rfl ?_)
      refine WL.nil ?_
      refine W.cond rfl (fun c27 => ?_) (fun c27 => ?_)
      · try simp only [decide_eq_true_eq, decide_eq_false_iff_not, Bool.not_eq_true', Bool.not_eq_false', Bool.and_eq_true, Bool.or_eq_true, Bool.and_eq_false_iff, Bool.or_eq_false_iff] at c27
        refine W.seq ?_
        refine W.region ?_
        refine WL.c rfl (o_mv ?_)
        refine WL.c rfl (o_mv ?_)
        refine WL.c rfl (o_addi rfl rfl (by omega) ?_)
        refine WL.c rfl (o_as ?_)
        refine WL.c rfl (o_as ?_)
        refine WL.c rfl (o_as ?_)
        refine WL.nil ?_
        refine W.ret ?_
        refine ret3v rfl (show _ = Value.int _ _ from rfl) (show _ = Value.int _ _ from rfl) (show _ = Value.int _ _ from rfl) ?_
        refine ⟨?_, rfl⟩
        have hcons : xs.drop k = xs[k] :: xs.drop (k + 1) := by rw [List.getElem_cons_drop]
        rw [hg, hcons, vget]
        simp only [hf, Bool.false_eq_true, if_false]
        rw [if_pos (by omega)]
        congr 4
        exact congrArg (fun n : Nat => (n : Int)) hgr.1
      · try simp only [decide_eq_true_eq, decide_eq_false_iff_not, Bool.not_eq_true', Bool.not_eq_false', Bool.and_eq_true, Bool.or_eq_true, Bool.and_eq_false_iff, Bool.or_eq_false_iff] at c27
        refine W.skip ?_
        refine W.region ?_
        refine WL.c rfl (o_addi h9 rfl (by omega) ?_)
        refine WL.c rfl (o_mv ?_)
        refine WL.nil ?_
        have hcons : xs.drop k = xs[k] :: xs.drop (k + 1) := by rw [List.getElem_cons_drop]
        rw [hcons, vget] at hg
        simp only [hf, Bool.false_eq_true, if_false] at hg
        rw [if_neg (by omega)] at hg
        have hk8 : k < 9 := by have := vfault9 hf; omega
        refine ⟨⟨k + 1, _, congrArg (fun n : Nat => Value.int .u64 (n : Int)) hgr.1, h7, h8, rfl, by omega, by omega, hgr.2.2 hk8, hg, h0, rfl⟩, ?_⟩
        show xs.length - ((k : Int) + 1).toNat < _
        rw [h9]; simp [intOf]; omega
  · try simp only [decide_eq_true_eq, decide_eq_false_iff_not, Bool.not_eq_true', Bool.not_eq_false', Bool.and_eq_true, Bool.or_eq_true, Bool.and_eq_false_iff, Bool.or_eq_false_iff] at c10
    refine W.exit ?_
    refine W.seq ?_
    refine W.region ?_
    refine WL.c rfl (o_mvh h0 ?_)
    refine WL.c rfl (o_lenR TI34 rfl hB ?_)
    refine WL.c rfl (o_as ?_)
    refine WL.c rfl (o_as ?_)
    refine WL.c rfl (o_as ?_)
    refine WL.nil ?_
    refine W.ret ?_
    refine ret3v rfl (show _ = Value.int _ _ from rfl) (show _ = Value.int _ _ from rfl) (show _ = Value.int _ _ from rfl) ?_
    refine ⟨?_, rfl⟩
    have : k = xs.length := by omega
    rw [hg, this, List.drop_length]; rfl

theorem vbyte_lt (n s j : Nat) : (if j + 1 < s then dig n j + 128 else dig n j) < 256 := by unfold dig; split <;> omega
theorem bv_ofNat {a : Nat} (h : a < 256) : bv (UInt8.ofNat a) = .int .u8 (a : Int) := by simp [bv, Nat.mod_eq_of_lt h]
/-- the bytes that are written so far, all of them with the high bit -/
def hi (n j : Nat) : UInt8 := UInt8.ofNat (dig n j + 128)
def filled (n s i : Nat) : List Value := ((List.range i).map fun j => bv (hi n j)) ++ List.replicate (s - i) (.int .u8 0)
theorem filled_len {n s i : Nat} (h : i ≤ s) : (filled n s i).length = s := by simp [filled]; omega
theorem filled_set {n s i : Nat} (h : i < s) {v : Value} (hv : v = bv (hi n i)) : (filled n s i).set i v = filled n s (i + 1) := by
  subst hv
  unfold filled
  apply List.ext_getElem?
  intro j
  rw [List.getElem?_set]
  simp only [List.length_append, List.length_map, List.length_range, List.length_replicate]
  by_cases hj : i = j
  · subst hj
    rw [if_pos rfl, if_pos (by omega), List.getElem?_append_left (by simp)]
    simp
  · rw [if_neg hj]
    by_cases h1 : j < i
    · rw [List.getElem?_append_left (by simpa using h1), List.getElem?_append_left (by simp; omega)]
      simp [h1, show j < i + 1 by omega]
    · rw [List.getElem?_append_right (by simp; omega), List.getElem?_append_right (by simp; omega)]
      simp only [List.length_map, List.length_range, List.getElem?_replicate]
      split <;> split <;> first | rfl | omega
theorem filled_last {n s : Nat} (h : 0 < s) {v : Value} (hs : s = vsize n) (hv : v = bv (UInt8.ofNat (dig n (s - 1)))) : (filled n s s).set (s - 1) v = (vput n).map bv := by
  subst hv hs
  unfold filled vput
  apply List.ext_getElem?
  intro j
  rw [List.getElem?_set]
  simp only [List.length_append, List.length_map, List.length_range, List.length_replicate, List.map_map]
  by_cases hj : vsize n - 1 = j
  · subst hj
    rw [if_pos rfl, if_pos (by omega)]
    simp [show vsize n - 1 < vsize n by omega, vbyte, show ¬ (vsize n - 1 + 1 < vsize n) by omega]
  · rw [if_neg hj]
    by_cases h1 : j < vsize n
    · simp [h1, vbyte, hi, show j + 1 < vsize n by omega]
    · simp [h1]
theorem dig_div (n i : Nat) : n / 128 ^ i / 128 = n / 128 ^ (i + 1) := by rw [Nat.div_div_eq_div_mul, Nat.pow_succ]
theorem madeBytes (s : Nat) : (madeCells #[.int .u8 0] (s * 1)).toList = filled 0 s 0 := by
  rw [Nat.mul_one, toList_madeCells_one]; simp [filled]

theorem put_spec (n : Nat) (hn : n < 2 ^ 64) (w0 : World) : Ca Tryd.prog 27 #[.int .u64 (n : Int)] w0 (fun v w' => ∃ b, v = .slice (some ⟨b, 0, none⟩) (vsize n) (vsize n) ∧ w0.heap.size ≤ b ∧ w'.heap[b]? = some (.cells ((vput n).map bv).toArray 5 (0, 0)) ∧ Ext w0 w') := by
  have hs10 := vsize_10 hn
  have hs1 := vsize_pos n
  refine Ca.of Tryd.func27 Tryd.ntmps27 rfl rfl ?_
  refine W.seq ?_
  refine W.region ?_
  refine WL.c rfl (o_as ?_)
  refine WL.nil ?_
  refine W.seq ?_
  refine W.region ?_
  refine WL.c rfl (o_mv ?_)
  refine WL.c rfl (o_call Tryd.call54 (lc rfl ln) ((size_spec n hn _).mono ?_))
  rintro v w' ⟨rfl, rfl⟩
  refine WL.c rfl (o_mk TI34 TI5 rfl rfl (by omega) (by omega) ?_)
  refine WL.c rfl (o_as ?_)
  refine WL.nil ?_
  have hblk : (w'.alloc (.cells (madeCells #[.int .u8 0] (vsize n * 1)) 5)).heap[w'.heap.size]? = some (.cells (filled n (vsize n) 0).toArray 5 (0, 0)) := by
    rw [heap_alloc_new]
    have := madeBytes (vsize n)
    congr 2
    apply Array.ext'
    simpa [filled] using this
  have hext : Ext w' (w'.alloc (.cells (madeCells #[.int .u8 0] (vsize n * 1)) 5)) := Only.alloc _ _
  obtain ⟨wa, hwa⟩ : ∃ wa, wa = w'.alloc (.cells (madeCells #[.int .u8 0] (vsize n * 1)) 5) := ⟨_, rfl⟩
  have hgo : ∀ wx, wx = wa → True := fun _ _ => trivial
  refine W.seq ?_
  refine W.seq ?_
  refine W.region ?_
  refine WL.c rfl (o_mv ?_)
  refine WL.c rfl (o_len TI34 rfl ?_)
  refine WL.c rfl (o_mv ?_)
  refine WL.nil ?_
  refine W.block ?_
  refine W.loop (fun e w => ∃ i : Nat, i ≤ vsize n ∧ e 0 = .int .u64 ((n / 128 ^ i : Nat) : Int) ∧ e 3 = .slice (some ⟨w'.heap.size, 0, none⟩) (vsize n) (vsize n) ∧ e 9 = .int .i64 (vsize n : Int) ∧ e 10 = .int .i64 (i : Int) ∧ w.heap[w'.heap.size]? = some (.cells (filled n (vsize n) i).toArray 5 (0, 0)) ∧ Ext w' w) (fun e w => vsize n - (intOf (e 10)).toNat) ?_ ?_
  · exact ⟨0, Nat.zero_le _, by show Value.int _ _ = _; simp, rfl, rfl, rfl, hblk, hext⟩
  rintro e w ⟨i, hi1, h0, h3, h9, h10, hb, hx⟩
  refine W.seq ?_
  refine W.region ?_
  refine WL.c rfl (o_lt h10 h9 ?_)
  refine WL.nil ?_
  refine W.seq ?_
  refine W.cond rfl (fun c11 => ?_) (fun c11 => ?_)
  · try simp only [decide_eq_true_eq, decide_eq_false_iff_not, Bool.not_eq_true', Bool.not_eq_false', Bool.and_eq_true, Bool.or_eq_true, Bool.and_eq_false_iff, Bool.or_eq_false_iff] at c11
    refine W.skip ?_
    refine W.seq ?_
    refine W.block ?_
    refine W.seq ?_
    refine W.region ?_
    refine WL.c rfl (o_mvh h10 ?_)
    refine WL.c rfl (o_as ?_)
    refine WL.nil ?_
    refine W.seq ?_
    have hin : n / 128 ^ i < 2 ^ 64 := Nat.lt_of_le_of_lt (Nat.div_le_self _ _) hn
    have hlt : i < vsize n := by omega
    refine W.region ?_
    refine WL.c rfl (o_mvh h3 ?_)
    refine WL.c rfl (o_mv ?_)
    refine WL.c rfl (o_mvh h0 ?_)
    refine WL.c rfl (n_cvI 256 rfl TI58 TI5 (by decide) rfl ?_)
    refine WL.c rfl (n_or (b := 128) 256 rfl (by decide) rfl rfl (Nat.mod_lt _ (by decide)) (by decide) ?_)
    refine WL.c rfl (o_ixB TI34 TI5 rfl rfl (by omega) ?_)
    refine WL.u (o_stB TI5 rfl (show _ = Value.int _ _ from rfl) rfl hb (by simp [filled_len hi1]; omega) ?_)
    intro w18 hB18 ho18 hs18
    refine WL.nil ?_
    refine W.region ?_
    refine WL.c rfl (o_mvh h0 ?_)
    refine WL.c rfl (n_shr (b := 7) 18446744073709551616 rfl (by decide) rfl rfl (by omega) ?_)
    refine WL.c rfl (o_as ?_)
    refine WL.nil ?_
    refine W.region ?_
    refine WL.c rfl (o_addi h10 rfl (by omega) ?_)
    refine WL.c rfl (o_mv ?_)
    refine WL.nil ?_
    refine ⟨⟨i + 1, by omega, ?_, h3, h9, rfl, ?_, hx.trans' ho18 (fun _ h => h) (fun k hk he => by omega)⟩, ?_⟩
    · exact congrArg (fun x : Nat => Value.int .u64 (x : Int)) (dig_div n i)
    · rw [hB18, List.setIfInBounds_toArray, show 0 + i * 1 = i by omega, filled_set (by omega)]
      rw [hi, bv_ofNat (by unfold dig; omega)]
      exact congrArg (fun x : Nat => Value.int .u8 (x : Int)) (by rw [or128 _ (Nat.mod_lt _ (by decide))]; unfold dig; omega)
    · show vsize n - ((i : Int) + 1).toNat < _
      rw [h10]; simp [intOf]; omega
  · try simp only [decide_eq_true_eq, decide_eq_false_iff_not, Bool.not_eq_true', Bool.not_eq_false', Bool.and_eq_true, Bool.or_eq_true, Bool.and_eq_false_iff, Bool.or_eq_false_iff] at c11
    refine W.exit ?_
    refine W.seq ?_
    have : i = vsize n := by omega
    subst this
    refine W.region ?_
    refine WL.c rfl (o_mvh h3 ?_)
    refine WL.c rfl (o_mvh h3 ?_)
    refine WL.c rfl (o_len TI34 rfl ?_)
    refine WL.c rfl (o_subi rfl rfl (by omega) ?_)
    refine WL.c rfl (o_ixB (i := vsize n - 1) TI34 TI5 rfl (by show Value.int _ ((vsize n : Int) - 1) = _; congr 1; omega) (by omega) ?_)
    have hl27 : w.cell? ⟨w'.heap.size, 0 + (vsize n - 1) * 1, none⟩ = some (.int .u8 ((dig n (vsize n - 1) + 128 : Nat) : Int)) := by
      rw [cell_of_row w _ _ _ _ _ hb]
      simp only [Nat.zero_add, Nat.mul_one, List.getElem?_toArray]
      rw [filled, List.getElem?_append_left (by simp; omega)]
      simp [show vsize n - 1 < vsize n by omega, hi, bv, dig]; omega
    refine WL.c rfl (o_ld TI5 rfl rfl hl27 ?_)
    refine WL.c rfl (n_and (b := 127) 256 rfl (by decide) rfl rfl (by unfold dig; omega) (by decide) ?_)
    refine WL.c rfl (o_ixB (i := vsize n - 1) TI34 TI5 rfl (by show Value.int _ ((vsize n : Int) - 1) = _; congr 1; omega) (by omega) ?_)
    refine WL.u (o_stB TI5 rfl (show _ = Value.int _ _ from rfl) rfl hb (by simp [filled_len hi1]; omega) ?_)
    intro w29 hB29 ho29 hs29
    refine WL.nil ?_
    refine W.seq ?_
    refine W.region ?_
    refine WL.c rfl (o_mvh h3 ?_)
    refine WL.c rfl (o_as ?_)
    refine WL.nil ?_
    refine W.ret ?_
    refine ret1v rfl rfl ?_
    refine ⟨w'.heap.size, rfl, Nat.le_refl _, ?_, hx.trans' ho29 (fun _ h => h) (fun k hk he => by omega)⟩
    rw [hB29, List.setIfInBounds_toArray]
    rw [show 0 + (vsize n - 1) * 1 = vsize n - 1 by omega, filled_last (by omega) rfl]
    rw [bv_ofNat (by unfold dig; omega)]
    exact congrArg (fun x : Nat => Value.int .u8 (x : Int)) (by rw [and127 _ (by unfold dig; omega)]; unfold dig; omega)

/-- a reader: what it has taken, and whether it is over; all that it took is of a number's form -/
structure RdOk (bs : List UInt8) (over : Bool) : Prop where
  fine : ∀ i (h : i < bs.length), vfault bs[i] i = false
  len : bs.length ≤ 10
  more : over = false → bs.length ≤ 9
def rnext (bs : List UInt8) (over : Bool) (c : UInt8) : List UInt8 := if over || vfault c bs.length then bs else bs ++ [c]
def rover (bs : List UInt8) (over : Bool) (c : UInt8) : Bool := over || vfault c bs.length || decide (c.toNat < 128)
def rerr (bs : List UInt8) (over : Bool) (c : UInt8) : Nat := if over then 30 else if vfault c bs.length then 21 else 0
theorem RdOk.next {bs : List UInt8} {over : Bool} (h : RdOk bs over) (c : UInt8) : RdOk (rnext bs over c) (rover bs over c) := by
  unfold rnext rover
  cases over with
  | true => simpa using h
  | false =>
    cases hf : vfault c bs.length with
    | true => simp; exact ⟨h.fine, h.len, by simp⟩
    | false =>
      have h9 := h.more rfl
      have hv := vfault9 hf
      simp
      refine ⟨fun i hi => ?_, by simp; omega, fun hd => ?_⟩
      · simp only [List.length_append, List.length_singleton] at hi
        by_cases hk : i < bs.length
        · rw [List.getElem_append_left hk]; exact h.fine i hk
        · have : i = bs.length := by omega
          subst this; simpa using hf
      · simp at hd ⊢; omega
def vnum (k m : Nat) : List UInt8 → Nat
  | [] => m
  | c :: cs => vnum (k + 1) (m + c.toNat % 128 * 128 ^ k) cs
def Fresh (w0 w : World) (v : Value) (xs : List UInt8) : Prop := w.ownsRow w0.heap.size 5 1 v xs.length (xs.map bv) ∧ Ext w0 w
theorem maxLen_eq : maxLen = 9223372036854775807 := rfl


/-- bytes taken one by one, up to the first error -/
def rload (bs : List UInt8) (over : Bool) : List UInt8 → Nat × List UInt8 × Bool
  | [] => (0, bs, over)
  | c :: cs => if rerr bs over c = 0 then rload (rnext bs over c) (rover bs over c) cs else (rerr bs over c, [], false)
theorem rload_ok : ∀ (xs : List UInt8) (bs : List UInt8) (over : Bool), RdOk bs over → RdOk (rload bs over xs).2.1 (rload bs over xs).2.2
  | [], _, _, h => h
  | c :: cs, bs, over, h => by
    unfold rload
    split
    · exact rload_ok cs _ _ (h.next c)
    · exact ⟨fun i h => absurd h (Nat.not_lt_zero _), by simp, by simp⟩
theorem RdOk.new : RdOk [] false := ⟨fun i h => absurd h (Nat.not_lt_zero _), by simp, by simp⟩
theorem Fresh.by {w0 w : World} {v : Value} {xs : List UInt8} (h : Fresh w0 w v xs) : By w v xs := Sl.own h.1
theorem put_fresh {w0 w : World} {n b : Nat} (hb : w0.heap.size ≤ b) (h : w.heap[b]? = some (.cells ((vput n).map bv).toArray 5 (0, 0))) (hn : n < 2 ^ 64) (hx : Ext w0 w) : Fresh w0 w (.slice (some ⟨b, 0, none⟩) (vsize n) (vsize n)) (vput n) := by
  have h10 := vsize_10 hn
  have hl := vput_len n
  refine ⟨⟨by simp, .inr ⟨b, vsize n, _, by rw [hl], hb, h, by omega, by rw [maxLen_eq]; omega, by simp [hl], ?_⟩⟩, hx⟩
  rw [hl]
  exact List.take_of_length_le (by simp [hl])
theorem vsize_up : ∀ (n : Nat), n < 128 ^ vsize n := by
  intro n
  induction n using Nat.strongRecOn with
  | _ n ih =>
    by_cases h : n < 128
    · rw [vsize_lt h]; simpa using h
    · rw [vsize_ge h, Nat.pow_succ]
      have := ih (n / 128) (by omega)
      omega
theorem vsize_dn : ∀ (n : Nat), vsize n = 1 ∨ 128 ^ (vsize n - 1) ≤ n := by
  intro n
  induction n using Nat.strongRecOn with
  | _ n ih =>
    by_cases h : n < 128
    · exact .inl (vsize_lt h)
    · right
      have hp := vsize_pos (n / 128)
      rw [vsize_ge h, Nat.add_sub_cancel]
      rcases ih (n / 128) (by omega) with h1 | h1
      · rw [h1]; omega
      · obtain ⟨k, hk⟩ : ∃ k, vsize (n / 128) = k + 1 := ⟨vsize (n / 128) - 1, by omega⟩
        rw [hk] at h1 ⊢
        rw [Nat.add_sub_cancel] at h1
        rw [Nat.pow_succ]; omega
theorem mod_succ (n j : Nat) : n % 128 ^ (j + 1) = n % 128 ^ j + dig n j * 128 ^ j := by
  rw [Nat.pow_succ, Nat.mod_mul]; unfold dig; rw [Nat.mul_comm (128 ^ j)]
theorem vput_get {n j : Nat} (h : j < vsize n) : (vput n)[j]? = some (vbyte n (vsize n) j) := by simp [vput, h]
theorem dig_lt (n j : Nat) : dig n j < 128 := Nat.mod_lt _ (by decide)
theorem vbyte_nat (n s j : Nat) : (vbyte n s j).toNat = if j + 1 < s then dig n j + 128 else dig n j := by
  have := vbyte_lt n s j
  unfold vbyte
  rw [UInt8.toNat_ofNat']
  exact Nat.mod_eq_of_lt this
theorem vbyte_fine {n j : Nat} (hn : n < 2 ^ 64) (h : j < vsize n) : vfault (vbyte n (vsize n) j) j = false := by
  have h10 := vsize_10 hn
  have hd := dig_lt n j
  simp only [vfault, Bool.or_eq_false_iff, Bool.and_eq_false_iff, decide_eq_false_iff_not, vbyte_nat]
  refine ⟨?_, ?_⟩
  · by_cases hj : 0 < j
    · right
      split
      · omega
      · have hl : j = vsize n - 1 := by omega
        have h1 := (vsize_dn n).resolve_left (by omega)
        rw [← hl] at h1
        have h2 := vsize_up n
        rw [show vsize n = j + 1 by omega, Nat.pow_succ] at h2
        have h3 : n / 128 ^ j < 128 := Nat.div_lt_of_lt_mul (by rw [Nat.mul_comm]; rw [Nat.mul_comm] at h2; exact h2)
        have h4 : 0 < n / 128 ^ j := Nat.div_pos h1 (Nat.pow_pos (by decide))
        unfold dig
        rw [Nat.mod_eq_of_lt h3]; omega
    · left; omega
  · by_cases hj : j = 9
    · right
      subst hj
      rw [if_neg (by omega)]
      have : n / 128 ^ 9 < 2 := Nat.div_lt_of_lt_mul (Nat.lt_of_lt_of_le hn (by decide))
      unfold dig
      omega
    · left; exact hj
theorem drop_cons {α : Type} {l : List α} {j : Nat} {x : α} (h : l[j]? = some x) : l.drop j = x :: l.drop (j + 1) := by
  obtain ⟨hj, rfl⟩ := List.getElem?_eq_some_iff.1 h
  rw [List.getElem_cons_drop]
theorem vget_run {n : Nat} (hn : n < 2 ^ 64) (ys : List UInt8) : ∀ j, j < vsize n → vget 0 0 (vput n ++ ys) = vget j (n % 128 ^ j) ((vput n).drop j ++ ys) := by
  intro j
  induction j with
  | zero => intro _; simp [Nat.mod_one]
  | succ j ih =>
    intro h
    rw [ih (by omega), drop_cons (vput_get (show j < vsize n by omega)), List.cons_append, vget, vbyte_fine hn (by omega)]
    have hd := dig_lt n j
    simp only [Bool.false_eq_true, if_false, vbyte_nat, if_pos h]
    rw [if_neg (by omega), mod_succ, show (dig n j + 128) % 128 = dig n j by omega]
theorem vget_put {n : Nat} (hn : n < 2 ^ 64) (ys : List UInt8) : vget 0 0 (vput n ++ ys) = (n, vsize n, 0) := by
  have hp := vsize_pos n
  have hd := dig_lt n (vsize n - 1)
  rw [vget_run hn ys (vsize n - 1) (by omega), drop_cons (vput_get (show vsize n - 1 < vsize n by omega)), List.cons_append, vget, vbyte_fine hn (by omega)]
  simp only [Bool.false_eq_true, if_false, vbyte_nat, if_neg (show ¬ vsize n - 1 + 1 < vsize n by omega)]
  rw [if_pos (by omega), Nat.mod_eq_of_lt hd, ← mod_succ, show vsize n - 1 + 1 = vsize n by omega, Nat.mod_eq_of_lt (vsize_up n)]
theorem vget_far : ∀ (xs : List UInt8) (k m : Nat), k ≤ (vget k m xs).2.1 ∧ (vget k m xs).2.1 ≤ k + xs.length ∧ ((vget k m xs).2.2 ≠ 0 → (vget k m xs).1 = 0) ∧ ((vget k m xs).2.2 = 0 → k < (vget k m xs).2.1)
  | [], k, m => by simp [vget]
  | c :: cs, k, m => by
    unfold vget
    split
    · simp
    · split
      · simp
      · have := vget_far cs (k + 1) (m + c.toNat % 128 * 128 ^ k)
        simp only [List.length_cons]
        refine ⟨by omega, by omega, this.2.2.1, fun h => by have := this.2.2.2 h; omega⟩
/-- what a number's bytes are, when they are got -/
theorem vget_inv : ∀ (xs : List UInt8) (k m : Nat), m < 128 ^ k → k ≤ 9 → (vget k m xs).2.2 = 0 → ∃ f, f < xs.length ∧ (vget k m xs).2.1 = k + f + 1 ∧ (vget k m xs).1 % 128 ^ k = m ∧ (vget k m xs).1 < 2 ^ 64 ∧
    (vget k m xs).1 < 128 ^ (k + f + 1) ∧ (∀ j (h : j < xs.length), j ≤ f → dig (vget k m xs).1 (k + j) = (xs[j]).toNat % 128) ∧ (∀ j (h : j < xs.length), j < f → 128 ≤ (xs[j]).toNat) ∧ (∀ h : f < xs.length, (xs[f]).toNat < 128 ∧ (0 < k + f → (xs[f]).toNat ≠ 0))
  | [], k, m, _, _, h => by simp [vget] at h
  | c :: cs, k, m, hm, hk, h => by
    have hc8 : c.toNat < 256 := UInt8.toNat_lt _
    have hdig : ∀ a, a % 128 ^ (k + 1) = m + c.toNat % 128 * 128 ^ k → dig a k = c.toNat % 128 ∧ a % 128 ^ k = m := by
      intro a ha
      rw [mod_succ] at ha
      have h1 : a % 128 ^ k < 128 ^ k := Nat.mod_lt _ (Nat.pow_pos (by decide))
      have h2 : (a % 128 ^ k + dig a k * 128 ^ k) / 128 ^ k = dig a k := by rw [Nat.add_mul_div_right _ _ (Nat.pow_pos (by decide)), Nat.div_eq_of_lt h1]; omega
      have h3 : (m + c.toNat % 128 * 128 ^ k) / 128 ^ k = c.toNat % 128 := by rw [Nat.add_mul_div_right _ _ (Nat.pow_pos (by decide)), Nat.div_eq_of_lt hm]; omega
      rw [ha, h3] at h2
      refine ⟨h2.symm, ?_⟩
      rw [← h2] at ha; omega
    unfold vget at h ⊢
    cases hf : vfault c k with
    | true => rw [hf] at h; simp at h
    | false =>
      rw [hf] at h
      simp only [Bool.false_eq_true, if_false] at h ⊢
      have hv := vfault9 hf
      have hgr := grp hk hm hc8 hv.1
      by_cases hlt : c.toNat < 128
      · rw [if_pos hlt] at h ⊢
        have hb : m + c.toNat % 128 * 128 ^ k < 128 ^ (k + 0 + 1) := by
          have : c.toNat % 128 * 128 ^ k ≤ 127 * 128 ^ k := Nat.mul_le_mul_right _ (by omega)
          rw [Nat.add_zero, Nat.pow_succ]; omega
        have hd := hdig (m + c.toNat % 128 * 128 ^ k) (Nat.mod_eq_of_lt hb)
        refine ⟨0, by simp, rfl, hd.2, hgr.2.1, hb, ?_, fun j _ hj => absurd hj (Nat.not_lt_zero _), fun _ => ⟨hlt, fun h => hv.2 (by omega)⟩⟩
        intro j hj hj0
        obtain rfl : j = 0 := by omega
        exact hd.1
      · rw [if_neg hlt] at h ⊢
        have hk9 : k < 9 := by have := hv.1; omega
        obtain ⟨f, h1, h2, h3, h4, h5, h6, h7, h8⟩ := vget_inv cs (k + 1) _ (hgr.2.2 hk9) (by omega) h
        have hd := hdig _ h3
        refine ⟨f + 1, by simp; omega, by omega, hd.2, h4, by rw [show k + (f + 1) + 1 = k + 1 + f + 1 by omega]; exact h5, ?_, ?_, ?_⟩
        · intro j hj hjf
          cases j with
          | zero => exact hd.1
          | succ j => have := h6 j (by simp at hj; omega) (by omega); rw [show k + (j + 1) = k + 1 + j by omega]; simpa using this
        · intro j hj hjf
          cases j with
          | zero => simp; omega
          | succ j => have := h7 j (by simp at hj; omega) (by omega); simpa using this
        · intro hff
          have := h8 (by simp at hff; omega)
          simp only [List.getElem_cons_succ]
          exact ⟨this.1, fun _ => this.2 (by omega)⟩
theorem vget_back (xs : List UInt8) (h : (vget 0 0 xs).2.2 = 0) : (vget 0 0 xs).1 < 2 ^ 64 ∧ vput (vget 0 0 xs).1 = xs.take (vget 0 0 xs).2.1 ∧ vsize (vget 0 0 xs).1 = (vget 0 0 xs).2.1 := by
  obtain ⟨f, h1, h2, h3, h4, h5, h6, h7, h8⟩ := vget_inv xs 0 0 (by decide) (by decide) h
  simp only [Nat.zero_add] at h2 h5 h6
  have h8 := h8 h1
  have hs : vsize (vget 0 0 xs).1 = f + 1 := by
    have a1 := vsize_pow f _ h5
    by_cases hf : f = 0
    · have := vsize_pos (vget 0 0 xs).1; omega
    · have hd := h6 f h1 (Nat.le_refl _)
      have hne := h8.2 (by omega)
      rcases Nat.lt_or_ge (vsize (vget 0 0 xs).1) (f + 1) with hlt | hge
      · exfalso
        have : (vget 0 0 xs).1 < 128 ^ f := Nat.lt_of_lt_of_le (vsize_up _) (Nat.pow_le_pow_right (by decide) (by omega))
        unfold dig at hd
        rw [Nat.div_eq_of_lt this] at hd
        omega
      · omega
  refine ⟨h4, ?_, by rw [hs, h2]⟩
  rw [h2]
  apply List.ext_getElem?
  intro j
  by_cases hj : j < f + 1
  · rw [vput_get (by omega), List.getElem?_take, if_pos hj, List.getElem?_eq_getElem (by omega)]
    congr 1
    apply UInt8.toNat_inj.1
    rw [vbyte_nat, hs, h6 j (by omega) (by omega)]
    split
    · have := h7 j (by omega) (by omega)
      have := UInt8.toNat_lt (xs[j])
      omega
    · have : j = f := by omega
      subst this
      omega
  · rw [List.getElem?_eq_none (by rw [vput_len]; omega), List.getElem?_take, if_neg hj]


theorem Only.new {w0 w w' : World} {v : Value} (hx : Ext w0 w) (hv : ∀ k, v.ownBlock = some k → w0.heap.size ≤ k) (hg : w.grownBy w' v.ownBlock) : Ext w0 w' :=
  hx.trans' (Only.grown hg) (fun _ h => h) (fun k hk he => by have := hv k he.symm; omega)
theorem rload_cons {bs : List UInt8} {o : Bool} {c : UInt8} (h : rerr bs o c = 0) (cs : List UInt8) : rload bs o (c :: cs) = rload (rnext bs o c) (rover bs o c) cs := by rw [rload, if_pos h]
theorem rload_snoc : ∀ (xs : List UInt8) (bs : List UInt8) (o : Bool) (c : UInt8), (rload bs o xs).1 = 0 → rload bs o (xs ++ [c]) = rload (rload bs o xs).2.1 (rload bs o xs).2.2 [c]
  | [], bs, o, c, _ => rfl
  | x :: xs, bs, o, c, h => by
    by_cases he : rerr bs o x = 0
    · rw [rload_cons he] at h
      rw [List.cons_append, rload_cons he, rload_cons he, rload_snoc xs _ _ c h]
    · rw [rload, if_neg he] at h; exact absurd h he
theorem vnum_snoc : ∀ (xs : List UInt8) (k m : Nat) (c : UInt8), vnum k m (xs ++ [c]) = vnum k m xs + c.toNat % 128 * 128 ^ (k + xs.length)
  | [], k, m, c => rfl
  | x :: xs, k, m, c => by
    rw [List.cons_append, vnum, vnum_snoc xs, vnum, List.length_cons]
    congr 3; omega
/-- a reader that has taken the first k bytes, and goes on -/
structure Rdn (xs : List UInt8) (k m : Nat) : Prop where
  load : rload [] false (xs.take k) = (0, xs.take k, false)
  num : vnum 0 0 (xs.take k) = m
  lt : m < 128 ^ k
  get : vget 0 0 xs = vget k m (xs.drop k)
theorem Rdn.ok {xs : List UInt8} {k m : Nat} (h : Rdn xs k m) : RdOk (xs.take k) false := by
  have := rload_ok (xs.take k) [] false RdOk.new
  rw [h.load] at this; exact this
theorem Rdn.zero (xs : List UInt8) : Rdn xs 0 0 := ⟨rfl, rfl, by decide, rfl⟩
theorem Rdn.le9 {xs : List UInt8} {k m : Nat} (h : Rdn xs k m) (hk : k ≤ xs.length) : k ≤ 9 := by
  have := h.ok.more rfl
  simpa [Nat.min_eq_left hk] using this
theorem take_len {xs : List UInt8} {k : Nat} (h : k ≤ xs.length) : (xs.take k).length = k := by simp; omega
theorem take_next {xs : List UInt8} {k : Nat} (h : k < xs.length) : xs.take (k + 1) = xs.take k ++ [xs[k]] := by
  rw [List.take_succ_eq_append_getElem h]
theorem Rdn.next {xs : List UInt8} {k m : Nat} (h : Rdn xs k m) (hk : k < xs.length) (hf : vfault xs[k] k = false) (hc : 128 ≤ (xs[k]).toNat) : Rdn xs (k + 1) (m + (xs[k]).toNat % 128 * 128 ^ k) := by
  have hl := take_len (xs := xs) (k := k) (by omega)
  have h9 := h.le9 (by omega)
  have hv := vfault9 hf
  have hgr := grp h9 h.lt (UInt8.toNat_lt (xs[k])) hv.1
  have he : rerr (xs.take k) false xs[k] = 0 := by simp [rerr, hl, hf]
  have hn : rnext (xs.take k) false xs[k] = xs.take (k + 1) := by rw [take_next hk]; simp [rnext, hl, hf]
  have ho : rover (xs.take k) false xs[k] = false := by simp [rover, hl, hf]; omega
  refine ⟨?_, ?_, hgr.2.2 (by omega), ?_⟩
  · rw [take_next hk, rload_snoc _ _ _ _ (by rw [h.load]), h.load]
    show rload (xs.take k) false [xs[k]] = _
    rw [rload, if_pos he, rload, hn, ho, take_next hk]
  · rw [take_next hk, vnum_snoc, h.num, hl, Nat.zero_add]
  · rw [h.get, drop_cons (List.getElem?_eq_getElem hk), vget]
    simp only [hf, Bool.false_eq_true, if_false]
    rw [if_neg (by omega)]
theorem put_own {n : Nat} (hn : n < 2 ^ 64) (w0 : World) : Ca Tryd.prog 27 #[.int .u64 (n : Int)] w0 (fun v w' => Fresh w0 w' v (vput n)) :=
  (put_spec n hn w0).mono fun v w' ⟨b, hv, hb, hh, hx⟩ => by subst hv; exact put_fresh hb hh hn hx


def hv : List UInt8 → Nat
  | [] => 0
  | c :: cs => c.toNat % 128 + 128 * hv cs
theorem vnum_lt : ∀ (cs : List UInt8) (k m : Nat), k + cs.length ≤ 10 → (k < 10 → m < 128 ^ k) → m < 2 ^ 64 → (∀ i (h : i < cs.length), vfault cs[i] (k + i) = false) → vnum k m cs < 2 ^ 64
  | [], k, m, _, _, h, _ => h
  | c :: cs, k, m, hl, hm, _, hf => by
    simp only [List.length_cons] at hl
    have h0 := hf 0 (by simp)
    have hv := vfault9 (c := c) (k := k) (by simpa using h0)
    have hg := grp (k := k) (m := m) (c := c.toNat) (by omega) (hm (by omega)) (UInt8.toNat_lt c) hv.1
    rw [vnum]
    refine vnum_lt cs (k + 1) _ (by omega) (fun h => hg.2.2 (by omega)) hg.2.1 (fun i h => ?_)
    have := hf (i + 1) (by simp; omega)
    simpa [Nat.add_assoc, Nat.add_comm 1 i] using this
theorem RdOk.num {bs : List UInt8} {over : Bool} (h : RdOk bs over) : vnum 0 0 bs < 2 ^ 64 :=
  vnum_lt bs 0 0 (by have := h.len; omega) (fun _ => by decide) (by decide) (fun i hi => by simpa using h.fine i hi)
theorem cells_all {w : World} {b T : Nat} {cs : Array Value} (h : w.heap[b]? = some (.cells cs T (0, 0))) : Cells w b 0 cs.toList := Cells.of h 0 _ (fun i v hv => by simpa using hv)
theorem own_form {w : World} {base : Nat} {el : TypeId} {s n : Nat} {v : Value} {xs : List Value} (h : w.ownsRow base el s v n xs) : ∃ a c, v = .slice a n c ∧ n ≤ c := by
  rcases h.2 with ⟨rfl, rfl⟩ | ⟨g, cap, cur, rfl, hb, hc, hnc, r⟩
  · exact ⟨none, 0, rfl, Nat.le_refl _⟩
  · exact ⟨_, cap, rfl, hnc⟩
theorem own_new1 {w : World} {v : Value} {el : TypeId} {s : Nat} (hv : v.cells.size = s) : (w.alloc (.cells v.cells el)).ownsRow w.heap.size el s (.slice (some ⟨w.heap.size, 0, none⟩) 1 1) 1 v.cells.toList :=
  ⟨by simp [hv], .inr ⟨w.heap.size, 1, v.cells, rfl, Nat.le_refl _, heap_alloc_new w _, Nat.le_refl _, by rw [maxLen_eq]; omega, by rw [hv]; omega, by rw [Nat.one_mul]; exact List.take_of_length_le (by simp [hv])⟩⟩
theorem fm_at {α : Type} {f : α → List Value} {s : Nat} (hs : ∀ a, (f a).length = s) (ts : List α) : ∀ (k : Nat) (hk : k < ts.length), ((ts.flatMap f).drop (k * s)).take s = f ts[k] := by
  induction ts with
  | nil => intro k hk; simp at hk
  | cons t ts ih =>
    intro k hk
    cases k with
    | zero => rw [Nat.zero_mul, List.drop_zero, List.flatMap_cons]; exact List.take_left' (hs t)
    | succ k =>
      have h1 : (k + 1) * s - (f t).length = k * s := by rw [hs, Nat.succ_mul]; omega
      have h2 : (f t).length ≤ (k + 1) * s := by rw [hs, Nat.succ_mul]; omega
      have := ih k (by simpa using hk)
      rw [List.flatMap_cons, List.drop_append, List.drop_eq_nil_of_le h2, List.nil_append, h1]
      exact this
theorem Sl.fm {α : Type} {f : α → List Value} {s : Nat} (hs : ∀ a, (f a).length = s) {w : World} {v : Value} {ts : List α} (h : Sl w s v ts.length (ts.flatMap f)) {k : Nat} (hk : k < ts.length) : ∃ b o c, v = .slice (some ⟨b, o, none⟩) ts.length c ∧ Cells w b (o + k * s) (f ts[k]) := by
  rcases h.val with ⟨hz, h0⟩ | ⟨b, o, c, rfl, hnc, hc⟩
  · omega
  · exact ⟨b, o, c, rfl, by rw [← fm_at hs ts k hk]; exact hc.sub _ _⟩
end Go.Proofs.YthlbhnefldaoiaaDoor

set_option linter.unusedSimpArgs false
set_option linter.unusedVariables false
set_option maxRecDepth 100000
namespace Go.Proofs.YthlbhnefldaoiaaDoor
open Go Go.Vc Go.RowKit Go.Proofs

structure Ins where
  op : Int
  a : Int
  b : Int
  c : Int
deriving instance DecidableEq for Ins
def in0 : Ins := ⟨0, 0, 0, 0⟩
def insV (x : Ins) : List Value := [.int .i64 x.op, .int .i64 x.a, .int .i64 x.b, .int .i64 x.c]
def inss (L : List Ins) : List Value := L.flatMap insV
theorem insV_len (x : Ins) : (insV x).length = 4 := rfl
theorem inss_len (L : List Ins) : (inss L).length = L.length * 4 := by
  induction L with
  | nil => rfl
  | cons x L ih => rw [inss, List.flatMap_cons, List.length_append, ← inss, ih, insV_len, List.length_cons]; omega
theorem inss_snoc (L : List Ins) (x : Ins) : inss (L ++ [x]) = inss L ++ insV x := by simp [inss]
theorem inss_app (L M : List Ins) : inss (L ++ M) = inss L ++ inss M := by simp [inss]
theorem one_inss (L : List Ins) : ∀ a ∈ inss L, a.oneCell' = true := by
  intro a ha
  obtain ⟨x, -, hx⟩ := List.mem_flatMap.1 ha
  have : ∀ a ∈ insV x, a.oneCell' = true := by simp [insV, Value.oneCell']
  exact this a hx
theorem Sl.ins {w : World} {v : Value} {L : List Ins} (h : Sl w 4 v L.length (inss L)) {k : Nat} (hk : k < L.length) : ∃ b o c, v = .slice (some ⟨b, o, none⟩) L.length c ∧ Cells w b (o + k * 4) (insV L[k]) := Sl.fm insV_len h hk
def zs (l : List Int) : List Value := l.map fun n : Int => Value.int .i64 n
theorem zs_len (l : List Int) : (zs l).length = l.length := by simp [zs]
theorem zs_snoc (l : List Int) (n : Int) : zs (l ++ [n]) = zs l ++ [.int .i64 n] := by simp [zs]
theorem one_zs (l : List Int) : ∀ a ∈ zs l, a.oneCell' = true := by
  intro a ha
  obtain ⟨x, -, rfl⟩ := List.mem_map.1 ha
  rfl
/-- a program -/
structure Pg where
  enc : Bool
  code : List Ins
  ent : List Int
deriving instance DecidableEq for Pg
/-- a program, read: its two lists -/
structure PgR (w : World) (p : Pg) (cv ev_ : Value) : Prop where
  code : Sl w 4 cv p.code.length (inss p.code)
  ent : Sl w 1 ev_ p.ent.length (zs p.ent)
theorem PgR.ext {w w' : World} {p : Pg} {cv ev_ : Value} (h : PgR w p cv ev_) (ho : Ext w w') : PgR w' p cv ev_ := ⟨h.code.ext ho, h.ent.ext ho⟩
theorem PgR.only {w w' : World} {F : Nat → Prop} {p : Pg} {cv ev_ : Value} (h : PgR w p cv ev_) (ho : Only F w w') (h1 : ∀ k, cv.ownBlock = some k → ¬ F k) (h2 : ∀ k, ev_.ownBlock = some k → ¬ F k) : PgR w' p cv ev_ := ⟨h.code.only ho h1, h.ent.only ho h2⟩
def pgV (p : Pg) (cv ev_ : Value) : List Value := [.bool p.enc, cv, ev_]
theorem PgR.one {w : World} {p : Pg} {cv ev_ : Value} (h : PgR w p cv ev_) : cv.cells = #[cv] ∧ ev_.cells = #[ev_] ∧ cv.oneCell' = true ∧ ev_.oneCell' = true := by
  obtain ⟨a, c, h1⟩ := h.code.isSlice
  obtain ⟨a2, c2, h2⟩ := h.ent.isSlice
  subst h1 h2
  exact ⟨rfl, rfl, rfl, rfl⟩
def dTab : List (List UInt8 × List UInt8) := [([], []), ([117, 105, 110, 116], [107, 119, 32]), ([117, 105, 110, 116, 115], [75, 109, 119]), ([98, 111, 111, 108], [107, 32, 32]), ([118, 97, 114, 105, 110, 116], [107, 32, 32]), ([115, 101, 113], [32, 32, 32]), ([115, 116, 114, 117, 99, 116], [32, 32, 32]), ([111, 112, 116, 105, 111, 110], [32, 116, 32]), ([117, 110, 105, 111, 110], [97, 32, 32]), ([97, 114, 109], [103, 116, 32]), ([111, 102, 102, 115, 101, 116], [102, 32, 32]), ([102, 105, 114, 115, 116], [110, 116, 32]), ([115, 108, 111, 116, 115], [32, 116, 32]), ([105, 116, 101, 109], [110, 116, 32]), ([108, 101, 115, 115], [110, 116, 32]), ([112, 97, 114, 116, 115], [32, 116, 32]), ([99, 97, 108, 108], [107, 32, 121]), ([112, 97, 114, 116], [107, 112, 121]), ([116, 97, 105, 108], [112, 32, 32]), ([106, 117, 109, 112], [32, 116, 32]), ([114, 101, 116], [32, 32, 32])]
def cTab : List (List UInt8 × List UInt8) := [([110, 117, 109, 98, 101, 114], [76, 119, 32]), ([110, 117, 109, 98, 101, 114, 115], [108, 109, 119]), ([102, 108, 97, 103], [76, 32, 32]), ([108, 101, 98], [32, 32, 32]), ([109, 97, 110, 121], [110, 32, 32]), ([117, 112, 116, 111], [110, 32, 32]), ([102, 105, 101, 108, 100, 115], [115, 32, 32]), ([109, 97, 121, 98, 101], [32, 116, 32]), ([99, 104, 111, 105, 99, 101], [97, 32, 32]), ([114, 111, 111, 109], [114, 32, 32]), ([115, 108, 111, 116], [76, 32, 32]), ([101, 110, 116, 101, 114], [108, 32, 121]), ([101, 97, 99, 104], [122, 32, 121]), ([97, 112, 112, 101, 110, 100], [32, 32, 121]), ([97, 103, 97, 105, 110], [32, 116, 32])]
/-- the form of a number, for that machine -/
def fmOf (enc : Bool) (op : Int) : Option (List UInt8 × List UInt8) :=
  if op = 9 ∨ op = 19 ∨ op = 20 then dTab[op.toNat]?
  else if enc = true ∧ 33 ≤ op ∧ op ≤ 47 then cTab[op.toNat - 33]?
  else if enc = false ∧ 1 ≤ op ∧ op ≤ 20 then dTab[op.toNat]?
  else none
def fmD (enc : Bool) (op : Int) : List UInt8 × List UInt8 := (fmOf enc op).getD ([], [])
/-- the program's letter for one of the document's -/
def tl (c : UInt8) : UInt8 := if c = 110 then 109 else if c = 109 then 110 else if c = 76 then 80 else if c = 108 then 113 else if c = 114 then 98 else c
def fitP (nc ne : Nat) (c : UInt8) (x : Int) : Prop :=
  if c = 107 ∨ c = 112 then -1 ≤ x ∧ x ≤ 63
  else if c = 75 then 0 ≤ x ∧ x ≤ 63
  else if c = 119 then x = 1 ∨ x = 2 ∨ x = 4 ∨ x = 8
  else if c = 109 then 2 ≤ x ∧ x ≤ 64
  else if c = 102 then 4 ≤ x ∧ x ≤ 16777216
  else if c = 110 then 1 ≤ x ∧ x ≤ 1048576
  else if c = 115 then 1 ≤ x ∧ x ≤ 64
  else if c = 97 then 1 ≤ x ∧ x ≤ 64
  else if c = 103 then 0 ≤ x ∧ x ≤ 255
  else if c = 108 then 0 ≤ x ∧ x ≤ 16777215
  else if c = 76 then -1 ≤ x ∧ x ≤ 16777215
  else if c = 114 then x = -1 ∨ (1 ≤ x ∧ x ≤ 16777216)
  else if c = 122 then 1 ≤ x ∧ x ≤ 16777216
  else if c = 116 then 0 ≤ x ∧ x ≤ (nc : Int) - 1
  else if c = 121 then 0 ≤ x ∧ x ≤ (ne : Int) - 1
  else x = 0
def lets : List UInt8 := [107, 112, 75, 119, 109, 102, 110, 115, 97, 103, 108, 76, 114, 122, 116, 121, 32]
theorem fmOf_letters : ∀ (f : List UInt8 × List UInt8), f ∈ dTab.tail ++ cTab → f.2.length = 3 ∧ ∀ c ∈ f.2, c ∈ lets := by decide +kernel
theorem fmOf_mem {enc : Bool} {op : Int} {f : List UInt8 × List UInt8} (h : fmOf enc op = some f) : f ∈ dTab.tail ++ cTab := by
  unfold fmOf at h
  split at h
  · rename_i h1
    rcases h1 with rfl | rfl | rfl <;> (cases h; decide +kernel)
  · split at h
    · exact List.mem_append_right _ (List.mem_of_getElem? h)
    · split at h
      · rename_i h1 h2 h3
        refine List.mem_append_left _ (List.mem_of_getElem? (i := op.toNat - 1) ?_)
        rw [List.getElem?_tail, show op.toNat - 1 + 1 = op.toNat by omega]; exact h
      · cases h
theorem fmOf_three {enc : Bool} {op : Int} {f : List UInt8 × List UInt8} (h : fmOf enc op = some f) : f.2.length = 3 ∧ ∀ c ∈ f.2, c ∈ lets := fmOf_letters f (fmOf_mem h)
theorem fmOf_op {enc : Bool} {op : Int} {f : List UInt8 × List UInt8} (h : fmOf enc op = some f) : 1 ≤ op ∧ op ≤ 47 := by
  unfold fmOf at h
  split at h
  · omega
  · split at h
    · omega
    · split at h
      · omega
      · cases h
structure ArmsP (L : List Ins) (i : Nat) (n : Int) : Prop where
  room : (i : Int) + n < L.length
  arm : ∀ k : Nat, 1 ≤ k → (k : Int) ≤ n → (L.getD (i + k) in0).op = 9
  tags : ∀ j k : Nat, 1 ≤ j → j < k → (k : Int) ≤ n → (L.getD (i + j) in0).a ≠ (L.getD (i + k) in0).a
/-- what the name of the form asks -/
def moreP (L : List Ins) (i : Nat) (x : Ins) (nm : List UInt8) : Prop :=
  if nm = [117, 105, 110, 116, 115] then x.a + x.b ≤ 64
  else if nm = [110, 117, 109, 98, 101, 114, 115] then x.a + x.b * x.c ≤ 16777216
  else if nm = [112, 97, 114, 116] then (x.a = -1 ↔ x.b = -1)
  else if nm = [117, 110, 105, 111, 110] ∨ nm = [99, 104, 111, 105, 99, 101] then ArmsP L i x.a
  else True
structure FormP (p : Pg) (i : Nat) (x : Ins) (f : List UInt8 × List UInt8) : Prop where
  fm : fmOf p.enc x.op = some f
  fa : fitP p.code.length p.ent.length (f.2.getD 0 0) x.a
  fb : fitP p.code.length p.ent.length (f.2.getD 1 0) x.b
  fc : fitP p.code.length p.ent.length (f.2.getD 2 0) x.c
  more : moreP p.code i x f.1
def OkI (p : Pg) (i : Nat) : Prop := ∃ f, FormP p i (p.code.getD i in0) f
def OkE (p : Pg) (i : Nat) : Prop := 0 ≤ p.ent.getD i 0 ∧ p.ent.getD i 0 ≤ (p.code.length : Int) - 1
def BigP (p : Pg) : Prop := 1048576 < p.code.length ∨ 1048576 < p.ent.length
/-- what Check answers -/
def ChkP (p : Pg) (e at_ : Nat) : Prop :=
  (BigP p ∧ e = 4 ∧ at_ = 0) ∨
  (¬ BigP p ∧ at_ < p.code.length ∧ (∀ j, j < at_ → OkI p j) ∧ ¬ OkI p at_ ∧ e = 140) ∨
  (¬ BigP p ∧ (∀ j, j < p.code.length → OkI p j) ∧ at_ < p.ent.length ∧ (∀ j, j < at_ → OkE p j) ∧ ¬ OkE p at_ ∧ e = 3) ∨
  (¬ BigP p ∧ (∀ j, j < p.code.length → OkI p j) ∧ (∀ j, j < p.ent.length → OkE p j) ∧ e = 0 ∧ at_ = 0)
theorem first_bad (P : Nat → Prop) : ∀ n : Nat, (∀ j, j < n → P j) ∨ ∃ i, i < n ∧ (∀ j, j < i → P j) ∧ ¬ P i
  | 0 => .inl fun j h => absurd h (Nat.not_lt_zero j)
  | n + 1 => by
    rcases first_bad P n with h | ⟨i, h1, h2, h3⟩
    · by_cases hn : P n
      · left; intro j hj
        rcases Nat.lt_or_ge j n with h4 | h4
        · exact h j h4
        · rw [show j = n by omega]; exact hn
      · exact .inr ⟨n, by omega, h, hn⟩
    · exact .inr ⟨i, by omega, h2, h3⟩
theorem ChkP.ex (p : Pg) : ∃ c : Nat × Nat, ChkP p c.1 c.2 := by
  by_cases hb : BigP p
  · exact ⟨(4, 0), .inl ⟨hb, rfl, rfl⟩⟩
  · rcases first_bad (OkI p) p.code.length with h | ⟨i, h1, h2, h3⟩
    · rcases first_bad (OkE p) p.ent.length with g | ⟨i, g1, g2, g3⟩
      · exact ⟨(0, 0), .inr (.inr (.inr ⟨hb, h, g, rfl, rfl⟩))⟩
      · exact ⟨(3, i), .inr (.inr (.inl ⟨hb, h, g1, g2, g3, rfl⟩))⟩
    · exact ⟨(140, i), .inr (.inl ⟨hb, h1, h2, h3, rfl⟩)⟩
theorem first_uniq {P : Nat → Prop} {i k : Nat} (h1 : ∀ j, j < i → P j) (h2 : ¬ P i) (g1 : ∀ j, j < k → P j) (g2 : ¬ P k) : i = k := by
  rcases Nat.lt_trichotomy i k with h | h | h
  · exact absurd (g1 i h) h2
  · exact h
  · exact absurd (h1 k h) g2
theorem ChkP.uniq {p : Pg} {e i e' i' : Nat} (h : ChkP p e i) (g : ChkP p e' i') : e = e' ∧ i = i' := by
  rcases h with ⟨h0, rfl, rfl⟩ | ⟨h0, h1, h2, h3, rfl⟩ | ⟨h0, h1, h2, h3, h4, rfl⟩ | ⟨h0, h1, h2, rfl, rfl⟩ <;>
    rcases g with ⟨g0, rfl, rfl⟩ | ⟨g0, g1, g2, g3, rfl⟩ | ⟨g0, g1, g2, g3, g4, rfl⟩ | ⟨g0, g1, g2, rfl, rfl⟩ <;>
    first
    | exact ⟨rfl, rfl⟩
    | exact absurd h0 g0
    | exact absurd g0 h0
    | exact ⟨rfl, first_uniq h2 h3 g2 g3⟩
    | exact absurd (g1 _ h1) h3
    | exact absurd (h1 _ g1) g3
    | exact ⟨rfl, first_uniq h3 h4 g3 g4⟩
    | exact absurd (g2 _ h2) h4
    | exact absurd (h2 _ g2) g4
noncomputable def chk (p : Pg) : Nat × Nat := Classical.choose (ChkP.ex p)
theorem chk_ok (p : Pg) : ChkP p (chk p).1 (chk p).2 := Classical.choose_spec (ChkP.ex p)
theorem chk_eq {p : Pg} {e i : Nat} (h : ChkP p e i) : chk p = (e, i) := by
  obtain ⟨h1, h2⟩ := ChkP.uniq (chk_ok p) h
  exact Prod.ext h1 h2
/-- a program that Check takes -/
structure OkP (p : Pg) : Prop where
  nb : ¬ BigP p
  ins : ∀ j, j < p.code.length → OkI p j
  ent : ∀ j, j < p.ent.length → OkE p j
theorem chk_zero {p : Pg} : (chk p).1 = 0 ↔ OkP p := by
  constructor
  · intro h
    rcases chk_ok p with ⟨-, h1, -⟩ | ⟨-, -, -, -, h1⟩ | ⟨-, -, -, -, -, h1⟩ | ⟨h0, h1, h2, -, -⟩
    · omega
    · omega
    · omega
    · exact ⟨h0, h1, h2⟩
  · rintro ⟨h0, h1, h2⟩
    rw [chk_eq (.inr (.inr (.inr ⟨h0, h1, h2, rfl, rfl⟩)))]
theorem chk_okP {p : Pg} (h : OkP p) : chk p = (0, 0) := chk_eq (.inr (.inr (.inr ⟨h.nb, h.ins, h.ent, rfl, rfl⟩)))

end Go.Proofs.YthlbhnefldaoiaaDoor

set_option linter.unusedSimpArgs false
set_option linter.unusedVariables false
set_option maxRecDepth 100000
namespace Go.Proofs.YthlbhnefldaoiaaDoor
open Go Go.Vc Go.RowKit Go.Proofs

def opsI (f : List UInt8) (x : Ins) : List Int := (if f.getD 0 0 = 32 then [] else [x.a]) ++ ((if f.getD 1 0 = 32 then [] else [x.b]) ++ (if f.getD 2 0 = 32 then [] else [x.c]))
def layO (n : Int) : List UInt8 := vput (n + 1).toNat
def layI (enc : Bool) (x : Ins) : List UInt8 := vput x.op.toNat ++ (opsI (fmD enc x.op).2 x).flatMap layO
def layE (e : Int) : List UInt8 := vput e.toNat
def hdr (enc : Bool) : List UInt8 := [109, if enc then 1 else 0]
def lay0 (p : Pg) : List UInt8 := hdr p.enc ++ vput p.ent.length
def lay1 (p : Pg) : List UInt8 := lay0 p ++ (p.ent.flatMap layE ++ vput p.code.length)
def lay (p : Pg) : List UInt8 := lay1 p ++ p.code.flatMap (layI p.enc)
inductive Rs where
  | ok (at_ : Nat)
  | er (e p : Nat)
def Rs.good : Rs → Bool
  | .ok _ => true
  | .er _ _ => false
def numS (T : List UInt8) (s : Rs) (most e : Nat) : Nat × Rs :=
  match s with
  | .er e p => (0, .er e p)
  | .ok k => if (vget 0 0 (T.drop k)).2.2 ≠ 0 then (0, .er (vget 0 0 (T.drop k)).2.2 (k + (vget 0 0 (T.drop k)).2.1))
    else if most < (vget 0 0 (T.drop k)).1 then (0, .er e k) else ((vget 0 0 (T.drop k)).1, .ok (k + (vget 0 0 (T.drop k)).2.1))
/-- an operand -/
def opS (T : List UInt8) (c : UInt8) (s : Rs) : Int × Rs := if c = 32 then (0, s) else (((numS T s 2147483648 3).1 : Int) - 1, (numS T s 2147483648 3).2)
def insS (enc : Bool) (T : List UInt8) (k : Nat) : Ins × Rs :=
  match numS T (.ok k) 255 140 with
  | (_, .er e p) => (in0, .er e p)
  | (op, .ok k1) =>
    match fmOf enc op with
    | none => (in0, .er 140 k)
    | some f => (⟨op, (opS T (f.2.getD 0 0) (.ok k1)).1, (opS T (f.2.getD 1 0) (opS T (f.2.getD 0 0) (.ok k1)).2).1, (opS T (f.2.getD 2 0) (opS T (f.2.getD 1 0) (opS T (f.2.getD 0 0) (.ok k1)).2).2).1⟩, (opS T (f.2.getD 2 0) (opS T (f.2.getD 1 0) (opS T (f.2.getD 0 0) (.ok k1)).2).2).2)
def entsS (T : List UInt8) : Nat → Rs → List Int → List Nat → Rs × List Int × List Nat
  | 0, s, es, ps => (s, es, ps)
  | _ + 1, .er e p, es, ps => (.er e p, es, ps)
  | n + 1, .ok k, es, ps => entsS T n (numS T (.ok k) 2147483648 3).2 (es ++ [((numS T (.ok k) 2147483648 3).1 : Int)]) (ps ++ [k])
def inssS (enc : Bool) (T : List UInt8) : Nat → Rs → List Ins → List Nat → Rs × List Ins × List Nat
  | 0, s, es, ps => (s, es, ps)
  | _ + 1, .er e p, es, ps => (.er e p, es, ps)
  | n + 1, .ok k, es, ps => inssS enc T n (insS enc T k).2 (es ++ [(insS enc T k).1]) (ps ++ [k])
def decE (T : List UInt8) : Rs × List Int × List Nat := entsS T (numS T (.ok 2) 1048576 4).1 (numS T (.ok 2) 1048576 4).2 [] []
def decI (enc : Bool) (T : List UInt8) : Rs × List Ins × List Nat := inssS enc T (numS T (decE T).1 1048576 4).1 (numS T (decE T).1 1048576 4).2 [] []
def hdrS (T : List UInt8) : Nat × Nat := if T.length = 0 then (20, 0) else if T.getD 0 0 ≠ 109 then (150, 0) else if T.length = 1 then (20, 1) else if 1 < (T.getD 1 0).toNat then (150, 1) else (0, 0)
def encS (T : List UInt8) : Bool := decide (T.getD 1 0 = 1)
def pgS (T : List UInt8) : Pg := ⟨encS T, (decI (encS T) T).2.1, (decE T).2.1⟩
/-- what Decode answers: error and place -/
noncomputable def decA (T : List UInt8) : Nat × Nat :=
  if (hdrS T).1 ≠ 0 then hdrS T
  else match (decI (encS T) T).1 with
    | .er e p => (e, p)
    | .ok k => if k < T.length then (124, k) else
      if (chk (pgS T)).1 = 140 then (140, (decI (encS T) T).2.2.getD (chk (pgS T)).2 0)
      else if (chk (pgS T)).1 = 3 then (3, (decE T).2.2.getD (chk (pgS T)).2 0)
      else (0, 0)
theorem vget_le (xs : List UInt8) : (vget 0 0 xs).2.1 ≤ xs.length := by have := (vget_far xs 0 0).2.1; omega
theorem numS_ok {T : List UInt8} {s : Rs} {most e n k2 : Nat} (h : numS T s most e = (n, .ok k2)) : ∃ k, s = .ok k ∧ n ≤ most ∧ n < 2 ^ 64 ∧ k2 = k + (vput n).length ∧ T.drop k = vput n ++ T.drop k2 ∧ (k ≤ T.length → k2 ≤ T.length) := by
  cases s with
  | er e p => cases h
  | ok k =>
    simp only [numS] at h
    split at h
    · cases h
    · rename_i h1
      split at h
      · cases h
      · rename_i h2
        simp only [Prod.mk.injEq, Rs.ok.injEq] at h
        obtain ⟨rfl, rfl⟩ := h
        obtain ⟨g1, g2, g3⟩ := vget_back (T.drop k) (by omega)
        have hl := vget_le (T.drop k)
        refine ⟨k, rfl, by omega, g1, by rw [vput_len, g3], ?_, fun hk => by rw [List.length_drop] at hl; omega⟩
        rw [g2, ← List.drop_drop, List.take_append_drop]
theorem numS_put {T R : List UInt8} {k most e n : Nat} (hn : n < 2 ^ 64) (hm : n ≤ most) (h : T.drop k = vput n ++ R) : numS T (.ok k) most e = (n, .ok (k + (vput n).length)) := by
  simp only [numS, h, vget_put hn R, vput_len]
  rw [if_neg (by simp), if_neg (by omega)]
/-- an operand that the reader may have read -/
def opOk (c : UInt8) (x : Int) : Prop := if c = 32 then x = 0 else -1 ≤ x ∧ x ≤ 2147483647
def insOk (enc : Bool) (x : Ins) : Prop := ∃ f, fmOf enc x.op = some f ∧ opOk (f.2.getD 0 0) x.a ∧ opOk (f.2.getD 1 0) x.b ∧ opOk (f.2.getD 2 0) x.c
def layC (c : UInt8) (x : Int) : List UInt8 := if c = 32 then [] else layO x
theorem layI_eq {enc : Bool} {x : Ins} {f : List UInt8 × List UInt8} (h : fmOf enc x.op = some f) : layI enc x = vput x.op.toNat ++ (layC (f.2.getD 0 0) x.a ++ (layC (f.2.getD 1 0) x.b ++ layC (f.2.getD 2 0) x.c)) := by
  have e1 : (fmD enc x.op).2 = f.2 := by rw [fmD, h]; rfl
  rw [layI, e1, opsI]
  congr 1
  unfold layC
  split <;> split <;> split <;> simp
theorem opS_ok {T : List UInt8} {c : UInt8} {s : Rs} {x : Int} {k2 : Nat} (h : opS T c s = (x, .ok k2)) : ∃ k, s = .ok k ∧ opOk c x ∧ k2 = k + (layC c x).length ∧ T.drop k = layC c x ++ T.drop k2 ∧ (k ≤ T.length → k2 ≤ T.length) := by
  unfold opS at h
  split at h
  · rename_i h1
    simp only [Prod.mk.injEq] at h
    obtain ⟨rfl, rfl⟩ := h
    exact ⟨k2, rfl, by rw [opOk, if_pos h1], by rw [layC, if_pos h1]; rfl, by rw [layC, if_pos h1]; rfl, fun h => h⟩
  · rename_i h1
    obtain ⟨⟨n, s2⟩, hr⟩ : ∃ r, numS T s 2147483648 3 = r := ⟨_, rfl⟩
    rw [hr] at h
    simp only [Prod.mk.injEq] at h
    obtain ⟨rfl, rfl⟩ := h
    obtain ⟨k, g1, g2, g3, g4, g5, g6⟩ := numS_ok hr
    have e1 : layO ((n : Int) - 1) = vput n := by rw [layO]; congr 1; omega
    refine ⟨k, g1, by rw [opOk, if_neg h1]; omega, ?_, ?_, g6⟩
    · rw [layC, if_neg h1, e1]; exact g4
    · rw [layC, if_neg h1, e1]; exact g5
theorem opS_put {T R : List UInt8} {c : UInt8} {x : Int} {k : Nat} (hx : opOk c x) (h : T.drop k = layC c x ++ R) : opS T c (.ok k) = (x, .ok (k + (layC c x).length)) := by
  unfold opS layC at *
  unfold opOk at hx
  split
  · rename_i h1
    rw [if_pos h1] at hx
    subst hx
    rfl
  · rename_i h1
    rw [if_neg h1] at hx h
    have e1 : ((x + 1).toNat : Int) - 1 = x := by omega
    rw [numS_put (n := (x + 1).toNat) (R := R) (by omega) (by omega) h]
    simp only [e1]
    rfl
theorem drop_app {T A R : List UInt8} {k : Nat} (h : T.drop k = A ++ R) : T.drop (k + A.length) = R := by
  rw [← List.drop_drop, h, List.drop_left' rfl]
theorem insS_ok {enc : Bool} {T : List UInt8} {k k2 : Nat} {x : Ins} (h : insS enc T k = (x, .ok k2)) : insOk enc x ∧ k2 = k + (layI enc x).length ∧ T.drop k = layI enc x ++ T.drop k2 ∧ (k ≤ T.length → k2 ≤ T.length) := by
  unfold insS at h
  obtain ⟨⟨n, s1⟩, hr⟩ : ∃ r, numS T (.ok k) 255 140 = r := ⟨_, rfl⟩
  rw [hr] at h
  cases s1 with
  | er e p => cases h
  | ok k1 =>
    simp only at h
    cases hf : fmOf enc n with
    | none => rw [hf] at h; cases h
    | some f =>
      rw [hf] at h
      simp only [Prod.mk.injEq] at h
      obtain ⟨rfl, h2⟩ := h
      obtain ⟨k0, e0, g2, g3, g4, g5, g6⟩ := numS_ok hr
      cases e0
      obtain ⟨s3, hs3⟩ : ∃ r, opS T (f.2.getD 0 0) (.ok k1) = r := ⟨_, rfl⟩
      obtain ⟨s4, hs4⟩ : ∃ r, opS T (f.2.getD 1 0) s3.2 = r := ⟨_, rfl⟩
      obtain ⟨s5, hs5⟩ : ∃ r, opS T (f.2.getD 2 0) s4.2 = r := ⟨_, rfl⟩
      rw [hs3, hs4, hs5] at h2
      obtain ⟨x5, st5⟩ := s5
      obtain ⟨x4, st4⟩ := s4
      obtain ⟨x3, st3⟩ := s3
      simp only at h2 hs4 hs5
      subst h2
      obtain ⟨k4, rfl, c1, c2, c3, c4⟩ := opS_ok hs5
      obtain ⟨k3, rfl, b1, b2, b3, b4⟩ := opS_ok hs4
      obtain ⟨k1', e1, a1, a2, a3, a4⟩ := opS_ok hs3
      cases e1
      rw [hs3, hs4, hs5]
      have hL := layI_eq (enc := enc) (x := ⟨(n : Int), x3, x4, x5⟩) (f := f) hf
      simp only [Int.toNat_natCast] at hL
      refine ⟨⟨f, hf, a1, b1, c1⟩, ?_, ?_, fun h => c4 (b4 (a4 (g6 h)))⟩
      · rw [hL]; simp only [List.length_append]; omega
      · rw [hL, g5, a3, b3, c3]; simp only [List.append_assoc]
theorem insS_put {enc : Bool} {T R : List UInt8} {k : Nat} {x : Ins} (hx : insOk enc x) (h : T.drop k = layI enc x ++ R) : insS enc T k = (x, .ok (k + (layI enc x).length)) := by
  obtain ⟨f, hf, h1, h2, h3⟩ := hx
  have ho := fmOf_op hf
  have hL := layI_eq hf
  obtain ⟨op, a, b, c⟩ := x
  simp only at hf h1 h2 h3 ho hL
  rw [hL] at h ⊢
  simp only [List.append_assoc] at h
  have e0 := numS_put (e := 140) (most := 255) (n := op.toNat) (by omega) (by omega) h
  have d0 := drop_app h
  have e1 := opS_put h1 d0
  have d1 := drop_app d0
  have e2 := opS_put h2 d1
  have d2 := drop_app d1
  have e3 := opS_put h3 d2
  have eo : ((op.toNat : Nat) : Int) = op := by omega
  unfold insS
  simp only [e0, eo, hf, e1, e2, e3]
  simp only [List.length_append]
  congr 2; omega

end Go.Proofs.YthlbhnefldaoiaaDoor

set_option linter.unusedSimpArgs false
set_option linter.unusedVariables false
set_option maxRecDepth 100000
namespace Go.Proofs.YthlbhnefldaoiaaDoor
open Go Go.Vc Go.RowKit Go.Proofs

def entOk (e : Int) : Prop := 0 ≤ e ∧ e ≤ 2147483648
theorem layE_put {e : Int} (h : entOk e) : e.toNat < 2 ^ 64 ∧ e.toNat ≤ 2147483648 ∧ ((e.toNat : Nat) : Int) = e := by unfold entOk at h; omega
/-- where each piece begins -/
def posL {α : Type} (f : α → List UInt8) : Nat → List α → List Nat
  | _, [] => []
  | k, x :: xs => k :: posL f (k + (f x).length) xs
theorem entsS_er (T : List UInt8) (n : Nat) (e p : Nat) (es : List Int) (ps : List Nat) : entsS T n (.er e p) es ps = (.er e p, es, ps) := by cases n <;> rfl
theorem inssS_er (enc : Bool) (T : List UInt8) (n : Nat) (e p : Nat) (es : List Ins) (ps : List Nat) : inssS enc T n (.er e p) es ps = (.er e p, es, ps) := by cases n <;> rfl
theorem entsS_ok (T : List UInt8) : ∀ (n : Nat) (s : Rs) (es es2 : List Int) (ps ps2 : List Nat) (k2 : Nat), entsS T n s es ps = (.ok k2, es2, ps2) → ∃ (k : Nat) (E : List Int), s = .ok k ∧ E.length = n ∧ es2 = es ++ E ∧ (∀ e ∈ E, entOk e) ∧ ps2 = ps ++ posL layE k E ∧ k2 = k + (E.flatMap layE).length ∧ T.drop k = E.flatMap layE ++ T.drop k2 ∧ (k ≤ T.length → k2 ≤ T.length)
  | 0, s, es, es2, ps, ps2, k2, h => by
    simp only [entsS, Prod.mk.injEq] at h
    obtain ⟨rfl, rfl, rfl⟩ := h
    exact ⟨k2, [], rfl, rfl, by simp, by simp, by simp [posL], by simp, by simp, fun h => h⟩
  | n + 1, .er e p, es, es2, ps, ps2, k2, h => by
    rw [entsS_er] at h; cases h
  | n + 1, .ok k, es, es2, ps, ps2, k2, h => by
    rw [entsS] at h
    obtain ⟨⟨m, s1⟩, hr⟩ : ∃ r, numS T (.ok k) 2147483648 3 = r := ⟨_, rfl⟩
    rw [hr] at h
    obtain ⟨k1, E, rfl, h2, h3, h4, h5, h6, h7, h8⟩ := entsS_ok T n s1 _ _ _ _ _ h
    obtain ⟨k0, e0, g2, g3, g4, g5, g6⟩ := numS_ok hr
    cases e0
    have e1 : layE (m : Int) = vput m := by rw [layE, Int.toNat_natCast]
    refine ⟨k, (m : Int) :: E, rfl, by simp [h2], by rw [h3]; simp, ?_, ?_, ?_, ?_, fun h => h8 (g6 h)⟩
    · intro e he
      rcases List.mem_cons.1 he with rfl | he
      · unfold entOk; omega
      · exact h4 e he
    · rw [h5, posL, e1, ← g4]; simp
    · rw [h6, List.flatMap_cons, e1, List.length_append]; omega
    · rw [g5, h7, List.flatMap_cons, e1, List.append_assoc]
theorem entsS_put (T : List UInt8) : ∀ (E : List Int) (R : List UInt8) (k : Nat) (es : List Int) (ps : List Nat), (∀ e ∈ E, entOk e) → T.drop k = E.flatMap layE ++ R → entsS T E.length (.ok k) es ps = (.ok (k + (E.flatMap layE).length), es ++ E, ps ++ posL layE k E)
  | [], R, k, es, ps, _, h => by simp [entsS, posL]
  | e :: E, R, k, es, ps, hE, h => by
    have he := hE e (by simp)
    obtain ⟨a1, a2, a3⟩ := layE_put he
    rw [List.flatMap_cons, List.append_assoc] at h
    have e1 : layE e = vput e.toNat := rfl
    have e0 := numS_put (e := 3) (most := 2147483648) a1 a2 h
    rw [List.length_cons, entsS, e0]
    simp only [a3]
    have hd := drop_app h
    rw [e1] at hd
    rw [entsS_put T E R _ _ _ (fun x hx => hE x (by simp [hx])) hd]
    simp only [List.flatMap_cons, List.length_append, posL, List.append_assoc, List.singleton_append, e1]
    congr 2; omega
theorem inssS_ok (enc : Bool) (T : List UInt8) : ∀ (n : Nat) (s : Rs) (es es2 : List Ins) (ps ps2 : List Nat) (k2 : Nat), inssS enc T n s es ps = (.ok k2, es2, ps2) → ∃ (k : Nat) (E : List Ins), s = .ok k ∧ E.length = n ∧ es2 = es ++ E ∧ (∀ e ∈ E, insOk enc e) ∧ ps2 = ps ++ posL (layI enc) k E ∧ k2 = k + (E.flatMap (layI enc)).length ∧ T.drop k = E.flatMap (layI enc) ++ T.drop k2 ∧ (k ≤ T.length → k2 ≤ T.length)
  | 0, s, es, es2, ps, ps2, k2, h => by
    simp only [inssS, Prod.mk.injEq] at h
    obtain ⟨rfl, rfl, rfl⟩ := h
    exact ⟨k2, [], rfl, rfl, by simp, by simp, by simp [posL], by simp, by simp, fun h => h⟩
  | n + 1, .er e p, es, es2, ps, ps2, k2, h => by
    rw [inssS_er] at h; cases h
  | n + 1, .ok k, es, es2, ps, ps2, k2, h => by
    rw [inssS] at h
    obtain ⟨⟨x, s1⟩, hr⟩ : ∃ r, insS enc T k = r := ⟨_, rfl⟩
    rw [hr] at h
    obtain ⟨k1, E, rfl, h2, h3, h4, h5, h6, h7, h8⟩ := inssS_ok enc T n s1 _ _ _ _ _ h
    obtain ⟨g2, g4, g5, g6⟩ := insS_ok hr
    refine ⟨k, x :: E, rfl, by simp [h2], by rw [h3]; simp, ?_, ?_, ?_, ?_, fun h => h8 (g6 h)⟩
    · intro e he
      rcases List.mem_cons.1 he with rfl | he
      · exact g2
      · exact h4 e he
    · rw [h5, posL, ← g4]; simp
    · rw [h6, List.flatMap_cons, List.length_append]; omega
    · rw [g5, h7, List.flatMap_cons, List.append_assoc]
theorem inssS_put (enc : Bool) (T : List UInt8) : ∀ (E : List Ins) (R : List UInt8) (k : Nat) (es : List Ins) (ps : List Nat), (∀ e ∈ E, insOk enc e) → T.drop k = E.flatMap (layI enc) ++ R → inssS enc T E.length (.ok k) es ps = (.ok (k + (E.flatMap (layI enc)).length), es ++ E, ps ++ posL (layI enc) k E)
  | [], R, k, es, ps, _, h => by simp [inssS, posL]
  | x :: E, R, k, es, ps, hE, h => by
    rw [List.flatMap_cons, List.append_assoc] at h
    have e0 := insS_put (hE x (by simp)) h
    rw [List.length_cons, inssS, e0]
    simp only
    rw [inssS_put enc T E R _ _ _ (fun y hy => hE y (by simp [hy])) (drop_app h)]
    simp only [List.flatMap_cons, List.length_append, posL, List.append_assoc, List.singleton_append]
    congr 2; omega
/-- a program asx the reader may have read it -/
structure ReadP (p : Pg) : Prop where
  nc : p.code.length ≤ 1048576
  ne : p.ent.length ≤ 1048576
  ins : ∀ x ∈ p.code, insOk p.enc x
  ent : ∀ e ∈ p.ent, entOk e
theorem ReadP.big {p : Pg} (h : ReadP p) : ¬ BigP p := fun hb => by have := h.nc; have := h.ne; unfold BigP at hb; omega
theorem hdrS_ok {T : List UInt8} (h : (hdrS T).1 = 0) : T = hdr (encS T) ++ T.drop 2 := by
  unfold hdrS at h
  match T with
  | [] => simp at h
  | [a] => simp at h; split at h <;> simp at h
  | a :: b :: T =>
    simp only [List.length_cons, List.getD_cons_zero, List.getD_cons_succ] at h
    rw [if_neg (by omega)] at h
    split at h
    · simp at h
    · rename_i h1
      rw [if_neg (by omega)] at h
      split at h
      · simp at h
      · rename_i h2
        have ha : a = 109 := by simpa using h1
        subst ha
        simp only [hdr, encS, List.getD_cons_succ, List.getD_cons_zero, List.drop_succ_cons, List.drop_zero, List.cons_append, List.nil_append, List.cons.injEq, true_and, and_true]
        have hb : b.toNat = 0 ∨ b.toNat = 1 := by omega
        rcases hb with hb | hb
        · rw [show b = 0 from UInt8.toNat_inj.1 hb]; rfl
        · rw [show b = 1 from UInt8.toNat_inj.1 hb]; rfl
theorem hdr_len (e : Bool) : (hdr e).length = 2 := rfl
theorem hdrS_lay (e : Bool) (R : List UInt8) : hdrS (hdr e ++ R) = (0, 0) ∧ encS (hdr e ++ R) = e := by
  cases e <;> simp [hdrS, hdr, encS]
/-- all read: the bytes are the program's, and each piece is where it is written -/
theorem dec_read {T : List UInt8} {k : Nat} (hh : (hdrS T).1 = 0) (h : (decI (encS T) T).1 = .ok k) : ReadP (pgS T) ∧ T = lay (pgS T) ++ T.drop k ∧ k ≤ T.length ∧ k = (lay (pgS T)).length ∧ (decE T).2.2 = posL layE (lay0 (pgS T)).length (pgS T).ent ∧ (decI (encS T) T).2.2 = posL (layI (encS T)) (lay1 (pgS T)).length (pgS T).code := by
  have h0 := hdrS_ok hh
  have h2l : 2 ≤ T.length := by rw [h0]; simp [hdr]
  obtain ⟨r4, hr4⟩ : ∃ r, decI (encS T) T = r := ⟨_, rfl⟩
  obtain ⟨s4, L, ps4⟩ := r4
  rw [hr4] at h
  simp only at h
  subst h
  have hd4 := hr4
  unfold decI at hr4
  obtain ⟨k3, L', g1, g2, g3, g4, g5, g6, g7, g8⟩ := inssS_ok _ _ _ _ _ _ _ _ _ hr4
  obtain ⟨⟨n3, s3⟩, hr3⟩ : ∃ r, numS T (decE T).1 1048576 4 = r := ⟨_, rfl⟩
  rw [hr3] at g1 g2
  simp only at g1 g2
  subst g1
  obtain ⟨k2, f1, f2, f3, f4, f5, f6⟩ := numS_ok hr3
  obtain ⟨⟨s2, E, ps2⟩, hr2⟩ : ∃ r, decE T = r := ⟨_, rfl⟩
  rw [hr2] at f1
  simp only at f1
  subst f1
  have hd2 := hr2
  unfold decE at hr2
  obtain ⟨k1, E', e1, e2, e3, e4, e5, e6, e7, e8⟩ := entsS_ok _ _ _ _ _ _ _ _ hr2
  obtain ⟨⟨n1, s1⟩, hr1⟩ : ∃ r, numS T (.ok 2) 1048576 4 = r := ⟨_, rfl⟩
  rw [hr1] at e1 e2
  simp only at e1 e2
  subst e1
  obtain ⟨k0, d1, d2, d3, d4, d5, d6⟩ := numS_ok hr1
  cases d1
  have hP : pgS T = ⟨encS T, L', E'⟩ := by unfold pgS; rw [hd4, hd2]; simp only [e3, g3, List.nil_append]
  have hl0 : lay0 ⟨encS T, L', E'⟩ = hdr (encS T) ++ vput E'.length := rfl
  have hk1 : k1 = (lay0 ⟨encS T, L', E'⟩).length := by rw [hl0, List.length_append, hdr_len, e2, d4]
  have hl1 : lay1 ⟨encS T, L', E'⟩ = lay0 ⟨encS T, L', E'⟩ ++ (E'.flatMap layE ++ vput L'.length) := rfl
  have hk3 : k3 = (lay1 ⟨encS T, L', E'⟩).length := by rw [hl1, List.length_append, List.length_append, ← hk1, g2, f4, e6]; omega
  have hl : lay ⟨encS T, L', E'⟩ = lay1 ⟨encS T, L', E'⟩ ++ L'.flatMap (layI (encS T)) := rfl
  rw [hP, hd4, hd2]
  refine ⟨⟨by show L'.length ≤ _; omega, by show E'.length ≤ _; omega, g4, e4⟩, ?_, g8 (f6 (e8 (d6 h2l))), ?_, ?_, ?_⟩
  · have hT : T = lay1 ⟨encS T, L', E'⟩ ++ T.drop k3 := by
      rw [hl1, hl0]
      simp only [List.append_assoc]
      rw [g2, e2, ← f5, ← e7, ← d5]
      exact h0
    rw [hl]
    conv => lhs; rw [hT, g7]
    rw [List.append_assoc]
  · rw [hl, List.length_append, ← hk3, g6]
  · rw [e5, hk1]; rfl
  · rw [g5, hk3]; rfl
/-- what is written down is read -/
theorem dec_lay {p : Pg} (h : ReadP p) (R : List UInt8) : (hdrS (lay p ++ R)).1 = 0 ∧ encS (lay p ++ R) = p.enc ∧ pgS (lay p ++ R) = p ∧ (decI p.enc (lay p ++ R)).1 = .ok (lay p).length := by
  obtain ⟨T, hT⟩ : ∃ T, T = lay p ++ R := ⟨_, rfl⟩
  have e0 : T = hdr p.enc ++ (vput p.ent.length ++ (p.ent.flatMap layE ++ (vput p.code.length ++ (p.code.flatMap (layI p.enc) ++ R)))) := by
    rw [hT]; unfold lay lay1 lay0; simp only [List.append_assoc]
  obtain ⟨a1, a2⟩ := hdrS_lay p.enc (vput p.ent.length ++ (p.ent.flatMap layE ++ (vput p.code.length ++ (p.code.flatMap (layI p.enc) ++ R))))
  rw [← e0] at a1 a2
  have hn := h.ne
  have hc := h.nc
  have d0 : T.drop 2 = vput p.ent.length ++ (p.ent.flatMap layE ++ (vput p.code.length ++ (p.code.flatMap (layI p.enc) ++ R))) := by
    conv => lhs; rw [e0]
    rfl
  have n1 := numS_put (e := 4) (most := 1048576) (n := p.ent.length) (by omega) (by omega) d0
  have d1 := drop_app d0
  have n2 := entsS_put T p.ent _ _ [] [] h.ent d1
  have hE := (show decE T = entsS T p.ent.length _ [] [] by unfold decE; rw [n1]).trans n2
  have d2 := drop_app d1
  have n3 := numS_put (e := 4) (most := 1048576) (n := p.code.length) (by omega) (by omega) d2
  have d3 := drop_app d2
  have n4 := inssS_put p.enc T p.code _ _ [] [] h.ins d3
  have hI := (show decI p.enc T = inssS p.enc T p.code.length _ [] [] by unfold decI; rw [hE, n3]).trans n4
  rw [← hT]
  refine ⟨by rw [a1], a2, ?_, ?_⟩
  · unfold pgS; rw [a2, hI, hE]; rfl
  · rw [hI]
    show Rs.ok _ = Rs.ok _
    congr 1
    unfold lay lay1 lay0
    simp only [List.length_append, hdr_len]
    omega
/-- a program that Check takes may be read -/
theorem fitP_op {nc ne : Nat} (h1 : nc ≤ 1048576) (h2 : ne ≤ 1048576) {c : UInt8} (hc : c ∈ lets) {x : Int} (h : fitP nc ne c x) : opOk c x := by
  have hc2 : c = 107 ∨ c = 112 ∨ c = 75 ∨ c = 119 ∨ c = 109 ∨ c = 102 ∨ c = 110 ∨ c = 115 ∨ c = 97 ∨ c = 103 ∨ c = 108 ∨ c = 76 ∨ c = 114 ∨ c = 122 ∨ c = 116 ∨ c = 121 ∨ c = 32 := by
    simp only [lets, List.mem_cons, List.not_mem_nil, or_false] at hc
    omega
  unfold opOk
  rcases hc2 with rfl | rfl | rfl | rfl | rfl | rfl | rfl | rfl | rfl | rfl | rfl | rfl | rfl | rfl | rfl | rfl | rfl <;> simp [fitP] at h ⊢ <;> omega
theorem OkI.ins {p : Pg} (hb : ¬ BigP p) {i : Nat} (h : OkI p i) : insOk p.enc (p.code.getD i in0) := by
  obtain ⟨f, h1, h2, h3, h4, -⟩ := h
  obtain ⟨g1, g2⟩ := fmOf_three h1
  have hl : ∀ j, j < 3 → f.2.getD j 0 ∈ lets := fun j hj => g2 _ (by rw [List.getD_eq_getElem?_getD, List.getElem?_eq_getElem (by omega)]; exact List.getElem_mem _)
  unfold BigP at hb
  exact ⟨f, h1, fitP_op (by omega) (by omega) (hl 0 (by omega)) h2, fitP_op (by omega) (by omega) (hl 1 (by omega)) h3, fitP_op (by omega) (by omega) (hl 2 (by omega)) h4⟩
theorem OkP.read {p : Pg} (h : OkP p) : ReadP p := by
  have hb := h.nb
  have hb2 := hb
  unfold BigP at hb2
  refine ⟨by omega, by omega, fun x hx => ?_, fun e he => ?_⟩
  · obtain ⟨i, hi, rfl⟩ := List.mem_iff_getElem.1 hx
    have := (h.ins i hi).ins hb
    rwa [List.getD_eq_getElem?_getD, List.getElem?_eq_getElem hi] at this
  · obtain ⟨i, hi, rfl⟩ := List.mem_iff_getElem.1 he
    have := h.ent i hi
    unfold OkE at this
    rw [List.getD_eq_getElem?_getD, List.getElem?_eq_getElem hi] at this
    simp only [Option.getD_some] at this
    unfold entOk
    omega

end Go.Proofs.YthlbhnefldaoiaaDoor

set_option linter.unusedSimpArgs false
set_option linter.unusedVariables false
set_option maxRecDepth 100000
namespace Go.Proofs.YthlbhnefldaoiaaDoor
open Go Go.Vc Go.RowKit Go.Proofs

def shP (op : Int) : List UInt8 × List UInt8 × Bool := if op = 9 then ([97, 114, 109], [103, 116, 32], true) else if op = 19 then ([106, 117, 109, 112], [32, 116, 32], true) else if op = 20 then ([114, 101, 116], [32, 32, 32], true) else ([], [], false)
def decP (op : Int) : List UInt8 × List UInt8 × Bool := if op = 1 then ([117, 105, 110, 116], [107, 119, 32], true) else if op = 2 then ([117, 105, 110, 116, 115], [75, 110, 119], true) else if op = 3 then ([98, 111, 111, 108], [107, 32, 32], true) else if op = 4 then ([118, 97, 114, 105, 110, 116], [107, 32, 32], true) else if op = 5 then ([115, 101, 113], [32, 32, 32], true) else if op = 6 then ([115, 116, 114, 117, 99, 116], [32, 32, 32], true) else if op = 7 then ([111, 112, 116, 105, 111, 110], [32, 116, 32], true) else if op = 8 then ([117, 110, 105, 111, 110], [97, 32, 32], true) else if op = 10 then ([111, 102, 102, 115, 101, 116], [102, 32, 32], true) else if op = 11 then ([102, 105, 114, 115, 116], [109, 116, 32], true) else if op = 12 then ([115, 108, 111, 116, 115], [32, 116, 32], true) else if op = 13 then ([105, 116, 101, 109], [109, 116, 32], true) else if op = 14 then ([108, 101, 115, 115], [109, 116, 32], true) else if op = 15 then ([112, 97, 114, 116, 115], [32, 116, 32], true) else if op = 16 then ([99, 97, 108, 108], [107, 32, 121], true) else if op = 17 then ([112, 97, 114, 116], [107, 112, 121], true) else if op = 18 then ([116, 97, 105, 108], [112, 32, 32], true) else shP op
def encP (op : Int) : List UInt8 × List UInt8 × Bool := if op = 33 then ([110, 117, 109, 98, 101, 114], [80, 119, 32], true) else if op = 34 then ([110, 117, 109, 98, 101, 114, 115], [113, 110, 119], true) else if op = 35 then ([102, 108, 97, 103], [80, 32, 32], true) else if op = 36 then ([108, 101, 98], [32, 32, 32], true) else if op = 37 then ([109, 97, 110, 121], [109, 32, 32], true) else if op = 38 then ([117, 112, 116, 111], [109, 32, 32], true) else if op = 39 then ([102, 105, 101, 108, 100, 115], [115, 32, 32], true) else if op = 40 then ([109, 97, 121, 98, 101], [32, 116, 32], true) else if op = 41 then ([99, 104, 111, 105, 99, 101], [97, 32, 32], true) else if op = 42 then ([114, 111, 111, 109], [98, 32, 32], true) else if op = 43 then ([115, 108, 111, 116], [80, 32, 32], true) else if op = 44 then ([101, 110, 116, 101, 114], [113, 32, 121], true) else if op = 45 then ([101, 97, 99, 104], [122, 32, 121], true) else if op = 46 then ([97, 112, 112, 101, 110, 100], [32, 32, 121], true) else if op = 47 then ([97, 103, 97, 105, 110], [32, 116, 32], true) else shP op
def fmP (enc : Bool) (op : Int) : List UInt8 × List UInt8 × Bool := if enc = true then encP op else decP op
def fmR (enc : Bool) (op : Int) : List UInt8 × List UInt8 × Bool := match fmOf enc op with | some f => (f.1, f.2.map tl, true) | none => ([], [], false)
theorem fmP_all : ∀ n, n < 48 → ∀ enc : Bool, fmP enc (n : Nat) = fmR enc (n : Nat) := by decide +kernel
theorem fmP_eq (enc : Bool) (op : Int) : fmP enc op = fmR enc op := by
  by_cases h : 0 ≤ op ∧ op < 48
  · obtain ⟨n, rfl⟩ : ∃ n : Nat, op = n := ⟨op.toNat, by omega⟩
    exact fmP_all n (by omega) enc
  · have e1 : fmOf enc op = none := by
      unfold fmOf
      rw [if_neg (by omega), if_neg (by omega), if_neg (by omega)]
    have e2 : shP op = ([], [], false) := by unfold shP; repeat rw [if_neg (by omega)]
    unfold fmR fmP
    rw [e1]
    split
    · unfold encP; repeat rw [if_neg (by omega)]
      exact e2
    · unfold decP; repeat rw [if_neg (by omega)]
      exact e2
/-- may an operand be, by the program's letter -/
def fitQ (nc ne : Nat) (k : Nat) (x : Int) : Prop := if k = 32 then x = 0 else if k = 107 ∨ k = 112 then -1 ≤ x ∧ x ≤ 63 else if k = 75 then 0 ≤ x ∧ x ≤ 63 else if k = 119 then x = 1 ∨ x = 2 ∨ x = 4 ∨ x = 8 else if k = 110 then 2 ≤ x ∧ x ≤ 64 else if k = 102 then 4 ≤ x ∧ x ≤ 16777216 else if k = 109 then 1 ≤ x ∧ x ≤ 1048576 else if k = 115 then 1 ≤ x ∧ x ≤ 64 else if k = 97 then 1 ≤ x ∧ x ≤ 64 else if k = 103 then 0 ≤ x ∧ x ≤ 255 else if k = 80 then -1 ≤ x ∧ x ≤ 16777215 else if k = 113 then 0 ≤ x ∧ x ≤ 16777215 else if k = 98 then x = -1 ∨ (1 ≤ x ∧ x ≤ 16777216) else if k = 122 then 1 ≤ x ∧ x ≤ 16777216 else if k = 116 then 0 ≤ x ∧ x ≤ (nc : Int) - 1 else 0 ≤ x ∧ x ≤ (ne : Int) - 1
theorem lets_cases {c : UInt8} (hc : c ∈ lets) : c = 107 ∨ c = 112 ∨ c = 75 ∨ c = 119 ∨ c = 109 ∨ c = 102 ∨ c = 110 ∨ c = 115 ∨ c = 97 ∨ c = 103 ∨ c = 108 ∨ c = 76 ∨ c = 114 ∨ c = 122 ∨ c = 116 ∨ c = 121 ∨ c = 32 := by
  simp only [lets, List.mem_cons, List.not_mem_nil, or_false] at hc
  omega
theorem fitQ_tl {nc ne : Nat} {c : UInt8} (hc : c ∈ lets) (x : Int) : fitQ nc ne (tl c).toNat x ↔ fitP nc ne c x := by
  rcases lets_cases hc with rfl | rfl | rfl | rfl | rfl | rfl | rfl | rfl | rfl | rfl | rfl | rfl | rfl | rfl | rfl | rfl | rfl <;> simp [fitQ, fitP, tl]

set_option maxHeartbeats 4000000 in
theorem shared_spec (op : Int) (w0 : World) : Ca Tryd.prog 69 #[.int .i64 op] w0 (fun r w' => r = .tuple #[.agg #[st (shP op).1, st (shP op).2.1], .bool (shP op).2.2] ∧ Ext w0 w') := by
  refine Ca.of Tryd.func69 Tryd.ntmps69 rfl rfl ?_
  refine W.seq ?_
  refine W.region ?_
  refine WL.c rfl (o_alB TI61 ?_)
  intro w2 hC2 hx2 hs2
  obtain ⟨b2, hb2⟩ : ∃ b, b = w0.heap.size := ⟨_, rfl⟩
  rw [← hb2] at hC2 ⊢
  replace hC2 : w2.heap[b2]? = some (.cells ([st [], st []]).toArray 61 (0, 0)) := hC2
  have hx : Ext w0 w2 := hx2
  refine WL.c rfl (o_ash (show _ = Value.bool _ from rfl) ?_)
  refine WL.nil ?_
  refine W.seq ?_
  refine W.seq ?_
  refine W.region ?_
  refine WL.c rfl (o_mvh (show _ = Value.int _ _ from rfl) ?_)
  refine WL.nil ?_
  refine W.block ?_
  refine W.seq ?_
  refine W.region ?_
  refine WL.c rfl (o_eq rfl rfl ?_)
  refine WL.c rfl (o_ash (show _ = Value.bool _ from rfl) ?_)
  refine WL.nil ?_
  refine W.cond rfl (fun c5 => ?_) (fun c5 => ?_)
  · try simp only [decide_eq_true_eq, decide_eq_false_iff_not, Bool.not_eq_true', Bool.not_eq_false', Bool.and_eq_true, Bool.or_eq_true, Bool.and_eq_false_iff, Bool.or_eq_false_iff] at c5
    refine W.seq ?_
    refine W.region ?_
    refine WL.c rfl (o_bldC (cs := [(st [97, 114, 109]), (st [103, 116, 32])]) TI61 (Sizes.cons TI9 (Sizes.cons TI9 Sizes.nil)) rfl (lcp (show _ = Value.string _ from rfl) (lcp (show _ = Value.string _ from rfl) lnp)) rfl rfl ?_)
    refine WL.u (o_stA TI61 rfl rfl rfl rfl (by assumption) rfl ?_)
    intro ws hBs hos hss
    replace hx := hx.trans' hos (fun _ h => h) (fun k hk he => by omega)
    refine WL.c rfl (o_ash (show _ = Value.bool _ from rfl) ?_)
    refine WL.nil ?_
    refine W.ret ?_
    refine retCT rfl TI61 rfl (show _ = Value.bool _ from rfl) rfl (cells_all (by assumption)) rfl ?_
    exact ⟨by simp [shP, *], hx⟩
  · try simp only [decide_eq_true_eq, decide_eq_false_iff_not, Bool.not_eq_true', Bool.not_eq_false', Bool.and_eq_true, Bool.or_eq_true, Bool.and_eq_false_iff, Bool.or_eq_false_iff] at c5
    refine W.seq ?_
    refine W.region ?_
    refine WL.c rfl (o_eq rfl rfl ?_)
    refine WL.c rfl (o_ash (show _ = Value.bool _ from rfl) ?_)
    refine WL.nil ?_
    refine W.cond rfl (fun c8 => ?_) (fun c8 => ?_)
    · try simp only [decide_eq_true_eq, decide_eq_false_iff_not, Bool.not_eq_true', Bool.not_eq_false', Bool.and_eq_true, Bool.or_eq_true, Bool.and_eq_false_iff, Bool.or_eq_false_iff] at c8
      refine W.seq ?_
      refine W.region ?_
      refine WL.c rfl (o_bldC (cs := [(st [106, 117, 109, 112]), (st [32, 116, 32])]) TI61 (Sizes.cons TI9 (Sizes.cons TI9 Sizes.nil)) rfl (lcp (show _ = Value.string _ from rfl) (lcp (show _ = Value.string _ from rfl) lnp)) rfl rfl ?_)
      refine WL.u (o_stA TI61 rfl rfl rfl rfl (by assumption) rfl ?_)
      intro ws hBs hos hss
      replace hx := hx.trans' hos (fun _ h => h) (fun k hk he => by omega)
      refine WL.c rfl (o_ash (show _ = Value.bool _ from rfl) ?_)
      refine WL.nil ?_
      refine W.ret ?_
      refine retCT rfl TI61 rfl (show _ = Value.bool _ from rfl) rfl (cells_all (by assumption)) rfl ?_
      exact ⟨by simp [shP, *], hx⟩
    · try simp only [decide_eq_true_eq, decide_eq_false_iff_not, Bool.not_eq_true', Bool.not_eq_false', Bool.and_eq_true, Bool.or_eq_true, Bool.and_eq_false_iff, Bool.or_eq_false_iff] at c8
      refine W.seq ?_
      refine W.region ?_
      refine WL.c rfl (o_eq rfl rfl ?_)
      refine WL.c rfl (o_ash (show _ = Value.bool _ from rfl) ?_)
      refine WL.nil ?_
      refine W.cond rfl (fun c11 => ?_) (fun c11 => ?_)
      · try simp only [decide_eq_true_eq, decide_eq_false_iff_not, Bool.not_eq_true', Bool.not_eq_false', Bool.and_eq_true, Bool.or_eq_true, Bool.and_eq_false_iff, Bool.or_eq_false_iff] at c11
        refine W.seq ?_
        refine W.region ?_
        refine WL.c rfl (o_bldC (cs := [(st [114, 101, 116]), (st [32, 32, 32])]) TI61 (Sizes.cons TI9 (Sizes.cons TI9 Sizes.nil)) rfl (lcp (show _ = Value.string _ from rfl) (lcp (show _ = Value.string _ from rfl) lnp)) rfl rfl ?_)
        refine WL.u (o_stA TI61 rfl rfl rfl rfl (by assumption) rfl ?_)
        intro ws hBs hos hss
        replace hx := hx.trans' hos (fun _ h => h) (fun k hk he => by omega)
        refine WL.c rfl (o_ash (show _ = Value.bool _ from rfl) ?_)
        refine WL.nil ?_
        refine W.ret ?_
        refine retCT rfl TI61 rfl (show _ = Value.bool _ from rfl) rfl (cells_all (by assumption)) rfl ?_
        exact ⟨by simp [shP, *], hx⟩
      · try simp only [decide_eq_true_eq, decide_eq_false_iff_not, Bool.not_eq_true', Bool.not_eq_false', Bool.and_eq_true, Bool.or_eq_true, Bool.and_eq_false_iff, Bool.or_eq_false_iff] at c11
        refine W.skip ?_
        refine W.seq ?_
        refine W.region ?_
        refine WL.c rfl (o_bldC (cs := [(.string ⟨#[]⟩), (.string ⟨#[]⟩)]) TI61 (Sizes.cons TI9 (Sizes.cons TI9 Sizes.nil)) rfl lnp rfl rfl ?_)
        refine WL.u (o_stA TI61 rfl rfl rfl rfl (by assumption) rfl ?_)
        intro ws hBs hos hss
        replace hx := hx.trans' hos (fun _ h => h) (fun k hk he => by omega)
        refine WL.c rfl (o_ash (show _ = Value.bool _ from rfl) ?_)
        refine WL.nil ?_
        refine W.ret ?_
        refine retCT rfl TI61 rfl (show _ = Value.bool _ from rfl) rfl (cells_all (by assumption)) rfl ?_
        exact ⟨by simp [shP, *], hx⟩
set_option maxHeartbeats 4000000 in
theorem decodes_spec (op : Int) (w0 : World) : Ca Tryd.prog 56 #[.int .i64 op] w0 (fun r w' => r = .tuple #[.agg #[st (decP op).1, st (decP op).2.1], .bool (decP op).2.2] ∧ Ext w0 w') := by
  refine Ca.of Tryd.func56 Tryd.ntmps56 rfl rfl ?_
  refine W.seq ?_
  refine W.region ?_
  refine WL.c rfl (o_alB TI61 ?_)
  intro w2 hC2 hx2 hs2
  obtain ⟨b2, hb2⟩ : ∃ b, b = w0.heap.size := ⟨_, rfl⟩
  rw [← hb2] at hC2 ⊢
  replace hC2 : w2.heap[b2]? = some (.cells ([st [], st []]).toArray 61 (0, 0)) := hC2
  have hx : Ext w0 w2 := hx2
  refine WL.c rfl (o_ash (show _ = Value.bool _ from rfl) ?_)
  refine WL.nil ?_
  refine W.seq ?_
  refine W.seq ?_
  refine W.region ?_
  refine WL.c rfl (o_mvh (show _ = Value.int _ _ from rfl) ?_)
  refine WL.nil ?_
  refine W.block ?_
  refine W.seq ?_
  refine W.region ?_
  refine WL.c rfl (o_eq rfl rfl ?_)
  refine WL.c rfl (o_ash (show _ = Value.bool _ from rfl) ?_)
  refine WL.nil ?_
  refine W.cond rfl (fun c5 => ?_) (fun c5 => ?_)
  · try simp only [decide_eq_true_eq, decide_eq_false_iff_not, Bool.not_eq_true', Bool.not_eq_false', Bool.and_eq_true, Bool.or_eq_true, Bool.and_eq_false_iff, Bool.or_eq_false_iff] at c5
    refine W.seq ?_
    refine W.region ?_
    refine WL.c rfl (o_bldC (cs := [(st [117, 105, 110, 116]), (st [107, 119, 32])]) TI61 (Sizes.cons TI9 (Sizes.cons TI9 Sizes.nil)) rfl (lcp (show _ = Value.string _ from rfl) (lcp (show _ = Value.string _ from rfl) lnp)) rfl rfl ?_)
    refine WL.u (o_stA TI61 rfl rfl rfl rfl (by assumption) rfl ?_)
    intro ws hBs hos hss
    replace hx := hx.trans' hos (fun _ h => h) (fun k hk he => by omega)
    refine WL.c rfl (o_ash (show _ = Value.bool _ from rfl) ?_)
    refine WL.nil ?_
    refine W.ret ?_
    refine retCT rfl TI61 rfl (show _ = Value.bool _ from rfl) rfl (cells_all (by assumption)) rfl ?_
    exact ⟨by simp [decP, *], hx⟩
  · try simp only [decide_eq_true_eq, decide_eq_false_iff_not, Bool.not_eq_true', Bool.not_eq_false', Bool.and_eq_true, Bool.or_eq_true, Bool.and_eq_false_iff, Bool.or_eq_false_iff] at c5
    refine W.seq ?_
    refine W.region ?_
    refine WL.c rfl (o_eq rfl rfl ?_)
    refine WL.c rfl (o_ash (show _ = Value.bool _ from rfl) ?_)
    refine WL.nil ?_
    refine W.cond rfl (fun c8 => ?_) (fun c8 => ?_)
    · try simp only [decide_eq_true_eq, decide_eq_false_iff_not, Bool.not_eq_true', Bool.not_eq_false', Bool.and_eq_true, Bool.or_eq_true, Bool.and_eq_false_iff, Bool.or_eq_false_iff] at c8
      refine W.seq ?_
      refine W.region ?_
      refine WL.c rfl (o_bldC (cs := [(st [117, 105, 110, 116, 115]), (st [75, 110, 119])]) TI61 (Sizes.cons TI9 (Sizes.cons TI9 Sizes.nil)) rfl (lcp (show _ = Value.string _ from rfl) (lcp (show _ = Value.string _ from rfl) lnp)) rfl rfl ?_)
      refine WL.u (o_stA TI61 rfl rfl rfl rfl (by assumption) rfl ?_)
      intro ws hBs hos hss
      replace hx := hx.trans' hos (fun _ h => h) (fun k hk he => by omega)
      refine WL.c rfl (o_ash (show _ = Value.bool _ from rfl) ?_)
      refine WL.nil ?_
      refine W.ret ?_
      refine retCT rfl TI61 rfl (show _ = Value.bool _ from rfl) rfl (cells_all (by assumption)) rfl ?_
      exact ⟨by simp [decP, *], hx⟩
    · try simp only [decide_eq_true_eq, decide_eq_false_iff_not, Bool.not_eq_true', Bool.not_eq_false', Bool.and_eq_true, Bool.or_eq_true, Bool.and_eq_false_iff, Bool.or_eq_false_iff] at c8
      refine W.seq ?_
      refine W.region ?_
      refine WL.c rfl (o_eq rfl rfl ?_)
      refine WL.c rfl (o_ash (show _ = Value.bool _ from rfl) ?_)
      refine WL.nil ?_
      refine W.cond rfl (fun c11 => ?_) (fun c11 => ?_)
      · try simp only [decide_eq_true_eq, decide_eq_false_iff_not, Bool.not_eq_true', Bool.not_eq_false', Bool.and_eq_true, Bool.or_eq_true, Bool.and_eq_false_iff, Bool.or_eq_false_iff] at c11
        refine W.seq ?_
        refine W.region ?_
        refine WL.c rfl (o_bldC (cs := [(st [98, 111, 111, 108]), (st [107, 32, 32])]) TI61 (Sizes.cons TI9 (Sizes.cons TI9 Sizes.nil)) rfl (lcp (show _ = Value.string _ from rfl) (lcp (show _ = Value.string _ from rfl) lnp)) rfl rfl ?_)
        refine WL.u (o_stA TI61 rfl rfl rfl rfl (by assumption) rfl ?_)
        intro ws hBs hos hss
        replace hx := hx.trans' hos (fun _ h => h) (fun k hk he => by omega)
        refine WL.c rfl (o_ash (show _ = Value.bool _ from rfl) ?_)
        refine WL.nil ?_
        refine W.ret ?_
        refine retCT rfl TI61 rfl (show _ = Value.bool _ from rfl) rfl (cells_all (by assumption)) rfl ?_
        exact ⟨by simp [decP, *], hx⟩
      · try simp only [decide_eq_true_eq, decide_eq_false_iff_not, Bool.not_eq_true', Bool.not_eq_false', Bool.and_eq_true, Bool.or_eq_true, Bool.and_eq_false_iff, Bool.or_eq_false_iff] at c11
        refine W.seq ?_
        refine W.region ?_
        refine WL.c rfl (o_eq rfl rfl ?_)
        refine WL.c rfl (o_ash (show _ = Value.bool _ from rfl) ?_)
        refine WL.nil ?_
        refine W.cond rfl (fun c14 => ?_) (fun c14 => ?_)
        · try simp only [decide_eq_true_eq, decide_eq_false_iff_not, Bool.not_eq_true', Bool.not_eq_false', Bool.and_eq_true, Bool.or_eq_true, Bool.and_eq_false_iff, Bool.or_eq_false_iff] at c14
          refine W.seq ?_
          refine W.region ?_
          refine WL.c rfl (o_bldC (cs := [(st [118, 97, 114, 105, 110, 116]), (st [107, 32, 32])]) TI61 (Sizes.cons TI9 (Sizes.cons TI9 Sizes.nil)) rfl (lcp (show _ = Value.string _ from rfl) (lcp (show _ = Value.string _ from rfl) lnp)) rfl rfl ?_)
          refine WL.u (o_stA TI61 rfl rfl rfl rfl (by assumption) rfl ?_)
          intro ws hBs hos hss
          replace hx := hx.trans' hos (fun _ h => h) (fun k hk he => by omega)
          refine WL.c rfl (o_ash (show _ = Value.bool _ from rfl) ?_)
          refine WL.nil ?_
          refine W.ret ?_
          refine retCT rfl TI61 rfl (show _ = Value.bool _ from rfl) rfl (cells_all (by assumption)) rfl ?_
          exact ⟨by simp [decP, *], hx⟩
        · try simp only [decide_eq_true_eq, decide_eq_false_iff_not, Bool.not_eq_true', Bool.not_eq_false', Bool.and_eq_true, Bool.or_eq_true, Bool.and_eq_false_iff, Bool.or_eq_false_iff] at c14
          refine W.seq ?_
          refine W.region ?_
          refine WL.c rfl (o_eq rfl rfl ?_)
          refine WL.c rfl (o_ash (show _ = Value.bool _ from rfl) ?_)
          refine WL.nil ?_
          refine W.cond rfl (fun c17 => ?_) (fun c17 => ?_)
          · try simp only [decide_eq_true_eq, decide_eq_false_iff_not, Bool.not_eq_true', Bool.not_eq_false', Bool.and_eq_true, Bool.or_eq_true, Bool.and_eq_false_iff, Bool.or_eq_false_iff] at c17
            refine W.seq ?_
            refine W.region ?_
            refine WL.c rfl (o_bldC (cs := [(st [115, 101, 113]), (st [32, 32, 32])]) TI61 (Sizes.cons TI9 (Sizes.cons TI9 Sizes.nil)) rfl (lcp (show _ = Value.string _ from rfl) (lcp (show _ = Value.string _ from rfl) lnp)) rfl rfl ?_)
            refine WL.u (o_stA TI61 rfl rfl rfl rfl (by assumption) rfl ?_)
            intro ws hBs hos hss
            replace hx := hx.trans' hos (fun _ h => h) (fun k hk he => by omega)
            refine WL.c rfl (o_ash (show _ = Value.bool _ from rfl) ?_)
            refine WL.nil ?_
            refine W.ret ?_
            refine retCT rfl TI61 rfl (show _ = Value.bool _ from rfl) rfl (cells_all (by assumption)) rfl ?_
            exact ⟨by simp [decP, *], hx⟩
          · try simp only [decide_eq_true_eq, decide_eq_false_iff_not, Bool.not_eq_true', Bool.not_eq_false', Bool.and_eq_true, Bool.or_eq_true, Bool.and_eq_false_iff, Bool.or_eq_false_iff] at c17
            refine W.seq ?_
            refine W.region ?_
            refine WL.c rfl (o_eq rfl rfl ?_)
            refine WL.c rfl (o_ash (show _ = Value.bool _ from rfl) ?_)
            refine WL.nil ?_
            refine W.cond rfl (fun c20 => ?_) (fun c20 => ?_)
            · try simp only [decide_eq_true_eq, decide_eq_false_iff_not, Bool.not_eq_true', Bool.not_eq_false', Bool.and_eq_true, Bool.or_eq_true, Bool.and_eq_false_iff, Bool.or_eq_false_iff] at c20
              refine W.seq ?_
              refine W.region ?_
              refine WL.c rfl (o_bldC (cs := [(st [115, 116, 114, 117, 99, 116]), (st [32, 32, 32])]) TI61 (Sizes.cons TI9 (Sizes.cons TI9 Sizes.nil)) rfl (lcp (show _ = Value.string _ from rfl) (lcp (show _ = Value.string _ from rfl) lnp)) rfl rfl ?_)
              refine WL.u (o_stA TI61 rfl rfl rfl rfl (by assumption) rfl ?_)
              intro ws hBs hos hss
              replace hx := hx.trans' hos (fun _ h => h) (fun k hk he => by omega)
              refine WL.c rfl (o_ash (show _ = Value.bool _ from rfl) ?_)
              refine WL.nil ?_
              refine W.ret ?_
              refine retCT rfl TI61 rfl (show _ = Value.bool _ from rfl) rfl (cells_all (by assumption)) rfl ?_
              exact ⟨by simp [decP, *], hx⟩
            · try simp only [decide_eq_true_eq, decide_eq_false_iff_not, Bool.not_eq_true', Bool.not_eq_false', Bool.and_eq_true, Bool.or_eq_true, Bool.and_eq_false_iff, Bool.or_eq_false_iff] at c20
              refine W.seq ?_
              refine W.region ?_
              refine WL.c rfl (o_eq rfl rfl ?_)
              refine WL.c rfl (o_ash (show _ = Value.bool _ from rfl) ?_)
              refine WL.nil ?_
              refine W.cond rfl (fun c23 => ?_) (fun c23 => ?_)
              · try simp only [decide_eq_true_eq, decide_eq_false_iff_not, Bool.not_eq_true', Bool.not_eq_false', Bool.and_eq_true, Bool.or_eq_true, Bool.and_eq_false_iff, Bool.or_eq_false_iff] at c23
                refine W.seq ?_
                refine W.region ?_
                refine WL.c rfl (o_bldC (cs := [(st [111, 112, 116, 105, 111, 110]), (st [32, 116, 32])]) TI61 (Sizes.cons TI9 (Sizes.cons TI9 Sizes.nil)) rfl (lcp (show _ = Value.string _ from rfl) (lcp (show _ = Value.string _ from rfl) lnp)) rfl rfl ?_)
                refine WL.u (o_stA TI61 rfl rfl rfl rfl (by assumption) rfl ?_)
                intro ws hBs hos hss
                replace hx := hx.trans' hos (fun _ h => h) (fun k hk he => by omega)
                refine WL.c rfl (o_ash (show _ = Value.bool _ from rfl) ?_)
                refine WL.nil ?_
                refine W.ret ?_
                refine retCT rfl TI61 rfl (show _ = Value.bool _ from rfl) rfl (cells_all (by assumption)) rfl ?_
                exact ⟨by simp [decP, *], hx⟩
              · try simp only [decide_eq_true_eq, decide_eq_false_iff_not, Bool.not_eq_true', Bool.not_eq_false', Bool.and_eq_true, Bool.or_eq_true, Bool.and_eq_false_iff, Bool.or_eq_false_iff] at c23
                refine W.seq ?_
                refine W.region ?_
                refine WL.c rfl (o_eq rfl rfl ?_)
                refine WL.c rfl (o_ash (show _ = Value.bool _ from rfl) ?_)
                refine WL.nil ?_
                refine W.cond rfl (fun c26 => ?_) (fun c26 => ?_)
                · try simp only [decide_eq_true_eq, decide_eq_false_iff_not, Bool.not_eq_true', Bool.not_eq_false', Bool.and_eq_true, Bool.or_eq_true, Bool.and_eq_false_iff, Bool.or_eq_false_iff] at c26
                  refine W.seq ?_
                  refine W.region ?_
                  refine WL.c rfl (o_bldC (cs := [(st [117, 110, 105, 111, 110]), (st [97, 32, 32])]) TI61 (Sizes.cons TI9 (Sizes.cons TI9 Sizes.nil)) rfl (lcp (show _ = Value.string _ from rfl) (lcp (show _ = Value.string _ from rfl) lnp)) rfl rfl ?_)
                  refine WL.u (o_stA TI61 rfl rfl rfl rfl (by assumption) rfl ?_)
                  intro ws hBs hos hss
                  replace hx := hx.trans' hos (fun _ h => h) (fun k hk he => by omega)
                  refine WL.c rfl (o_ash (show _ = Value.bool _ from rfl) ?_)
                  refine WL.nil ?_
                  refine W.ret ?_
                  refine retCT rfl TI61 rfl (show _ = Value.bool _ from rfl) rfl (cells_all (by assumption)) rfl ?_
                  exact ⟨by simp [decP, *], hx⟩
                · try simp only [decide_eq_true_eq, decide_eq_false_iff_not, Bool.not_eq_true', Bool.not_eq_false', Bool.and_eq_true, Bool.or_eq_true, Bool.and_eq_false_iff, Bool.or_eq_false_iff] at c26
                  refine W.seq ?_
                  refine W.region ?_
                  refine WL.c rfl (o_eq rfl rfl ?_)
                  refine WL.c rfl (o_ash (show _ = Value.bool _ from rfl) ?_)
                  refine WL.nil ?_
                  refine W.cond rfl (fun c29 => ?_) (fun c29 => ?_)
                  · try simp only [decide_eq_true_eq, decide_eq_false_iff_not, Bool.not_eq_true', Bool.not_eq_false', Bool.and_eq_true, Bool.or_eq_true, Bool.and_eq_false_iff, Bool.or_eq_false_iff] at c29
                    refine W.seq ?_
                    refine W.region ?_
                    refine WL.c rfl (o_bldC (cs := [(st [111, 102, 102, 115, 101, 116]), (st [102, 32, 32])]) TI61 (Sizes.cons TI9 (Sizes.cons TI9 Sizes.nil)) rfl (lcp (show _ = Value.string _ from rfl) (lcp (show _ = Value.string _ from rfl) lnp)) rfl rfl ?_)
                    refine WL.u (o_stA TI61 rfl rfl rfl rfl (by assumption) rfl ?_)
                    intro ws hBs hos hss
                    replace hx := hx.trans' hos (fun _ h => h) (fun k hk he => by omega)
                    refine WL.c rfl (o_ash (show _ = Value.bool _ from rfl) ?_)
                    refine WL.nil ?_
                    refine W.ret ?_
                    refine retCT rfl TI61 rfl (show _ = Value.bool _ from rfl) rfl (cells_all (by assumption)) rfl ?_
                    exact ⟨by simp [decP, *], hx⟩
                  · try simp only [decide_eq_true_eq, decide_eq_false_iff_not, Bool.not_eq_true', Bool.not_eq_false', Bool.and_eq_true, Bool.or_eq_true, Bool.and_eq_false_iff, Bool.or_eq_false_iff] at c29
                    refine W.seq ?_
                    refine W.region ?_
                    refine WL.c rfl (o_eq rfl rfl ?_)
                    refine WL.c rfl (o_ash (show _ = Value.bool _ from rfl) ?_)
                    refine WL.nil ?_
                    refine W.cond rfl (fun c32 => ?_) (fun c32 => ?_)
                    · try simp only [decide_eq_true_eq, decide_eq_false_iff_not, Bool.not_eq_true', Bool.not_eq_false', Bool.and_eq_true, Bool.or_eq_true, Bool.and_eq_false_iff, Bool.or_eq_false_iff] at c32
                      refine W.seq ?_
                      refine W.region ?_
                      refine WL.c rfl (o_bldC (cs := [(st [102, 105, 114, 115, 116]), (st [109, 116, 32])]) TI61 (Sizes.cons TI9 (Sizes.cons TI9 Sizes.nil)) rfl (lcp (show _ = Value.string _ from rfl) (lcp (show _ = Value.string _ from rfl) lnp)) rfl rfl ?_)
                      refine WL.u (o_stA TI61 rfl rfl rfl rfl (by assumption) rfl ?_)
                      intro ws hBs hos hss
                      replace hx := hx.trans' hos (fun _ h => h) (fun k hk he => by omega)
                      refine WL.c rfl (o_ash (show _ = Value.bool _ from rfl) ?_)
                      refine WL.nil ?_
                      refine W.ret ?_
                      refine retCT rfl TI61 rfl (show _ = Value.bool _ from rfl) rfl (cells_all (by assumption)) rfl ?_
                      exact ⟨by simp [decP, *], hx⟩
                    · try simp only [decide_eq_true_eq, decide_eq_false_iff_not, Bool.not_eq_true', Bool.not_eq_false', Bool.and_eq_true, Bool.or_eq_true, Bool.and_eq_false_iff, Bool.or_eq_false_iff] at c32
                      refine W.seq ?_
                      refine W.region ?_
                      refine WL.c rfl (o_eq rfl rfl ?_)
                      refine WL.c rfl (o_ash (show _ = Value.bool _ from rfl) ?_)
                      refine WL.nil ?_
                      refine W.cond rfl (fun c35 => ?_) (fun c35 => ?_)
                      · try simp only [decide_eq_true_eq, decide_eq_false_iff_not, Bool.not_eq_true', Bool.not_eq_false', Bool.and_eq_true, Bool.or_eq_true, Bool.and_eq_false_iff, Bool.or_eq_false_iff] at c35
                        refine W.seq ?_
                        refine W.region ?_
                        refine WL.c rfl (o_bldC (cs := [(st [115, 108, 111, 116, 115]), (st [32, 116, 32])]) TI61 (Sizes.cons TI9 (Sizes.cons TI9 Sizes.nil)) rfl (lcp (show _ = Value.string _ from rfl) (lcp (show _ = Value.string _ from rfl) lnp)) rfl rfl ?_)
                        refine WL.u (o_stA TI61 rfl rfl rfl rfl (by assumption) rfl ?_)
                        intro ws hBs hos hss
                        replace hx := hx.trans' hos (fun _ h => h) (fun k hk he => by omega)
                        refine WL.c rfl (o_ash (show _ = Value.bool _ from rfl) ?_)
                        refine WL.nil ?_
                        refine W.ret ?_
                        refine retCT rfl TI61 rfl (show _ = Value.bool _ from rfl) rfl (cells_all (by assumption)) rfl ?_
                        exact ⟨by simp [decP, *], hx⟩
                      · try simp only [decide_eq_true_eq, decide_eq_false_iff_not, Bool.not_eq_true', Bool.not_eq_false', Bool.and_eq_true, Bool.or_eq_true, Bool.and_eq_false_iff, Bool.or_eq_false_iff] at c35
                        refine W.seq ?_
                        refine W.region ?_
                        refine WL.c rfl (o_eq rfl rfl ?_)
                        refine WL.c rfl (o_ash (show _ = Value.bool _ from rfl) ?_)
                        refine WL.nil ?_
                        refine W.cond rfl (fun c38 => ?_) (fun c38 => ?_)
                        · try simp only [decide_eq_true_eq, decide_eq_false_iff_not, Bool.not_eq_true', Bool.not_eq_false', Bool.and_eq_true, Bool.or_eq_true, Bool.and_eq_false_iff, Bool.or_eq_false_iff] at c38
                          refine W.seq ?_
                          refine W.region ?_
                          refine WL.c rfl (o_bldC (cs := [(st [105, 116, 101, 109]), (st [109, 116, 32])]) TI61 (Sizes.cons TI9 (Sizes.cons TI9 Sizes.nil)) rfl (lcp (show _ = Value.string _ from rfl) (lcp (show _ = Value.string _ from rfl) lnp)) rfl rfl ?_)
                          refine WL.u (o_stA TI61 rfl rfl rfl rfl (by assumption) rfl ?_)
                          intro ws hBs hos hss
                          replace hx := hx.trans' hos (fun _ h => h) (fun k hk he => by omega)
                          refine WL.c rfl (o_ash (show _ = Value.bool _ from rfl) ?_)
                          refine WL.nil ?_
                          refine W.ret ?_
                          refine retCT rfl TI61 rfl (show _ = Value.bool _ from rfl) rfl (cells_all (by assumption)) rfl ?_
                          exact ⟨by simp [decP, *], hx⟩
                        · try simp only [decide_eq_true_eq, decide_eq_false_iff_not, Bool.not_eq_true', Bool.not_eq_false', Bool.and_eq_true, Bool.or_eq_true, Bool.and_eq_false_iff, Bool.or_eq_false_iff] at c38
                          refine W.seq ?_
                          refine W.region ?_
                          refine WL.c rfl (o_eq rfl rfl ?_)
                          refine WL.c rfl (o_ash (show _ = Value.bool _ from rfl) ?_)
                          refine WL.nil ?_
                          refine W.cond rfl (fun c41 => ?_) (fun c41 => ?_)
                          · try simp only [decide_eq_true_eq, decide_eq_false_iff_not, Bool.not_eq_true', Bool.not_eq_false', Bool.and_eq_true, Bool.or_eq_true, Bool.and_eq_false_iff, Bool.or_eq_false_iff] at c41
                            refine W.seq ?_
                            refine W.region ?_
                            refine WL.c rfl (o_bldC (cs := [(st [108, 101, 115, 115]), (st [109, 116, 32])]) TI61 (Sizes.cons TI9 (Sizes.cons TI9 Sizes.nil)) rfl (lcp (show _ = Value.string _ from rfl) (lcp (show _ = Value.string _ from rfl) lnp)) rfl rfl ?_)
                            refine WL.u (o_stA TI61 rfl rfl rfl rfl (by assumption) rfl ?_)
                            intro ws hBs hos hss
                            replace hx := hx.trans' hos (fun _ h => h) (fun k hk he => by omega)
                            refine WL.c rfl (o_ash (show _ = Value.bool _ from rfl) ?_)
                            refine WL.nil ?_
                            refine W.ret ?_
                            refine retCT rfl TI61 rfl (show _ = Value.bool _ from rfl) rfl (cells_all (by assumption)) rfl ?_
                            exact ⟨by simp [decP, *], hx⟩
                          · try simp only [decide_eq_true_eq, decide_eq_false_iff_not, Bool.not_eq_true', Bool.not_eq_false', Bool.and_eq_true, Bool.or_eq_true, Bool.and_eq_false_iff, Bool.or_eq_false_iff] at c41
                            refine W.seq ?_
                            refine W.region ?_
                            refine WL.c rfl (o_eq rfl rfl ?_)
                            refine WL.c rfl (o_ash (show _ = Value.bool _ from rfl) ?_)
                            refine WL.nil ?_
                            refine W.cond rfl (fun c44 => ?_) (fun c44 => ?_)
                            · try simp only [decide_eq_true_eq, decide_eq_false_iff_not, Bool.not_eq_true', Bool.not_eq_false', Bool.and_eq_true, Bool.or_eq_true, Bool.and_eq_false_iff, Bool.or_eq_false_iff] at c44
                              refine W.seq ?_
                              refine W.region ?_
                              refine WL.c rfl (o_bldC (cs := [(st [112, 97, 114, 116, 115]), (st [32, 116, 32])]) TI61 (Sizes.cons TI9 (Sizes.cons TI9 Sizes.nil)) rfl (lcp (show _ = Value.string _ from rfl) (lcp (show _ = Value.string _ from rfl) lnp)) rfl rfl ?_)
                              refine WL.u (o_stA TI61 rfl rfl rfl rfl (by assumption) rfl ?_)
                              intro ws hBs hos hss
                              replace hx := hx.trans' hos (fun _ h => h) (fun k hk he => by omega)
                              refine WL.c rfl (o_ash (show _ = Value.bool _ from rfl) ?_)
                              refine WL.nil ?_
                              refine W.ret ?_
                              refine retCT rfl TI61 rfl (show _ = Value.bool _ from rfl) rfl (cells_all (by assumption)) rfl ?_
                              exact ⟨by simp [decP, *], hx⟩
                            · try simp only [decide_eq_true_eq, decide_eq_false_iff_not, Bool.not_eq_true', Bool.not_eq_false', Bool.and_eq_true, Bool.or_eq_true, Bool.and_eq_false_iff, Bool.or_eq_false_iff] at c44
                              refine W.seq ?_
                              refine W.region ?_
                              refine WL.c rfl (o_eq rfl rfl ?_)
                              refine WL.c rfl (o_ash (show _ = Value.bool _ from rfl) ?_)
                              refine WL.nil ?_
                              refine W.cond rfl (fun c47 => ?_) (fun c47 => ?_)
                              · try simp only [decide_eq_true_eq, decide_eq_false_iff_not, Bool.not_eq_true', Bool.not_eq_false', Bool.and_eq_true, Bool.or_eq_true, Bool.and_eq_false_iff, Bool.or_eq_false_iff] at c47
                                refine W.seq ?_
                                refine W.region ?_
                                refine WL.c rfl (o_bldC (cs := [(st [99, 97, 108, 108]), (st [107, 32, 121])]) TI61 (Sizes.cons TI9 (Sizes.cons TI9 Sizes.nil)) rfl (lcp (show _ = Value.string _ from rfl) (lcp (show _ = Value.string _ from rfl) lnp)) rfl rfl ?_)
                                refine WL.u (o_stA TI61 rfl rfl rfl rfl (by assumption) rfl ?_)
                                intro ws hBs hos hss
                                replace hx := hx.trans' hos (fun _ h => h) (fun k hk he => by omega)
                                refine WL.c rfl (o_ash (show _ = Value.bool _ from rfl) ?_)
                                refine WL.nil ?_
                                refine W.ret ?_
                                refine retCT rfl TI61 rfl (show _ = Value.bool _ from rfl) rfl (cells_all (by assumption)) rfl ?_
                                exact ⟨by simp [decP, *], hx⟩
                              · try simp only [decide_eq_true_eq, decide_eq_false_iff_not, Bool.not_eq_true', Bool.not_eq_false', Bool.and_eq_true, Bool.or_eq_true, Bool.and_eq_false_iff, Bool.or_eq_false_iff] at c47
                                refine W.seq ?_
                                refine W.region ?_
                                refine WL.c rfl (o_eq rfl rfl ?_)
                                refine WL.c rfl (o_ash (show _ = Value.bool _ from rfl) ?_)
                                refine WL.nil ?_
                                refine W.cond rfl (fun c50 => ?_) (fun c50 => ?_)
                                · try simp only [decide_eq_true_eq, decide_eq_false_iff_not, Bool.not_eq_true', Bool.not_eq_false', Bool.and_eq_true, Bool.or_eq_true, Bool.and_eq_false_iff, Bool.or_eq_false_iff] at c50
                                  refine W.seq ?_
                                  refine W.region ?_
                                  refine WL.c rfl (o_bldC (cs := [(st [112, 97, 114, 116]), (st [107, 112, 121])]) TI61 (Sizes.cons TI9 (Sizes.cons TI9 Sizes.nil)) rfl (lcp (show _ = Value.string _ from rfl) (lcp (show _ = Value.string _ from rfl) lnp)) rfl rfl ?_)
                                  refine WL.u (o_stA TI61 rfl rfl rfl rfl (by assumption) rfl ?_)
                                  intro ws hBs hos hss
                                  replace hx := hx.trans' hos (fun _ h => h) (fun k hk he => by omega)
                                  refine WL.c rfl (o_ash (show _ = Value.bool _ from rfl) ?_)
                                  refine WL.nil ?_
                                  refine W.ret ?_
                                  refine retCT rfl TI61 rfl (show _ = Value.bool _ from rfl) rfl (cells_all (by assumption)) rfl ?_
                                  exact ⟨by simp [decP, *], hx⟩
                                · try simp only [decide_eq_true_eq, decide_eq_false_iff_not, Bool.not_eq_true', Bool.not_eq_false', Bool.and_eq_true, Bool.or_eq_true, Bool.and_eq_false_iff, Bool.or_eq_false_iff] at c50
                                  refine W.seq ?_
                                  refine W.region ?_
                                  refine WL.c rfl (o_eq rfl rfl ?_)
                                  refine WL.c rfl (o_ash (show _ = Value.bool _ from rfl) ?_)
                                  refine WL.nil ?_
                                  refine W.cond rfl (fun c53 => ?_) (fun c53 => ?_)
                                  · try simp only [decide_eq_true_eq, decide_eq_false_iff_not, Bool.not_eq_true', Bool.not_eq_false', Bool.and_eq_true, Bool.or_eq_true, Bool.and_eq_false_iff, Bool.or_eq_false_iff] at c53
                                    refine W.seq ?_
                                    refine W.region ?_
                                    refine WL.c rfl (o_bldC (cs := [(st [116, 97, 105, 108]), (st [112, 32, 32])]) TI61 (Sizes.cons TI9 (Sizes.cons TI9 Sizes.nil)) rfl (lcp (show _ = Value.string _ from rfl) (lcp (show _ = Value.string _ from rfl) lnp)) rfl rfl ?_)
                                    refine WL.u (o_stA TI61 rfl rfl rfl rfl (by assumption) rfl ?_)
                                    intro ws hBs hos hss
                                    replace hx := hx.trans' hos (fun _ h => h) (fun k hk he => by omega)
                                    refine WL.c rfl (o_ash (show _ = Value.bool _ from rfl) ?_)
                                    refine WL.nil ?_
                                    refine W.ret ?_
                                    refine retCT rfl TI61 rfl (show _ = Value.bool _ from rfl) rfl (cells_all (by assumption)) rfl ?_
                                    exact ⟨by simp [decP, *], hx⟩
                                  · try simp only [decide_eq_true_eq, decide_eq_false_iff_not, Bool.not_eq_true', Bool.not_eq_false', Bool.and_eq_true, Bool.or_eq_true, Bool.and_eq_false_iff, Bool.or_eq_false_iff] at c53
                                    refine W.skip ?_
                                    refine W.seq ?_
                                    refine W.region ?_
                                    refine WL.c rfl (o_mvh (show _ = Value.int _ _ from rfl) ?_)
                                    refine WL.c rfl (o_call Tryd.call69 (lc rfl ln) ((shared_spec op _).mono ?_))
                                    rintro v57 w57 ⟨rfl, hx57⟩
                                    replace hC2 := hx57.blk hC2 (fun h => h)
                                    replace hx := hx.tr hx57
                                    refine WL.c rfl (o_ext rfl rfl ?_)
                                    refine WL.c rfl (o_ext rfl rfl ?_)
                                    refine WL.u (o_stA TI61 rfl rfl rfl rfl (by assumption) rfl ?_)
                                    intro ws hBs hos hss
                                    replace hx := hx.trans' hos (fun _ h => h) (fun k hk he => by omega)
                                    refine WL.c rfl (o_ash (show _ = Value.bool _ from rfl) ?_)
                                    refine WL.nil ?_
                                    refine W.ret ?_
                                    refine retCT rfl TI61 rfl (show _ = Value.bool _ from rfl) rfl (cells_all (by assumption)) rfl ?_
                                    exact ⟨by simp [decP, *], hx⟩
set_option maxHeartbeats 4000000 in
theorem encodes_spec (op : Int) (w0 : World) : Ca Tryd.prog 55 #[.int .i64 op] w0 (fun r w' => r = .tuple #[.agg #[st (encP op).1, st (encP op).2.1], .bool (encP op).2.2] ∧ Ext w0 w') := by
  refine Ca.of Tryd.func55 Tryd.ntmps55 rfl rfl ?_
  refine W.seq ?_
  refine W.region ?_
  refine WL.c rfl (o_alB TI61 ?_)
  intro w2 hC2 hx2 hs2
  obtain ⟨b2, hb2⟩ : ∃ b, b = w0.heap.size := ⟨_, rfl⟩
  rw [← hb2] at hC2 ⊢
  replace hC2 : w2.heap[b2]? = some (.cells ([st [], st []]).toArray 61 (0, 0)) := hC2
  have hx : Ext w0 w2 := hx2
  refine WL.c rfl (o_ash (show _ = Value.bool _ from rfl) ?_)
  refine WL.nil ?_
  refine W.seq ?_
  refine W.seq ?_
  refine W.region ?_
  refine WL.c rfl (o_mvh (show _ = Value.int _ _ from rfl) ?_)
  refine WL.nil ?_
  refine W.block ?_
  refine W.seq ?_
  refine W.region ?_
  refine WL.c rfl (o_eq rfl rfl ?_)
  refine WL.c rfl (o_ash (show _ = Value.bool _ from rfl) ?_)
  refine WL.nil ?_
  refine W.cond rfl (fun c5 => ?_) (fun c5 => ?_)
  · try simp only [decide_eq_true_eq, decide_eq_false_iff_not, Bool.not_eq_true', Bool.not_eq_false', Bool.and_eq_true, Bool.or_eq_true, Bool.and_eq_false_iff, Bool.or_eq_false_iff] at c5
    refine W.seq ?_
    refine W.region ?_
    refine WL.c rfl (o_bldC (cs := [(st [110, 117, 109, 98, 101, 114]), (st [80, 119, 32])]) TI61 (Sizes.cons TI9 (Sizes.cons TI9 Sizes.nil)) rfl (lcp (show _ = Value.string _ from rfl) (lcp (show _ = Value.string _ from rfl) lnp)) rfl rfl ?_)
    refine WL.u (o_stA TI61 rfl rfl rfl rfl (by assumption) rfl ?_)
    intro ws hBs hos hss
    replace hx := hx.trans' hos (fun _ h => h) (fun k hk he => by omega)
    refine WL.c rfl (o_ash (show _ = Value.bool _ from rfl) ?_)
    refine WL.nil ?_
    refine W.ret ?_
    refine retCT rfl TI61 rfl (show _ = Value.bool _ from rfl) rfl (cells_all (by assumption)) rfl ?_
    exact ⟨by simp [encP, *], hx⟩
  · try simp only [decide_eq_true_eq, decide_eq_false_iff_not, Bool.not_eq_true', Bool.not_eq_false', Bool.and_eq_true, Bool.or_eq_true, Bool.and_eq_false_iff, Bool.or_eq_false_iff] at c5
    refine W.seq ?_
    refine W.region ?_
    refine WL.c rfl (o_eq rfl rfl ?_)
    refine WL.c rfl (o_ash (show _ = Value.bool _ from rfl) ?_)
    refine WL.nil ?_
    refine W.cond rfl (fun c8 => ?_) (fun c8 => ?_)
    · try simp only [decide_eq_true_eq, decide_eq_false_iff_not, Bool.not_eq_true', Bool.not_eq_false', Bool.and_eq_true, Bool.or_eq_true, Bool.and_eq_false_iff, Bool.or_eq_false_iff] at c8
      refine W.seq ?_
      refine W.region ?_
      refine WL.c rfl (o_bldC (cs := [(st [110, 117, 109, 98, 101, 114, 115]), (st [113, 110, 119])]) TI61 (Sizes.cons TI9 (Sizes.cons TI9 Sizes.nil)) rfl (lcp (show _ = Value.string _ from rfl) (lcp (show _ = Value.string _ from rfl) lnp)) rfl rfl ?_)
      refine WL.u (o_stA TI61 rfl rfl rfl rfl (by assumption) rfl ?_)
      intro ws hBs hos hss
      replace hx := hx.trans' hos (fun _ h => h) (fun k hk he => by omega)
      refine WL.c rfl (o_ash (show _ = Value.bool _ from rfl) ?_)
      refine WL.nil ?_
      refine W.ret ?_
      refine retCT rfl TI61 rfl (show _ = Value.bool _ from rfl) rfl (cells_all (by assumption)) rfl ?_
      exact ⟨by simp [encP, *], hx⟩
    · try simp only [decide_eq_true_eq, decide_eq_false_iff_not, Bool.not_eq_true', Bool.not_eq_false', Bool.and_eq_true, Bool.or_eq_true, Bool.and_eq_false_iff, Bool.or_eq_false_iff] at c8
      refine W.seq ?_
      refine W.region ?_
      refine WL.c rfl (o_eq rfl rfl ?_)
      refine WL.c rfl (o_ash (show _ = Value.bool _ from rfl) ?_)
      refine WL.nil ?_
      refine W.cond rfl (fun c11 => ?_) (fun c11 => ?_)
      · try simp only [decide_eq_true_eq, decide_eq_false_iff_not, Bool.not_eq_true', Bool.not_eq_false', Bool.and_eq_true, Bool.or_eq_true, Bool.and_eq_false_iff, Bool.or_eq_false_iff] at c11
        refine W.seq ?_
        refine W.region ?_
        refine WL.c rfl (o_bldC (cs := [(st [102, 108, 97, 103]), (st [80, 32, 32])]) TI61 (Sizes.cons TI9 (Sizes.cons TI9 Sizes.nil)) rfl (lcp (show _ = Value.string _ from rfl) (lcp (show _ = Value.string _ from rfl) lnp)) rfl rfl ?_)
        refine WL.u (o_stA TI61 rfl rfl rfl rfl (by assumption) rfl ?_)
        intro ws hBs hos hss
        replace hx := hx.trans' hos (fun _ h => h) (fun k hk he => by omega)
        refine WL.c rfl (o_ash (show _ = Value.bool _ from rfl) ?_)
        refine WL.nil ?_
        refine W.ret ?_
        refine retCT rfl TI61 rfl (show _ = Value.bool _ from rfl) rfl (cells_all (by assumption)) rfl ?_
        exact ⟨by simp [encP, *], hx⟩
      · try simp only [decide_eq_true_eq, decide_eq_false_iff_not, Bool.not_eq_true', Bool.not_eq_false', Bool.and_eq_true, Bool.or_eq_true, Bool.and_eq_false_iff, Bool.or_eq_false_iff] at c11
        refine W.seq ?_
        refine W.region ?_
        refine WL.c rfl (o_eq rfl rfl ?_)
        refine WL.c rfl (o_ash (show _ = Value.bool _ from rfl) ?_)
        refine WL.nil ?_
        refine W.cond rfl (fun c14 => ?_) (fun c14 => ?_)
        · try simp only [decide_eq_true_eq, decide_eq_false_iff_not, Bool.not_eq_true', Bool.not_eq_false', Bool.and_eq_true, Bool.or_eq_true, Bool.and_eq_false_iff, Bool.or_eq_false_iff] at c14
          refine W.seq ?_
          refine W.region ?_
          refine WL.c rfl (o_bldC (cs := [(st [108, 101, 98]), (st [32, 32, 32])]) TI61 (Sizes.cons TI9 (Sizes.cons TI9 Sizes.nil)) rfl (lcp (show _ = Value.string _ from rfl) (lcp (show _ = Value.string _ from rfl) lnp)) rfl rfl ?_)
          refine WL.u (o_stA TI61 rfl rfl rfl rfl (by assumption) rfl ?_)
          intro ws hBs hos hss
          replace hx := hx.trans' hos (fun _ h => h) (fun k hk he => by omega)
          refine WL.c rfl (o_ash (show _ = Value.bool _ from rfl) ?_)
          refine WL.nil ?_
          refine W.ret ?_
          refine retCT rfl TI61 rfl (show _ = Value.bool _ from rfl) rfl (cells_all (by assumption)) rfl ?_
          exact ⟨by simp [encP, *], hx⟩
        · try simp only [decide_eq_true_eq, decide_eq_false_iff_not, Bool.not_eq_true', Bool.not_eq_false', Bool.and_eq_true, Bool.or_eq_true, Bool.and_eq_false_iff, Bool.or_eq_false_iff] at c14
          refine W.seq ?_
          refine W.region ?_
          refine WL.c rfl (o_eq rfl rfl ?_)
          refine WL.c rfl (o_ash (show _ = Value.bool _ from rfl) ?_)
          refine WL.nil ?_
          refine W.cond rfl (fun c17 => ?_) (fun c17 => ?_)
          · try simp only [decide_eq_true_eq, decide_eq_false_iff_not, Bool.not_eq_true', Bool.not_eq_false', Bool.and_eq_true, Bool.or_eq_true, Bool.and_eq_false_iff, Bool.or_eq_false_iff] at c17
            refine W.seq ?_
            refine W.region ?_
            refine WL.c rfl (o_bldC (cs := [(st [109, 97, 110, 121]), (st [109, 32, 32])]) TI61 (Sizes.cons TI9 (Sizes.cons TI9 Sizes.nil)) rfl (lcp (show _ = Value.string _ from rfl) (lcp (show _ = Value.string _ from rfl) lnp)) rfl rfl ?_)
            refine WL.u (o_stA TI61 rfl rfl rfl rfl (by assumption) rfl ?_)
            intro ws hBs hos hss
            replace hx := hx.trans' hos (fun _ h => h) (fun k hk he => by omega)
            refine WL.c rfl (o_ash (show _ = Value.bool _ from rfl) ?_)
            refine WL.nil ?_
            refine W.ret ?_
            refine retCT rfl TI61 rfl (show _ = Value.bool _ from rfl) rfl (cells_all (by assumption)) rfl ?_
            exact ⟨by simp [encP, *], hx⟩
          · try simp only [decide_eq_true_eq, decide_eq_false_iff_not, Bool.not_eq_true', Bool.not_eq_false', Bool.and_eq_true, Bool.or_eq_true, Bool.and_eq_false_iff, Bool.or_eq_false_iff] at c17
            refine W.seq ?_
            refine W.region ?_
            refine WL.c rfl (o_eq rfl rfl ?_)
            refine WL.c rfl (o_ash (show _ = Value.bool _ from rfl) ?_)
            refine WL.nil ?_
            refine W.cond rfl (fun c20 => ?_) (fun c20 => ?_)
            · try simp only [decide_eq_true_eq, decide_eq_false_iff_not, Bool.not_eq_true', Bool.not_eq_false', Bool.and_eq_true, Bool.or_eq_true, Bool.and_eq_false_iff, Bool.or_eq_false_iff] at c20
              refine W.seq ?_
              refine W.region ?_
              refine WL.c rfl (o_bldC (cs := [(st [117, 112, 116, 111]), (st [109, 32, 32])]) TI61 (Sizes.cons TI9 (Sizes.cons TI9 Sizes.nil)) rfl (lcp (show _ = Value.string _ from rfl) (lcp (show _ = Value.string _ from rfl) lnp)) rfl rfl ?_)
              refine WL.u (o_stA TI61 rfl rfl rfl rfl (by assumption) rfl ?_)
              intro ws hBs hos hss
              replace hx := hx.trans' hos (fun _ h => h) (fun k hk he => by omega)
              refine WL.c rfl (o_ash (show _ = Value.bool _ from rfl) ?_)
              refine WL.nil ?_
              refine W.ret ?_
              refine retCT rfl TI61 rfl (show _ = Value.bool _ from rfl) rfl (cells_all (by assumption)) rfl ?_
              exact ⟨by simp [encP, *], hx⟩
            · try simp only [decide_eq_true_eq, decide_eq_false_iff_not, Bool.not_eq_true', Bool.not_eq_false', Bool.and_eq_true, Bool.or_eq_true, Bool.and_eq_false_iff, Bool.or_eq_false_iff] at c20
              refine W.seq ?_
              refine W.region ?_
              refine WL.c rfl (o_eq rfl rfl ?_)
              refine WL.c rfl (o_ash (show _ = Value.bool _ from rfl) ?_)
              refine WL.nil ?_
              refine W.cond rfl (fun c23 => ?_) (fun c23 => ?_)
              · try simp only [decide_eq_true_eq, decide_eq_false_iff_not, Bool.not_eq_true', Bool.not_eq_false', Bool.and_eq_true, Bool.or_eq_true, Bool.and_eq_false_iff, Bool.or_eq_false_iff] at c23
                refine W.seq ?_
                refine W.region ?_
                refine WL.c rfl (o_bldC (cs := [(st [102, 105, 101, 108, 100, 115]), (st [115, 32, 32])]) TI61 (Sizes.cons TI9 (Sizes.cons TI9 Sizes.nil)) rfl (lcp (show _ = Value.string _ from rfl) (lcp (show _ = Value.string _ from rfl) lnp)) rfl rfl ?_)
                refine WL.u (o_stA TI61 rfl rfl rfl rfl (by assumption) rfl ?_)
                intro ws hBs hos hss
                replace hx := hx.trans' hos (fun _ h => h) (fun k hk he => by omega)
                refine WL.c rfl (o_ash (show _ = Value.bool _ from rfl) ?_)
                refine WL.nil ?_
                refine W.ret ?_
                refine retCT rfl TI61 rfl (show _ = Value.bool _ from rfl) rfl (cells_all (by assumption)) rfl ?_
                exact ⟨by simp [encP, *], hx⟩
              · try simp only [decide_eq_true_eq, decide_eq_false_iff_not, Bool.not_eq_true', Bool.not_eq_false', Bool.and_eq_true, Bool.or_eq_true, Bool.and_eq_false_iff, Bool.or_eq_false_iff] at c23
                refine W.seq ?_
                refine W.region ?_
                refine WL.c rfl (o_eq rfl rfl ?_)
                refine WL.c rfl (o_ash (show _ = Value.bool _ from rfl) ?_)
                refine WL.nil ?_
                refine W.cond rfl (fun c26 => ?_) (fun c26 => ?_)
                · try simp only [decide_eq_true_eq, decide_eq_false_iff_not, Bool.not_eq_true', Bool.not_eq_false', Bool.and_eq_true, Bool.or_eq_true, Bool.and_eq_false_iff, Bool.or_eq_false_iff] at c26
                  refine W.seq ?_
                  refine W.region ?_
                  refine WL.c rfl (o_bldC (cs := [(st [109, 97, 121, 98, 101]), (st [32, 116, 32])]) TI61 (Sizes.cons TI9 (Sizes.cons TI9 Sizes.nil)) rfl (lcp (show _ = Value.string _ from rfl) (lcp (show _ = Value.string _ from rfl) lnp)) rfl rfl ?_)
                  refine WL.u (o_stA TI61 rfl rfl rfl rfl (by assumption) rfl ?_)
                  intro ws hBs hos hss
                  replace hx := hx.trans' hos (fun _ h => h) (fun k hk he => by omega)
                  refine WL.c rfl (o_ash (show _ = Value.bool _ from rfl) ?_)
                  refine WL.nil ?_
                  refine W.ret ?_
                  refine retCT rfl TI61 rfl (show _ = Value.bool _ from rfl) rfl (cells_all (by assumption)) rfl ?_
                  exact ⟨by simp [encP, *], hx⟩
                · try simp only [decide_eq_true_eq, decide_eq_false_iff_not, Bool.not_eq_true', Bool.not_eq_false', Bool.and_eq_true, Bool.or_eq_true, Bool.and_eq_false_iff, Bool.or_eq_false_iff] at c26
                  refine W.seq ?_
                  refine W.region ?_
                  refine WL.c rfl (o_eq rfl rfl ?_)
                  refine WL.c rfl (o_ash (show _ = Value.bool _ from rfl) ?_)
                  refine WL.nil ?_
                  refine W.cond rfl (fun c29 => ?_) (fun c29 => ?_)
                  · try simp only [decide_eq_true_eq, decide_eq_false_iff_not, Bool.not_eq_true', Bool.not_eq_false', Bool.and_eq_true, Bool.or_eq_true, Bool.and_eq_false_iff, Bool.or_eq_false_iff] at c29
                    refine W.seq ?_
                    refine W.region ?_
                    refine WL.c rfl (o_bldC (cs := [(st [99, 104, 111, 105, 99, 101]), (st [97, 32, 32])]) TI61 (Sizes.cons TI9 (Sizes.cons TI9 Sizes.nil)) rfl (lcp (show _ = Value.string _ from rfl) (lcp (show _ = Value.string _ from rfl) lnp)) rfl rfl ?_)
                    refine WL.u (o_stA TI61 rfl rfl rfl rfl (by assumption) rfl ?_)
                    intro ws hBs hos hss
                    replace hx := hx.trans' hos (fun _ h => h) (fun k hk he => by omega)
                    refine WL.c rfl (o_ash (show _ = Value.bool _ from rfl) ?_)
                    refine WL.nil ?_
                    refine W.ret ?_
                    refine retCT rfl TI61 rfl (show _ = Value.bool _ from rfl) rfl (cells_all (by assumption)) rfl ?_
                    exact ⟨by simp [encP, *], hx⟩
                  · try simp only [decide_eq_true_eq, decide_eq_false_iff_not, Bool.not_eq_true', Bool.not_eq_false', Bool.and_eq_true, Bool.or_eq_true, Bool.and_eq_false_iff, Bool.or_eq_false_iff] at c29
                    refine W.seq ?_
                    refine W.region ?_
                    refine WL.c rfl (o_eq rfl rfl ?_)
                    refine WL.c rfl (o_ash (show _ = Value.bool _ from rfl) ?_)
                    refine WL.nil ?_
                    refine W.cond rfl (fun c32 => ?_) (fun c32 => ?_)
                    · try simp only [decide_eq_true_eq, decide_eq_false_iff_not, Bool.not_eq_true', Bool.not_eq_false', Bool.and_eq_true, Bool.or_eq_true, Bool.and_eq_false_iff, Bool.or_eq_false_iff] at c32
                      refine W.seq ?_
                      refine W.region ?_
                      refine WL.c rfl (o_bldC (cs := [(st [114, 111, 111, 109]), (st [98, 32, 32])]) TI61 (Sizes.cons TI9 (Sizes.cons TI9 Sizes.nil)) rfl (lcp (show _ = Value.string _ from rfl) (lcp (show _ = Value.string _ from rfl) lnp)) rfl rfl ?_)
                      refine WL.u (o_stA TI61 rfl rfl rfl rfl (by assumption) rfl ?_)
                      intro ws hBs hos hss
                      replace hx := hx.trans' hos (fun _ h => h) (fun k hk he => by omega)
                      refine WL.c rfl (o_ash (show _ = Value.bool _ from rfl) ?_)
                      refine WL.nil ?_
                      refine W.ret ?_
                      refine retCT rfl TI61 rfl (show _ = Value.bool _ from rfl) rfl (cells_all (by assumption)) rfl ?_
                      exact ⟨by simp [encP, *], hx⟩
                    · try simp only [decide_eq_true_eq, decide_eq_false_iff_not, Bool.not_eq_true', Bool.not_eq_false', Bool.and_eq_true, Bool.or_eq_true, Bool.and_eq_false_iff, Bool.or_eq_false_iff] at c32
                      refine W.seq ?_
                      refine W.region ?_
                      refine WL.c rfl (o_eq rfl rfl ?_)
                      refine WL.c rfl (o_ash (show _ = Value.bool _ from rfl) ?_)
                      refine WL.nil ?_
                      refine W.cond rfl (fun c35 => ?_) (fun c35 => ?_)
                      · try simp only [decide_eq_true_eq, decide_eq_false_iff_not, Bool.not_eq_true', Bool.not_eq_false', Bool.and_eq_true, Bool.or_eq_true, Bool.and_eq_false_iff, Bool.or_eq_false_iff] at c35
                        refine W.seq ?_
                        refine W.region ?_
                        refine WL.c rfl (o_bldC (cs := [(st [115, 108, 111, 116]), (st [80, 32, 32])]) TI61 (Sizes.cons TI9 (Sizes.cons TI9 Sizes.nil)) rfl (lcp (show _ = Value.string _ from rfl) (lcp (show _ = Value.string _ from rfl) lnp)) rfl rfl ?_)
                        refine WL.u (o_stA TI61 rfl rfl rfl rfl (by assumption) rfl ?_)
                        intro ws hBs hos hss
                        replace hx := hx.trans' hos (fun _ h => h) (fun k hk he => by omega)
                        refine WL.c rfl (o_ash (show _ = Value.bool _ from rfl) ?_)
                        refine WL.nil ?_
                        refine W.ret ?_
                        refine retCT rfl TI61 rfl (show _ = Value.bool _ from rfl) rfl (cells_all (by assumption)) rfl ?_
                        exact ⟨by simp [encP, *], hx⟩
                      · try simp only [decide_eq_true_eq, decide_eq_false_iff_not, Bool.not_eq_true', Bool.not_eq_false', Bool.and_eq_true, Bool.or_eq_true, Bool.and_eq_false_iff, Bool.or_eq_false_iff] at c35
                        refine W.seq ?_
                        refine W.region ?_
                        refine WL.c rfl (o_eq rfl rfl ?_)
                        refine WL.c rfl (o_ash (show _ = Value.bool _ from rfl) ?_)
                        refine WL.nil ?_
                        refine W.cond rfl (fun c38 => ?_) (fun c38 => ?_)
                        · try simp only [decide_eq_true_eq, decide_eq_false_iff_not, Bool.not_eq_true', Bool.not_eq_false', Bool.and_eq_true, Bool.or_eq_true, Bool.and_eq_false_iff, Bool.or_eq_false_iff] at c38
                          refine W.seq ?_
                          refine W.region ?_
                          refine WL.c rfl (o_bldC (cs := [(st [101, 110, 116, 101, 114]), (st [113, 32, 121])]) TI61 (Sizes.cons TI9 (Sizes.cons TI9 Sizes.nil)) rfl (lcp (show _ = Value.string _ from rfl) (lcp (show _ = Value.string _ from rfl) lnp)) rfl rfl ?_)
                          refine WL.u (o_stA TI61 rfl rfl rfl rfl (by assumption) rfl ?_)
                          intro ws hBs hos hss
                          replace hx := hx.trans' hos (fun _ h => h) (fun k hk he => by omega)
                          refine WL.c rfl (o_ash (show _ = Value.bool _ from rfl) ?_)
                          refine WL.nil ?_
                          refine W.ret ?_
                          refine retCT rfl TI61 rfl (show _ = Value.bool _ from rfl) rfl (cells_all (by assumption)) rfl ?_
                          exact ⟨by simp [encP, *], hx⟩
                        · try simp only [decide_eq_true_eq, decide_eq_false_iff_not, Bool.not_eq_true', Bool.not_eq_false', Bool.and_eq_true, Bool.or_eq_true, Bool.and_eq_false_iff, Bool.or_eq_false_iff] at c38
                          refine W.seq ?_
                          refine W.region ?_
                          refine WL.c rfl (o_eq rfl rfl ?_)
                          refine WL.c rfl (o_ash (show _ = Value.bool _ from rfl) ?_)
                          refine WL.nil ?_
                          refine W.cond rfl (fun c41 => ?_) (fun c41 => ?_)
                          · try simp only [decide_eq_true_eq, decide_eq_false_iff_not, Bool.not_eq_true', Bool.not_eq_false', Bool.and_eq_true, Bool.or_eq_true, Bool.and_eq_false_iff, Bool.or_eq_false_iff] at c41
                            refine W.seq ?_
                            refine W.region ?_
                            refine WL.c rfl (o_bldC (cs := [(st [101, 97, 99, 104]), (st [122, 32, 121])]) TI61 (Sizes.cons TI9 (Sizes.cons TI9 Sizes.nil)) rfl (lcp (show _ = Value.string _ from rfl) (lcp (show _ = Value.string _ from rfl) lnp)) rfl rfl ?_)
                            refine WL.u (o_stA TI61 rfl rfl rfl rfl (by assumption) rfl ?_)
                            intro ws hBs hos hss
                            replace hx := hx.trans' hos (fun _ h => h) (fun k hk he => by omega)
                            refine WL.c rfl (o_ash (show _ = Value.bool _ from rfl) ?_)
                            refine WL.nil ?_
                            refine W.ret ?_
                            refine retCT rfl TI61 rfl (show _ = Value.bool _ from rfl) rfl (cells_all (by assumption)) rfl ?_
                            exact ⟨by simp [encP, *], hx⟩
                          · try simp only [decide_eq_true_eq, decide_eq_false_iff_not, Bool.not_eq_true', Bool.not_eq_false', Bool.and_eq_true, Bool.or_eq_true, Bool.and_eq_false_iff, Bool.or_eq_false_iff] at c41
                            refine W.seq ?_
                            refine W.region ?_
                            refine WL.c rfl (o_eq rfl rfl ?_)
                            refine WL.c rfl (o_ash (show _ = Value.bool _ from rfl) ?_)
                            refine WL.nil ?_
                            refine W.cond rfl (fun c44 => ?_) (fun c44 => ?_)
                            · try simp only [decide_eq_true_eq, decide_eq_false_iff_not, Bool.not_eq_true', Bool.not_eq_false', Bool.and_eq_true, Bool.or_eq_true, Bool.and_eq_false_iff, Bool.or_eq_false_iff] at c44
                              refine W.seq ?_
                              refine W.region ?_
                              refine WL.c rfl (o_bldC (cs := [(st [97, 112, 112, 101, 110, 100]), (st [32, 32, 121])]) TI61 (Sizes.cons TI9 (Sizes.cons TI9 Sizes.nil)) rfl (lcp (show _ = Value.string _ from rfl) (lcp (show _ = Value.string _ from rfl) lnp)) rfl rfl ?_)
                              refine WL.u (o_stA TI61 rfl rfl rfl rfl (by assumption) rfl ?_)
                              intro ws hBs hos hss
                              replace hx := hx.trans' hos (fun _ h => h) (fun k hk he => by omega)
                              refine WL.c rfl (o_ash (show _ = Value.bool _ from rfl) ?_)
                              refine WL.nil ?_
                              refine W.ret ?_
                              refine retCT rfl TI61 rfl (show _ = Value.bool _ from rfl) rfl (cells_all (by assumption)) rfl ?_
                              exact ⟨by simp [encP, *], hx⟩
                            · try simp only [decide_eq_true_eq, decide_eq_false_iff_not, Bool.not_eq_true', Bool.not_eq_false', Bool.and_eq_true, Bool.or_eq_true, Bool.and_eq_false_iff, Bool.or_eq_false_iff] at c44
                              refine W.seq ?_
                              refine W.region ?_
                              refine WL.c rfl (o_eq rfl rfl ?_)
                              refine WL.c rfl (o_ash (show _ = Value.bool _ from rfl) ?_)
                              refine WL.nil ?_
                              refine W.cond rfl (fun c47 => ?_) (fun c47 => ?_)
                              · try simp only [decide_eq_true_eq, decide_eq_false_iff_not, Bool.not_eq_true', Bool.not_eq_false', Bool.and_eq_true, Bool.or_eq_true, Bool.and_eq_false_iff, Bool.or_eq_false_iff] at c47
                                refine W.seq ?_
                                refine W.region ?_
                                refine WL.c rfl (o_bldC (cs := [(st [97, 103, 97, 105, 110]), (st [32, 116, 32])]) TI61 (Sizes.cons TI9 (Sizes.cons TI9 Sizes.nil)) rfl (lcp (show _ = Value.string _ from rfl) (lcp (show _ = Value.string _ from rfl) lnp)) rfl rfl ?_)
                                refine WL.u (o_stA TI61 rfl rfl rfl rfl (by assumption) rfl ?_)
                                intro ws hBs hos hss
                                replace hx := hx.trans' hos (fun _ h => h) (fun k hk he => by omega)
                                refine WL.c rfl (o_ash (show _ = Value.bool _ from rfl) ?_)
                                refine WL.nil ?_
                                refine W.ret ?_
                                refine retCT rfl TI61 rfl (show _ = Value.bool _ from rfl) rfl (cells_all (by assumption)) rfl ?_
                                exact ⟨by simp [encP, *], hx⟩
                              · try simp only [decide_eq_true_eq, decide_eq_false_iff_not, Bool.not_eq_true', Bool.not_eq_false', Bool.and_eq_true, Bool.or_eq_true, Bool.and_eq_false_iff, Bool.or_eq_false_iff] at c47
                                refine W.skip ?_
                                refine W.seq ?_
                                refine W.region ?_
                                refine WL.c rfl (o_mvh (show _ = Value.int _ _ from rfl) ?_)
                                refine WL.c rfl (o_call Tryd.call69 (lc rfl ln) ((shared_spec op _).mono ?_))
                                rintro v51 w51 ⟨rfl, hx51⟩
                                replace hC2 := hx51.blk hC2 (fun h => h)
                                replace hx := hx.tr hx51
                                refine WL.c rfl (o_ext rfl rfl ?_)
                                refine WL.c rfl (o_ext rfl rfl ?_)
                                refine WL.u (o_stA TI61 rfl rfl rfl rfl (by assumption) rfl ?_)
                                intro ws hBs hos hss
                                replace hx := hx.trans' hos (fun _ h => h) (fun k hk he => by omega)
                                refine WL.c rfl (o_ash (show _ = Value.bool _ from rfl) ?_)
                                refine WL.nil ?_
                                refine W.ret ?_
                                refine retCT rfl TI61 rfl (show _ = Value.bool _ from rfl) rfl (cells_all (by assumption)) rfl ?_
                                exact ⟨by simp [encP, *], hx⟩
theorem in_spec (x lo hi : Int) (w0 : World) : Ca Tryd.prog 25 #[.int .i64 x, .int .i64 lo, .int .i64 hi] w0 (fun r w' => r = .bool (decide (lo ≤ x) && decide (x ≤ hi)) ∧ w' = w0) := by
  refine Ca.of Tryd.func25 Tryd.ntmps25 rfl rfl ?_
  refine W.seq ?_
  refine W.region ?_
  refine WL.c rfl (o_ash (show _ = Value.bool _ from rfl) ?_)
  refine WL.nil ?_
  refine W.seq ?_
  refine W.region ?_
  refine WL.c rfl (o_mvh (show _ = Value.int _ _ from rfl) ?_)
  refine WL.c rfl (o_mvh (show _ = Value.int _ _ from rfl) ?_)
  refine WL.c rfl (o_ge rfl rfl ?_)
  refine WL.c rfl (o_mvh (show _ = Value.bool _ from rfl) ?_)
  refine WL.sp 3 rfl (fun g10 => ?_) (fun g10 => ?_)
  · skip
    refine WL.g rfl (g10) rfl (o_mvh (show _ = Value.int _ _ from rfl) ?_)
    refine WL.g rfl (g10) rfl (o_mvh (show _ = Value.int _ _ from rfl) ?_)
    refine WL.g rfl (g10) rfl (o_le rfl rfl ?_)
    refine WL.c rfl (o_pickA rfl rfl ?_)
    refine WL.c rfl (o_ash (show _ = Value.bool _ from rfl) ?_)
    refine WL.nil ?_
    refine W.ret ?_
    refine ret1v rfl (show _ = Value.bool _ from rfl) ?_
    exact ⟨congrArg Value.bool (by first | (simp; done) | (simp_all; intros; omega)), rfl⟩
  · skip
    refine WL.s rfl (g10) rfl ?_
    refine WL.s rfl (g10) rfl ?_
    refine WL.s rfl (g10) rfl ?_
    refine WL.c rfl (o_pickF rfl (g10) ?_)
    refine WL.c rfl (o_ash (show _ = Value.bool _ from rfl) ?_)
    refine WL.nil ?_
    refine W.ret ?_
    refine ret1v rfl (show _ = Value.bool _ from rfl) ?_
    exact ⟨congrArg Value.bool (by first | (simp; done) | (simp_all; intros; omega)), rfl⟩
theorem rin_spec (x lo hi : Int) (w0 : World) : Ca Tryd.prog 60 #[.int .i64 x, .int .i64 lo, .int .i64 hi] w0 (fun r w' => r = .bool (decide (lo ≤ x) && decide (x ≤ hi)) ∧ w' = w0) := by
  refine Ca.of Tryd.func60 Tryd.ntmps60 rfl rfl ?_
  refine W.seq ?_
  refine W.region ?_
  refine WL.c rfl (o_ash (show _ = Value.bool _ from rfl) ?_)
  refine WL.nil ?_
  refine W.seq ?_
  refine W.region ?_
  refine WL.c rfl (o_mvh (show _ = Value.int _ _ from rfl) ?_)
  refine WL.c rfl (o_mvh (show _ = Value.int _ _ from rfl) ?_)
  refine WL.c rfl (o_ge rfl rfl ?_)
  refine WL.c rfl (o_mvh (show _ = Value.bool _ from rfl) ?_)
  refine WL.sp 3 rfl (fun g10 => ?_) (fun g10 => ?_)
  · skip
    refine WL.g rfl (g10) rfl (o_mvh (show _ = Value.int _ _ from rfl) ?_)
    refine WL.g rfl (g10) rfl (o_mvh (show _ = Value.int _ _ from rfl) ?_)
    refine WL.g rfl (g10) rfl (o_le rfl rfl ?_)
    refine WL.c rfl (o_pickA rfl rfl ?_)
    refine WL.c rfl (o_ash (show _ = Value.bool _ from rfl) ?_)
    refine WL.nil ?_
    refine W.ret ?_
    refine ret1v rfl (show _ = Value.bool _ from rfl) ?_
    exact ⟨congrArg Value.bool (by first | (simp; done) | (simp_all; intros; omega)), rfl⟩
  · skip
    refine WL.s rfl (g10) rfl ?_
    refine WL.s rfl (g10) rfl ?_
    refine WL.s rfl (g10) rfl ?_
    refine WL.c rfl (o_pickF rfl (g10) ?_)
    refine WL.c rfl (o_ash (show _ = Value.bool _ from rfl) ?_)
    refine WL.nil ?_
    refine W.ret ?_
    refine ret1v rfl (show _ = Value.bool _ from rfl) ?_
    exact ⟨congrArg Value.bool (by first | (simp; done) | (simp_all; intros; omega)), rfl⟩
theorem of_spec0 (p : Pg) (cv ev_ : Value) (op : Int) (w0 : World) : Ca Tryd.prog 28 #[.agg (pgV p cv ev_).toArray, .int .i64 op] w0 (fun r w' => r = .tuple #[.agg #[st (fmP p.enc op).1, st (fmP p.enc op).2.1], .bool (fmP p.enc op).2.2] ∧ Ext w0 w') := by
  refine Ca.of Tryd.func28 Tryd.ntmps28 rfl rfl ?_
  refine W.seq ?_
  refine W.region ?_
  refine WL.c rfl (o_boxB rfl ?_)
  intro w2 hC2 hx2 hs2
  obtain ⟨b2, hb2⟩ : ∃ b, b = w0.heap.size := ⟨_, rfl⟩
  rw [← hb2] at hC2 ⊢
  replace hC2 : w2.heap[b2]? = some (.cells (pgV p cv ev_).toArray 26 (0, 0)) := hC2
  have hx : Ext w0 w2 := hx2
  refine WL.c rfl (o_alB TI61 ?_)
  intro w4 hC4 hx4 hs4
  obtain ⟨b4, hb4⟩ : ∃ b, b = w2.heap.size := ⟨_, rfl⟩
  rw [← hb4] at hC4 ⊢
  replace hC4 : w4.heap[b4]? = some (.cells ([st [], st []]).toArray 61 (0, 0)) := hC4
  have hb4g : w0.heap.size ≤ b4 := by have := hx.size; omega
  replace hx := hx.tr hx4
  replace hC2 := hx4.blk hC2 (fun h => h)
  refine WL.c rfl (o_ash (show _ = Value.bool _ from rfl) ?_)
  refine WL.nil ?_
  refine W.seq ?_
  refine W.seq ?_
  refine W.region ?_
  refine WL.c rfl (o_fa 0 TI26 rfl TI4 rfl rfl ?_)
  refine WL.c rfl (o_ld TI4 rfl rfl (cell_of hC2 rfl) ?_)
  refine WL.nil ?_
  refine W.cond rfl (fun c7 => ?_) (fun c7 => ?_)
  · try simp only [decide_eq_true_eq, decide_eq_false_iff_not, Bool.not_eq_true', Bool.not_eq_false', Bool.and_eq_true, Bool.or_eq_true, Bool.and_eq_false_iff, Bool.or_eq_false_iff] at c7
    refine W.seq ?_
    refine W.region ?_
    refine WL.c rfl (o_mvh (show _ = Value.int _ _ from rfl) ?_)
    refine WL.c rfl (o_call Tryd.call55 (lc rfl ln) ((encodes_spec op _).mono ?_))
    rintro v9 w9 ⟨rfl, hx9⟩
    replace hC4 := hx9.blk hC4 (fun h => h)
    replace hx := hx.tr hx9
    refine WL.c rfl (o_ext rfl rfl ?_)
    refine WL.c rfl (o_ext rfl rfl ?_)
    refine WL.u (o_stA TI61 rfl rfl rfl rfl (by assumption) rfl ?_)
    intro ws hBs hos hss
    replace hx := hx.trans' hos (fun _ h => h) (fun k hk he => by subst he; omega)
    refine WL.c rfl (o_ash (show _ = Value.bool _ from rfl) ?_)
    refine WL.nil ?_
    refine W.ret ?_
    refine retCT rfl TI61 rfl (show _ = Value.bool _ from rfl) rfl (cells_all (by assumption)) rfl ?_
    exact ⟨by simp [fmP, *], hx⟩
  · try simp only [decide_eq_true_eq, decide_eq_false_iff_not, Bool.not_eq_true', Bool.not_eq_false', Bool.and_eq_true, Bool.or_eq_true, Bool.and_eq_false_iff, Bool.or_eq_false_iff] at c7
    refine W.skip ?_
    refine W.seq ?_
    refine W.region ?_
    refine WL.c rfl (o_mvh (show _ = Value.int _ _ from rfl) ?_)
    refine WL.c rfl (o_call Tryd.call56 (lc rfl ln) ((decodes_spec op _).mono ?_))
    rintro v13 w13 ⟨rfl, hx13⟩
    replace hC4 := hx13.blk hC4 (fun h => h)
    replace hx := hx.tr hx13
    refine WL.c rfl (o_ext rfl rfl ?_)
    refine WL.c rfl (o_ext rfl rfl ?_)
    refine WL.u (o_stA TI61 rfl rfl rfl rfl (by assumption) rfl ?_)
    intro ws hBs hos hss
    replace hx := hx.trans' hos (fun _ h => h) (fun k hk he => by subst he; omega)
    refine WL.c rfl (o_ash (show _ = Value.bool _ from rfl) ?_)
    refine WL.nil ?_
    refine W.ret ?_
    refine retCT rfl TI61 rfl (show _ = Value.bool _ from rfl) rfl (cells_all (by assumption)) rfl ?_
    exact ⟨by simp [fmP, *], hx⟩

theorem of_spec (p : Pg) (cv ev_ : Value) (op : Int) (w0 : World) (_hp : PgR w0 p cv ev_) : Ca Tryd.prog 28 #[.agg (pgV p cv ev_).toArray, .int .i64 op] w0 (fun r w' => r = .tuple #[.agg #[st (fmP p.enc op).1, st (fmP p.enc op).2.1], .bool (fmP p.enc op).2.2] ∧ Ext w0 w') := of_spec0 p cv ev_ op w0

set_option maxHeartbeats 4000000 in
theorem may_spec0 (p : Pg) (cv ev_ : Value) (c : UInt8) (x : Int) (w0 : World) (hp : PgR w0 p cv ev_) (hlc : p.code.length ≤ 4611686018427387904) (hle : p.ent.length ≤ 4611686018427387904) : Ca Tryd.prog 51 #[.agg (pgV p cv ev_).toArray, bv c, .int .i64 x] w0 (fun r w' => ∃ b, r = .bool b ∧ (b = true ↔ fitQ p.code.length p.ent.length c.toNat x) ∧ Ext w0 w') := by
  have h1 := hp.one.2.2.1
  have h2 := hp.one.2.2.2
  refine Ca.of Tryd.func51 Tryd.ntmps51 rfl rfl ?_
  refine W.seq ?_
  refine W.region ?_
  refine WL.c rfl (o_boxB rfl ?_)
  intro w3 hC3 hx3 hs3
  obtain ⟨b3, hb3⟩ : ∃ b, b = w0.heap.size := ⟨_, rfl⟩
  rw [← hb3] at hC3 ⊢
  replace hC3 : w3.heap[b3]? = some (.cells (pgV p cv ev_).toArray 26 (0, 0)) := hC3
  have hx : Ext w0 w3 := hx3
  refine WL.c rfl (o_ash (show _ = Value.bool _ from rfl) ?_)
  refine WL.nil ?_
  refine W.seq ?_
  refine W.seq ?_
  refine W.region ?_
  refine WL.c rfl (o_mvh (show _ = Value.int _ _ from rfl) ?_)
  refine WL.nil ?_
  refine W.block ?_
  refine W.seq ?_
  refine W.region ?_
  refine WL.c rfl (o_eq rfl rfl ?_)
  refine WL.c rfl (o_ash (show _ = Value.bool _ from rfl) ?_)
  refine WL.nil ?_
  refine W.cond rfl (fun c8 => ?_) (fun c8 => ?_)
  · try simp only [decide_eq_true_eq, decide_eq_false_iff_not, Bool.not_eq_true', Bool.not_eq_false', Bool.and_eq_true, Bool.or_eq_true, Bool.and_eq_false_iff, Bool.or_eq_false_iff] at c8
    refine W.seq ?_
    refine W.region ?_
    refine WL.c rfl (o_mvh (show _ = Value.int _ _ from rfl) ?_)
    refine WL.c rfl (o_eq rfl rfl ?_)
    refine WL.c rfl (o_ash (show _ = Value.bool _ from rfl) ?_)
    refine WL.nil ?_
    refine W.ret ?_
    refine ret1v rfl (show _ = Value.bool _ from rfl) ?_
    refine ⟨_, rfl, ?_, hx⟩
    unfold fitQ
    repeat (first | rw [if_neg (by omega)] | rw [if_pos (by omega)])
    first | (simp; done) | (simp; omega) | grind
  · try simp only [decide_eq_true_eq, decide_eq_false_iff_not, Bool.not_eq_true', Bool.not_eq_false', Bool.and_eq_true, Bool.or_eq_true, Bool.and_eq_false_iff, Bool.or_eq_false_iff] at c8
    refine W.seq ?_
    refine W.seq ?_
    refine W.region ?_
    refine WL.c rfl (o_eq rfl rfl ?_)
    refine WL.c rfl (o_ash (show _ = Value.bool _ from rfl) ?_)
    refine WL.nil ?_
    refine W.cut (fun e1 w1 => e1 12 = .bool (decide (c.toNat = 107 ∨ c.toNat = 112)) ∧ e1 0 = .agg (pgV p cv ev_).toArray ∧ e1 2 = .int .i64 x ∧ e1 3 = .pointer (some ⟨b3, 0, none⟩) ∧ e1 7 = bv c ∧ w1 = w3) ?_ ?_
    · -- both ways
      refine W.cond rfl (fun c12 => ?_) (fun c12 => ?_)
      · try simp only [decide_eq_true_eq, decide_eq_false_iff_not, Bool.not_eq_true', Bool.not_eq_false', Bool.and_eq_true, Bool.or_eq_true, Bool.and_eq_false_iff, Bool.or_eq_false_iff] at c12
        refine W.skip ?_
        first | exact ⟨congrArg Value.bool (decide_eq_decide.2 (by omega)), rfl, rfl, rfl, rfl, rfl⟩
      · try simp only [decide_eq_true_eq, decide_eq_false_iff_not, Bool.not_eq_true', Bool.not_eq_false', Bool.and_eq_true, Bool.or_eq_true, Bool.and_eq_false_iff, Bool.or_eq_false_iff] at c12
        refine W.region ?_
        refine WL.c rfl (o_eq rfl rfl ?_)
        refine WL.c rfl (o_ash (show _ = Value.bool _ from rfl) ?_)
        refine WL.nil ?_
        first | exact ⟨congrArg Value.bool (decide_eq_decide.2 (by omega)), rfl, rfl, rfl, rfl, rfl⟩
    rintro e w ⟨h12, h0, h2, h3, h7, hw1⟩
    refine W.cond h12 (fun c12 => ?_) (fun c12 => ?_)
    · try simp only [decide_eq_true_eq, decide_eq_false_iff_not, Bool.not_eq_true', Bool.not_eq_false', Bool.and_eq_true, Bool.or_eq_true, Bool.and_eq_false_iff, Bool.or_eq_false_iff] at c12
      refine W.seq ?_
      subst hw1
      refine W.region ?_
      refine WL.c rfl (o_mvh h2 ?_)
      refine WL.c rfl (o_call Tryd.call25 (lc rfl (lc rfl (lc rfl ln))) ((in_spec _ _ _ _).mono ?_))
      rintro v16 w16 ⟨rfl, rfl⟩
      refine WL.c rfl (o_ash (show _ = Value.bool _ from rfl) ?_)
      refine WL.nil ?_
      refine W.ret ?_
      refine ret1v rfl (show _ = Value.bool _ from rfl) ?_
      refine ⟨_, rfl, ?_, hx⟩
      unfold fitQ
      repeat (first | rw [if_neg (by omega)] | rw [if_pos (by omega)])
      first | (simp; done) | (simp; omega) | grind
    · try simp only [decide_eq_true_eq, decide_eq_false_iff_not, Bool.not_eq_true', Bool.not_eq_false', Bool.and_eq_true, Bool.or_eq_true, Bool.and_eq_false_iff, Bool.or_eq_false_iff] at c12
      refine W.seq ?_
      subst hw1
      refine W.region ?_
      refine WL.c rfl (o_eq h7 rfl ?_)
      refine WL.c rfl (o_ash (show _ = Value.bool _ from rfl) ?_)
      refine WL.nil ?_
      refine W.cond rfl (fun c17 => ?_) (fun c17 => ?_)
      · try simp only [decide_eq_true_eq, decide_eq_false_iff_not, Bool.not_eq_true', Bool.not_eq_false', Bool.and_eq_true, Bool.or_eq_true, Bool.and_eq_false_iff, Bool.or_eq_false_iff] at c17
        refine W.seq ?_
        refine W.region ?_
        refine WL.c rfl (o_mvh h2 ?_)
        refine WL.c rfl (o_call Tryd.call25 (lc rfl (lc rfl (lc rfl ln))) ((in_spec _ _ _ _).mono ?_))
        rintro v20 w20 ⟨rfl, rfl⟩
        refine WL.c rfl (o_ash (show _ = Value.bool _ from rfl) ?_)
        refine WL.nil ?_
        refine W.ret ?_
        refine ret1v rfl (show _ = Value.bool _ from rfl) ?_
        refine ⟨_, rfl, ?_, hx⟩
        unfold fitQ
        repeat (first | rw [if_neg (by omega)] | rw [if_pos (by omega)])
        first | (simp; done) | (simp; omega) | grind
      · try simp only [decide_eq_true_eq, decide_eq_false_iff_not, Bool.not_eq_true', Bool.not_eq_false', Bool.and_eq_true, Bool.or_eq_true, Bool.and_eq_false_iff, Bool.or_eq_false_iff] at c17
        refine W.seq ?_
        refine W.region ?_
        refine WL.c rfl (o_eq h7 rfl ?_)
        refine WL.c rfl (o_ash (show _ = Value.bool _ from rfl) ?_)
        refine WL.nil ?_
        refine W.cond rfl (fun c21 => ?_) (fun c21 => ?_)
        · try simp only [decide_eq_true_eq, decide_eq_false_iff_not, Bool.not_eq_true', Bool.not_eq_false', Bool.and_eq_true, Bool.or_eq_true, Bool.and_eq_false_iff, Bool.or_eq_false_iff] at c21
          refine W.seq ?_
          refine W.region ?_
          refine WL.c rfl (o_mvh h2 ?_)
          refine WL.c rfl (o_eq rfl rfl ?_)
          refine WL.c rfl (o_mvh (show _ = Value.bool _ from rfl) ?_)
          refine WL.sp 2 rfl (fun g25 => ?_) (fun g25 => ?_)
          · skip
            refine WL.s rfl (g25) rfl ?_
            refine WL.s rfl (g25) rfl ?_
            refine WL.c rfl (o_pickT rfl (g25) ?_)
            refine WL.c rfl (o_mvh (show _ = Value.bool _ from rfl) ?_)
            refine WL.s rfl (rfl) rfl ?_
            refine WL.s rfl (rfl) rfl ?_
            refine WL.c rfl (o_pickT rfl (rfl) ?_)
            refine WL.c rfl (o_mvh (show _ = Value.bool _ from rfl) ?_)
            refine WL.s rfl (rfl) rfl ?_
            refine WL.s rfl (rfl) rfl ?_
            refine WL.c rfl (o_pickT rfl (rfl) ?_)
            refine WL.c rfl (o_ash (show _ = Value.bool _ from rfl) ?_)
            refine WL.nil ?_
            refine W.ret ?_
            refine ret1v rfl (show _ = Value.bool _ from rfl) ?_
            refine ⟨_, rfl, ?_, hx⟩
            unfold fitQ
            repeat (first | rw [if_neg (by omega)] | rw [if_pos (by omega)])
            first | (simp; done) | (simp; omega) | grind
          · skip
            refine WL.g rfl (g25) rfl (o_mvh h2 ?_)
            refine WL.g rfl (g25) rfl (o_eq rfl rfl ?_)
            refine WL.c rfl (o_pickO rfl rfl ?_)
            refine WL.c rfl (o_mvh (show _ = Value.bool _ from rfl) ?_)
            refine WL.sp 6 rfl (fun g29 => ?_) (fun g29 => ?_)
            · skip
              refine WL.s rfl (g29) rfl ?_
              refine WL.s rfl (g29) rfl ?_
              refine WL.c rfl (o_pickT rfl (g29) ?_)
              refine WL.c rfl (o_mvh (show _ = Value.bool _ from rfl) ?_)
              refine WL.s rfl (rfl) rfl ?_
              refine WL.s rfl (rfl) rfl ?_
              refine WL.c rfl (o_pickT rfl (rfl) ?_)
              refine WL.c rfl (o_ash (show _ = Value.bool _ from rfl) ?_)
              refine WL.nil ?_
              refine W.ret ?_
              refine ret1v rfl (show _ = Value.bool _ from rfl) ?_
              refine ⟨_, rfl, ?_, hx⟩
              unfold fitQ
              repeat (first | rw [if_neg (by omega)] | rw [if_pos (by omega)])
              first | (simp; done) | (simp; omega) | grind
            · skip
              refine WL.g rfl (g29) rfl (o_mvh h2 ?_)
              refine WL.g rfl (g29) rfl (o_eq rfl rfl ?_)
              refine WL.c rfl (o_pickO rfl rfl ?_)
              refine WL.c rfl (o_mvh (show _ = Value.bool _ from rfl) ?_)
              refine WL.sp 10 rfl (fun g33 => ?_) (fun g33 => ?_)
              · skip
                refine WL.s rfl (g33) rfl ?_
                refine WL.s rfl (g33) rfl ?_
                refine WL.c rfl (o_pickT rfl (g33) ?_)
                refine WL.c rfl (o_ash (show _ = Value.bool _ from rfl) ?_)
                refine WL.nil ?_
                refine W.ret ?_
                refine ret1v rfl (show _ = Value.bool _ from rfl) ?_
                refine ⟨_, rfl, ?_, hx⟩
                unfold fitQ
                repeat (first | rw [if_neg (by omega)] | rw [if_pos (by omega)])
                first | (simp; done) | (simp; omega) | grind
              · skip
                refine WL.g rfl (g33) rfl (o_mvh h2 ?_)
                refine WL.g rfl (g33) rfl (o_eq rfl rfl ?_)
                refine WL.c rfl (o_pickO rfl rfl ?_)
                refine WL.c rfl (o_ash (show _ = Value.bool _ from rfl) ?_)
                refine WL.nil ?_
                refine W.ret ?_
                refine ret1v rfl (show _ = Value.bool _ from rfl) ?_
                refine ⟨_, rfl, ?_, hx⟩
                unfold fitQ
                repeat (first | rw [if_neg (by omega)] | rw [if_pos (by omega)])
                first | (simp; done) | (simp; omega) | grind
        · try simp only [decide_eq_true_eq, decide_eq_false_iff_not, Bool.not_eq_true', Bool.not_eq_false', Bool.and_eq_true, Bool.or_eq_true, Bool.and_eq_false_iff, Bool.or_eq_false_iff] at c21
          refine W.seq ?_
          refine W.region ?_
          refine WL.c rfl (o_eq h7 rfl ?_)
          refine WL.c rfl (o_ash (show _ = Value.bool _ from rfl) ?_)
          refine WL.nil ?_
          refine W.cond rfl (fun c37 => ?_) (fun c37 => ?_)
          · try simp only [decide_eq_true_eq, decide_eq_false_iff_not, Bool.not_eq_true', Bool.not_eq_false', Bool.and_eq_true, Bool.or_eq_true, Bool.and_eq_false_iff, Bool.or_eq_false_iff] at c37
            refine W.seq ?_
            refine W.region ?_
            refine WL.c rfl (o_mvh h2 ?_)
            refine WL.c rfl (o_call Tryd.call25 (lc rfl (lc rfl (lc rfl ln))) ((in_spec _ _ _ _).mono ?_))
            rintro v40 w40 ⟨rfl, rfl⟩
            refine WL.c rfl (o_ash (show _ = Value.bool _ from rfl) ?_)
            refine WL.nil ?_
            refine W.ret ?_
            refine ret1v rfl (show _ = Value.bool _ from rfl) ?_
            refine ⟨_, rfl, ?_, hx⟩
            unfold fitQ
            repeat (first | rw [if_neg (by omega)] | rw [if_pos (by omega)])
            first | (simp; done) | (simp; omega) | grind
          · try simp only [decide_eq_true_eq, decide_eq_false_iff_not, Bool.not_eq_true', Bool.not_eq_false', Bool.and_eq_true, Bool.or_eq_true, Bool.and_eq_false_iff, Bool.or_eq_false_iff] at c37
            refine W.seq ?_
            refine W.region ?_
            refine WL.c rfl (o_eq h7 rfl ?_)
            refine WL.c rfl (o_ash (show _ = Value.bool _ from rfl) ?_)
            refine WL.nil ?_
            refine W.cond rfl (fun c41 => ?_) (fun c41 => ?_)
            · try simp only [decide_eq_true_eq, decide_eq_false_iff_not, Bool.not_eq_true', Bool.not_eq_false', Bool.and_eq_true, Bool.or_eq_true, Bool.and_eq_false_iff, Bool.or_eq_false_iff] at c41
              refine W.seq ?_
              refine W.region ?_
              refine WL.c rfl (o_mvh h2 ?_)
              refine WL.c rfl (o_call Tryd.call25 (lc rfl (lc rfl (lc rfl ln))) ((in_spec _ _ _ _).mono ?_))
              rintro v44 w44 ⟨rfl, rfl⟩
              refine WL.c rfl (o_ash (show _ = Value.bool _ from rfl) ?_)
              refine WL.nil ?_
              refine W.ret ?_
              refine ret1v rfl (show _ = Value.bool _ from rfl) ?_
              refine ⟨_, rfl, ?_, hx⟩
              unfold fitQ
              repeat (first | rw [if_neg (by omega)] | rw [if_pos (by omega)])
              first | (simp; done) | (simp; omega) | grind
            · try simp only [decide_eq_true_eq, decide_eq_false_iff_not, Bool.not_eq_true', Bool.not_eq_false', Bool.and_eq_true, Bool.or_eq_true, Bool.and_eq_false_iff, Bool.or_eq_false_iff] at c41
              refine W.seq ?_
              refine W.region ?_
              refine WL.c rfl (o_eq h7 rfl ?_)
              refine WL.c rfl (o_ash (show _ = Value.bool _ from rfl) ?_)
              refine WL.nil ?_
              refine W.cond rfl (fun c45 => ?_) (fun c45 => ?_)
              · try simp only [decide_eq_true_eq, decide_eq_false_iff_not, Bool.not_eq_true', Bool.not_eq_false', Bool.and_eq_true, Bool.or_eq_true, Bool.and_eq_false_iff, Bool.or_eq_false_iff] at c45
                refine W.seq ?_
                refine W.region ?_
                refine WL.c rfl (o_mvh h2 ?_)
                refine WL.c rfl (o_call Tryd.call25 (lc rfl (lc rfl (lc rfl ln))) ((in_spec _ _ _ _).mono ?_))
                rintro v48 w48 ⟨rfl, rfl⟩
                refine WL.c rfl (o_ash (show _ = Value.bool _ from rfl) ?_)
                refine WL.nil ?_
                refine W.ret ?_
                refine ret1v rfl (show _ = Value.bool _ from rfl) ?_
                refine ⟨_, rfl, ?_, hx⟩
                unfold fitQ
                repeat (first | rw [if_neg (by omega)] | rw [if_pos (by omega)])
                first | (simp; done) | (simp; omega) | grind
              · try simp only [decide_eq_true_eq, decide_eq_false_iff_not, Bool.not_eq_true', Bool.not_eq_false', Bool.and_eq_true, Bool.or_eq_true, Bool.and_eq_false_iff, Bool.or_eq_false_iff] at c45
                refine W.seq ?_
                refine W.region ?_
                refine WL.c rfl (o_eq h7 rfl ?_)
                refine WL.c rfl (o_ash (show _ = Value.bool _ from rfl) ?_)
                refine WL.nil ?_
                refine W.cond rfl (fun c49 => ?_) (fun c49 => ?_)
                · try simp only [decide_eq_true_eq, decide_eq_false_iff_not, Bool.not_eq_true', Bool.not_eq_false', Bool.and_eq_true, Bool.or_eq_true, Bool.and_eq_false_iff, Bool.or_eq_false_iff] at c49
                  refine W.seq ?_
                  refine W.region ?_
                  refine WL.c rfl (o_mvh h2 ?_)
                  refine WL.c rfl (o_call Tryd.call25 (lc rfl (lc rfl (lc rfl ln))) ((in_spec _ _ _ _).mono ?_))
                  rintro v52 w52 ⟨rfl, rfl⟩
                  refine WL.c rfl (o_ash (show _ = Value.bool _ from rfl) ?_)
                  refine WL.nil ?_
                  refine W.ret ?_
                  refine ret1v rfl (show _ = Value.bool _ from rfl) ?_
                  refine ⟨_, rfl, ?_, hx⟩
                  unfold fitQ
                  repeat (first | rw [if_neg (by omega)] | rw [if_pos (by omega)])
                  first | (simp; done) | (simp; omega) | grind
                · try simp only [decide_eq_true_eq, decide_eq_false_iff_not, Bool.not_eq_true', Bool.not_eq_false', Bool.and_eq_true, Bool.or_eq_true, Bool.and_eq_false_iff, Bool.or_eq_false_iff] at c49
                  refine W.seq ?_
                  refine W.region ?_
                  refine WL.c rfl (o_eq h7 rfl ?_)
                  refine WL.c rfl (o_ash (show _ = Value.bool _ from rfl) ?_)
                  refine WL.nil ?_
                  refine W.cond rfl (fun c53 => ?_) (fun c53 => ?_)
                  · try simp only [decide_eq_true_eq, decide_eq_false_iff_not, Bool.not_eq_true', Bool.not_eq_false', Bool.and_eq_true, Bool.or_eq_true, Bool.and_eq_false_iff, Bool.or_eq_false_iff] at c53
                    refine W.seq ?_
                    refine W.region ?_
                    refine WL.c rfl (o_mvh h2 ?_)
                    refine WL.c rfl (o_call Tryd.call25 (lc rfl (lc rfl (lc rfl ln))) ((in_spec _ _ _ _).mono ?_))
                    rintro v56 w56 ⟨rfl, rfl⟩
                    refine WL.c rfl (o_ash (show _ = Value.bool _ from rfl) ?_)
                    refine WL.nil ?_
                    refine W.ret ?_
                    refine ret1v rfl (show _ = Value.bool _ from rfl) ?_
                    refine ⟨_, rfl, ?_, hx⟩
                    unfold fitQ
                    repeat (first | rw [if_neg (by omega)] | rw [if_pos (by omega)])
                    first | (simp; done) | (simp; omega) | grind
                  · try simp only [decide_eq_true_eq, decide_eq_false_iff_not, Bool.not_eq_true', Bool.not_eq_false', Bool.and_eq_true, Bool.or_eq_true, Bool.and_eq_false_iff, Bool.or_eq_false_iff] at c53
                    refine W.seq ?_
                    refine W.region ?_
                    refine WL.c rfl (o_eq h7 rfl ?_)
                    refine WL.c rfl (o_ash (show _ = Value.bool _ from rfl) ?_)
                    refine WL.nil ?_
                    refine W.cond rfl (fun c57 => ?_) (fun c57 => ?_)
                    · try simp only [decide_eq_true_eq, decide_eq_false_iff_not, Bool.not_eq_true', Bool.not_eq_false', Bool.and_eq_true, Bool.or_eq_true, Bool.and_eq_false_iff, Bool.or_eq_false_iff] at c57
                      refine W.seq ?_
                      refine W.region ?_
                      refine WL.c rfl (o_mvh h2 ?_)
                      refine WL.c rfl (o_call Tryd.call25 (lc rfl (lc rfl (lc rfl ln))) ((in_spec _ _ _ _).mono ?_))
                      rintro v60 w60 ⟨rfl, rfl⟩
                      refine WL.c rfl (o_ash (show _ = Value.bool _ from rfl) ?_)
                      refine WL.nil ?_
                      refine W.ret ?_
                      refine ret1v rfl (show _ = Value.bool _ from rfl) ?_
                      refine ⟨_, rfl, ?_, hx⟩
                      unfold fitQ
                      repeat (first | rw [if_neg (by omega)] | rw [if_pos (by omega)])
                      first | (simp; done) | (simp; omega) | grind
                    · try simp only [decide_eq_true_eq, decide_eq_false_iff_not, Bool.not_eq_true', Bool.not_eq_false', Bool.and_eq_true, Bool.or_eq_true, Bool.and_eq_false_iff, Bool.or_eq_false_iff] at c57
                      refine W.seq ?_
                      refine W.region ?_
                      refine WL.c rfl (o_eq h7 rfl ?_)
                      refine WL.c rfl (o_ash (show _ = Value.bool _ from rfl) ?_)
                      refine WL.nil ?_
                      refine W.cond rfl (fun c61 => ?_) (fun c61 => ?_)
                      · try simp only [decide_eq_true_eq, decide_eq_false_iff_not, Bool.not_eq_true', Bool.not_eq_false', Bool.and_eq_true, Bool.or_eq_true, Bool.and_eq_false_iff, Bool.or_eq_false_iff] at c61
                        refine W.seq ?_
                        refine W.region ?_
                        refine WL.c rfl (o_mvh h2 ?_)
                        refine WL.c rfl (o_call Tryd.call25 (lc rfl (lc rfl (lc rfl ln))) ((in_spec _ _ _ _).mono ?_))
                        rintro v64 w64 ⟨rfl, rfl⟩
                        refine WL.c rfl (o_ash (show _ = Value.bool _ from rfl) ?_)
                        refine WL.nil ?_
                        refine W.ret ?_
                        refine ret1v rfl (show _ = Value.bool _ from rfl) ?_
                        refine ⟨_, rfl, ?_, hx⟩
                        unfold fitQ
                        repeat (first | rw [if_neg (by omega)] | rw [if_pos (by omega)])
                        first | (simp; done) | (simp; omega) | grind
                      · try simp only [decide_eq_true_eq, decide_eq_false_iff_not, Bool.not_eq_true', Bool.not_eq_false', Bool.and_eq_true, Bool.or_eq_true, Bool.and_eq_false_iff, Bool.or_eq_false_iff] at c61
                        refine W.seq ?_
                        refine W.region ?_
                        refine WL.c rfl (o_eq h7 rfl ?_)
                        refine WL.c rfl (o_ash (show _ = Value.bool _ from rfl) ?_)
                        refine WL.nil ?_
                        refine W.cond rfl (fun c65 => ?_) (fun c65 => ?_)
                        · try simp only [decide_eq_true_eq, decide_eq_false_iff_not, Bool.not_eq_true', Bool.not_eq_false', Bool.and_eq_true, Bool.or_eq_true, Bool.and_eq_false_iff, Bool.or_eq_false_iff] at c65
                          refine W.seq ?_
                          refine W.region ?_
                          refine WL.c rfl (o_mvh h2 ?_)
                          refine WL.c rfl (o_call Tryd.call25 (lc rfl (lc rfl (lc rfl ln))) ((in_spec _ _ _ _).mono ?_))
                          rintro v68 w68 ⟨rfl, rfl⟩
                          refine WL.c rfl (o_ash (show _ = Value.bool _ from rfl) ?_)
                          refine WL.nil ?_
                          refine W.ret ?_
                          refine ret1v rfl (show _ = Value.bool _ from rfl) ?_
                          refine ⟨_, rfl, ?_, hx⟩
                          unfold fitQ
                          repeat (first | rw [if_neg (by omega)] | rw [if_pos (by omega)])
                          first | (simp; done) | (simp; omega) | grind
                        · try simp only [decide_eq_true_eq, decide_eq_false_iff_not, Bool.not_eq_true', Bool.not_eq_false', Bool.and_eq_true, Bool.or_eq_true, Bool.and_eq_false_iff, Bool.or_eq_false_iff] at c65
                          refine W.seq ?_
                          refine W.region ?_
                          refine WL.c rfl (o_eq h7 rfl ?_)
                          refine WL.c rfl (o_ash (show _ = Value.bool _ from rfl) ?_)
                          refine WL.nil ?_
                          refine W.cond rfl (fun c69 => ?_) (fun c69 => ?_)
                          · try simp only [decide_eq_true_eq, decide_eq_false_iff_not, Bool.not_eq_true', Bool.not_eq_false', Bool.and_eq_true, Bool.or_eq_true, Bool.and_eq_false_iff, Bool.or_eq_false_iff] at c69
                            refine W.seq ?_
                            refine W.region ?_
                            refine WL.c rfl (o_mvh h2 ?_)
                            refine WL.c rfl (o_eq rfl rfl ?_)
                            refine WL.c rfl (o_mvh (show _ = Value.bool _ from rfl) ?_)
                            refine WL.sp 2 rfl (fun g73 => ?_) (fun g73 => ?_)
                            · skip
                              refine WL.s rfl (g73) rfl ?_
                              refine WL.s rfl (g73) rfl ?_
                              refine WL.c rfl (o_pickT rfl (g73) ?_)
                              refine WL.c rfl (o_ash (show _ = Value.bool _ from rfl) ?_)
                              refine WL.nil ?_
                              refine W.ret ?_
                              refine ret1v rfl (show _ = Value.bool _ from rfl) ?_
                              refine ⟨_, rfl, ?_, hx⟩
                              unfold fitQ
                              repeat (first | rw [if_neg (by omega)] | rw [if_pos (by omega)])
                              first | (simp; done) | (simp; omega) | grind
                            · skip
                              refine WL.g rfl (g73) rfl (o_mvh h2 ?_)
                              refine WL.g rfl (g73) rfl (o_call Tryd.call25 (lc rfl (lc rfl (lc rfl ln))) ((in_spec _ _ _ _).mono ?_))
                              rintro v75 w75 ⟨rfl, rfl⟩
                              refine WL.c rfl (o_pickO rfl rfl ?_)
                              refine WL.c rfl (o_ash (show _ = Value.bool _ from rfl) ?_)
                              refine WL.nil ?_
                              refine W.ret ?_
                              refine ret1v rfl (show _ = Value.bool _ from rfl) ?_
                              refine ⟨_, rfl, ?_, hx⟩
                              unfold fitQ
                              repeat (first | rw [if_neg (by omega)] | rw [if_pos (by omega)])
                              first | (simp; done) | (simp; omega) | grind
                          · try simp only [decide_eq_true_eq, decide_eq_false_iff_not, Bool.not_eq_true', Bool.not_eq_false', Bool.and_eq_true, Bool.or_eq_true, Bool.and_eq_false_iff, Bool.or_eq_false_iff] at c69
                            refine W.seq ?_
                            refine W.region ?_
                            refine WL.c rfl (o_eq h7 rfl ?_)
                            refine WL.c rfl (o_ash (show _ = Value.bool _ from rfl) ?_)
                            refine WL.nil ?_
                            refine W.cond rfl (fun c77 => ?_) (fun c77 => ?_)
                            · try simp only [decide_eq_true_eq, decide_eq_false_iff_not, Bool.not_eq_true', Bool.not_eq_false', Bool.and_eq_true, Bool.or_eq_true, Bool.and_eq_false_iff, Bool.or_eq_false_iff] at c77
                              refine W.seq ?_
                              refine W.region ?_
                              refine WL.c rfl (o_mvh h2 ?_)
                              refine WL.c rfl (o_call Tryd.call25 (lc rfl (lc rfl (lc rfl ln))) ((in_spec _ _ _ _).mono ?_))
                              rintro v80 w80 ⟨rfl, rfl⟩
                              refine WL.c rfl (o_ash (show _ = Value.bool _ from rfl) ?_)
                              refine WL.nil ?_
                              refine W.ret ?_
                              refine ret1v rfl (show _ = Value.bool _ from rfl) ?_
                              refine ⟨_, rfl, ?_, hx⟩
                              unfold fitQ
                              repeat (first | rw [if_neg (by omega)] | rw [if_pos (by omega)])
                              first | (simp; done) | (simp; omega) | grind
                            · try simp only [decide_eq_true_eq, decide_eq_false_iff_not, Bool.not_eq_true', Bool.not_eq_false', Bool.and_eq_true, Bool.or_eq_true, Bool.and_eq_false_iff, Bool.or_eq_false_iff] at c77
                              refine W.seq ?_
                              refine W.region ?_
                              refine WL.c rfl (o_eq h7 rfl ?_)
                              refine WL.c rfl (o_ash (show _ = Value.bool _ from rfl) ?_)
                              refine WL.nil ?_
                              refine W.cond rfl (fun c81 => ?_) (fun c81 => ?_)
                              · try simp only [decide_eq_true_eq, decide_eq_false_iff_not, Bool.not_eq_true', Bool.not_eq_false', Bool.and_eq_true, Bool.or_eq_true, Bool.and_eq_false_iff, Bool.or_eq_false_iff] at c81
                                refine W.seq ?_
                                refine W.region ?_
                                refine WL.c rfl (o_mvh h2 ?_)
                                refine WL.c rfl (o_fa 1 TI26 rfl TI23 rfl h3 ?_)
                                refine WL.c rfl (o_ld TI23 rfl rfl (cell_of hC3 rfl) ?_)
                                refine WL.c rfl (o_lenR TI23 rfl (hp.code.ext hx) ?_)
                                refine WL.c rfl (o_subi rfl rfl (by omega) ?_)
                                refine WL.c rfl (o_call Tryd.call25 (lc rfl (lc rfl (lc rfl ln))) ((in_spec _ _ _ _).mono ?_))
                                rintro v88 w88 ⟨rfl, rfl⟩
                                refine WL.c rfl (o_ash (show _ = Value.bool _ from rfl) ?_)
                                refine WL.nil ?_
                                refine W.ret ?_
                                refine ret1v rfl (show _ = Value.bool _ from rfl) ?_
                                refine ⟨_, rfl, ?_, hx⟩
                                unfold fitQ
                                repeat (first | rw [if_neg (by omega)] | rw [if_pos (by omega)])
                                first | (simp; done) | (simp; omega) | grind
                              · try simp only [decide_eq_true_eq, decide_eq_false_iff_not, Bool.not_eq_true', Bool.not_eq_false', Bool.and_eq_true, Bool.or_eq_true, Bool.and_eq_false_iff, Bool.or_eq_false_iff] at c81
                                refine W.skip ?_
                                refine W.seq ?_
                                refine W.region ?_
                                refine WL.c rfl (o_mvh h2 ?_)
                                refine WL.c rfl (o_fa 2 TI26 rfl TI24 rfl h3 ?_)
                                refine WL.c rfl (o_ld TI24 rfl rfl (cell_of hC3 rfl) ?_)
                                refine WL.c rfl (o_lenR TI24 rfl (hp.ent.ext hx) ?_)
                                refine WL.c rfl (o_subi rfl rfl (by omega) ?_)
                                refine WL.c rfl (o_call Tryd.call25 (lc rfl (lc rfl (lc rfl ln))) ((in_spec _ _ _ _).mono ?_))
                                rintro v94 w94 ⟨rfl, rfl⟩
                                refine WL.c rfl (o_ash (show _ = Value.bool _ from rfl) ?_)
                                refine WL.nil ?_
                                refine W.ret ?_
                                refine ret1v rfl (show _ = Value.bool _ from rfl) ?_
                                refine ⟨_, rfl, ?_, hx⟩
                                unfold fitQ
                                repeat (first | rw [if_neg (by omega)] | rw [if_pos (by omega)])
                                first | (simp; done) | (simp; omega) | grind

theorem may_yes (p : Pg) (cv ev_ : Value) (c : UInt8) (x : Int) (w0 : World) (hp : PgR w0 p cv ev_) (hlc : p.code.length ≤ 4611686018427387904) (hle : p.ent.length ≤ 4611686018427387904) (hc : c ∈ lets) (h : fitP p.code.length p.ent.length c x) : Ca Tryd.prog 51 #[.agg (pgV p cv ev_).toArray, bv (tl c), .int .i64 x] w0 (fun r w' => r = .bool true ∧ Ext w0 w') :=
  (may_spec0 p cv ev_ (tl c) x w0 hp hlc hle).mono fun r w' ⟨b, h1, h2, h3⟩ => ⟨by rw [h1, h2.2 ((fitQ_tl hc x).2 h)], h3⟩
theorem may_no (p : Pg) (cv ev_ : Value) (c : UInt8) (x : Int) (w0 : World) (hp : PgR w0 p cv ev_) (hlc : p.code.length ≤ 4611686018427387904) (hle : p.ent.length ≤ 4611686018427387904) (hc : c ∈ lets) (h : ¬ fitP p.code.length p.ent.length c x) : Ca Tryd.prog 51 #[.agg (pgV p cv ev_).toArray, bv (tl c), .int .i64 x] w0 (fun r w' => r = .bool false ∧ Ext w0 w') :=
  (may_spec0 p cv ev_ (tl c) x w0 hp hlc hle).mono fun r w' ⟨b, h1, h2, h3⟩ => ⟨by
    cases b with
    | false => exact h1
    | true => exact absurd ((fitQ_tl hc x).1 (h2.1 rfl)) h, h3⟩

end Go.Proofs.YthlbhnefldaoiaaDoor
