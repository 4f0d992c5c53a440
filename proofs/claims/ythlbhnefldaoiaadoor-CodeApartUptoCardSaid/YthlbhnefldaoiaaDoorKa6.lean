/-
  Walks and lemmas. Written by program out of specs of mine.
-/
import Derived.WalkKit
import Derived.WalkSpells
import Derived.WalkLawsBesides
import Derived.Deep.Quiet
import Derived.StillTail
import Derived.StringKeys
import Derived.Laws.StructEq
import Derived.Laws.Externs
import Derived.Laws.Tables
import Derived.Scope
import Derived.Laws.AppendOwn
import Derived.Maps.AppendAt
import Derived.Recover
import Derived.Test.YthlbhnefldaoiaaDoorProg
import Derived.Shelf.Strconv.Itoa0
import Derived.Shelf.Strconv.Itoa1
import Derived.Shelf.LaysM
import Derived.Shelf.Strconv.Itoa2
import Derived.Shelf.Strconv.Itoa3
import Derived.Shelf.Strings.Builder1
import Derived.Shelf.Strings.OnBuilder
import Derived.Lib.Builder
import Derived.Lib.UnsafeStr
import Derived.Lib.ItoaLen
import Derived.SizedLaws
import Derived.ChangeArms
import Derived.ChangeSlices
import Derived.Lib.ConvBytes
import Derived.Test.YthlbhnefldaoiaaDoorRows
import Derived.ProofKit
import Derived.OpenShut
import Derived.ShutString
import Derived.ChangeOld
import Derived.Below
import Derived.JoinedCond
import Derived.SliceStrings
import Derived.Test.YthlbhnefldaoiaaDoorCards
import Derived.Test.YthlbhnefldaoiaaDoorTie
import Derived.Deep.DeepHandedRow
import Derived.Lib.LaidTab
import Derived.Test.YthlbhnefldaoiaaDoorKa5
set_option linter.unusedSimpArgs false
set_option linter.unusedVariables false
set_option maxRecDepth 100000
set_option linter.unusedSimpArgs false
set_option linter.unusedVariables false
set_option maxRecDepth 100000
namespace Go.Proofs.YthlbhnefldaoiaaDoor
open Go Go.Vc Go.RowKit Go.Proofs
theorem o_remI {P : Program} {e : Env} {w : World} {K : Value → World → Prop} {ty : TypeId} {x y : Operand} {t u : TypeId} {a b : Int} (hx : ev e x = .int .i64 a) (hy : ev e y = .int .i64 b) (hb : 0 < b) (kk : K (.int .i64 (a.tmod b)) w) : OP P e (.binOp .rem t x y u) ty w K := by
  exact o_rem hx hy (by omega) kk
theorem tmod_lim (a : Int) {b : Int} (hb : 0 < b) : -b < a.tmod b ∧ a.tmod b < b := by
  refine ⟨?_, Int.tmod_lt_of_pos a hb⟩
  by_cases h : 0 ≤ a
  · have := Int.tmod_nonneg b h
    omega
  · have h1 := Int.tmod_lt_of_pos (-a) hb
    rw [Int.neg_tmod] at h1
    omega
theorem o_maxI {P : Program} {e : Env} {w : World} {K : Value → World → Prop} {ty : TypeId} {x y : Operand} {t u : TypeId} {k : IntKind} {a b : Int} (hx : ev e x = .int k a) (hy : ev e y = .int k b) (kk : K (.int k (if a < b then b else a)) w) : OP P e (.call ⟨.builtin .max, #[x, y], #[t, u]⟩) ty w K := by
  refine OP.of ?_ kk
  simp [execOp, resolve, invoke, builtin, Builtin.max_, Builtin.max2, hx, hy]

/-- what 'made' makes, letter by letter -/
def madN (nc ne : Nat) (k : Nat) (x : Int) : Prop := if k = 107 ∨ k = 112 then -1 ≤ x ∧ x ≤ 63 else if k = 75 then 0 ≤ x ∧ x ≤ 61 else if k = 119 then x = 1 ∨ x = 2 ∨ x = 4 ∨ x = 8 else if k = 109 then x = 2 else if k = 102 then 4 ≤ x ∧ x ≤ 400 else if k = 110 then 1 ≤ x ∧ x ≤ 1048576 else if k = 115 then 1 ≤ x ∧ x ≤ 64 else if k = 103 then 0 ≤ x ∧ x ≤ 255 else if k = 108 then 0 ≤ x ∧ x ≤ 300 else if k = 76 then -1 ≤ x ∧ x ≤ 16777215 else if k = 114 then 1 ≤ x ∧ x ≤ 300 else if k = 122 then 1 ≤ x ∧ x ≤ 16777216 else if k = 116 then 0 ≤ x ∧ x ≤ (nc : Int) - 1 else if k = 121 then 0 ≤ x ∧ x ≤ (ne : Int) - 1 else x = 0

theorem brought_spec (x lo hi : Int) (w0 : World) (hx : -9223372036854775808 ≤ x ∧ x ≤ 9223372036854775807) (hlh : lo ≤ hi) (hlo_ : -1 ≤ lo) (hhi_ : hi ≤ 1000000000) : Ca Tryd.prog 39 #[.int .i64 x, .int .i64 lo, .int .i64 hi] w0 (fun v w' => (∃ q, v = .int .i64 q ∧ lo ≤ q ∧ q ≤ hi) ∧ w' = w0) := by
  refine Ca.of Tryd.func39 Tryd.ntmps39 rfl rfl ?_
  refine W.seq ?_
  refine W.region ?_
  refine WL.c rfl (o_ash (show _ = Value.int _ _ from rfl) ?_)
  refine WL.nil ?_
  refine W.seq ?_
  refine W.seq ?_
  refine W.region ?_
  refine WL.c rfl (o_mvh (show _ = Value.int _ _ from rfl) ?_)
  refine WL.c rfl (o_mvh (show _ = Value.int _ _ from rfl) ?_)
  refine WL.c rfl (o_lt rfl rfl ?_)
  refine WL.c rfl (o_mvh (show _ = Value.bool _ from rfl) ?_)
  refine WL.g rfl (by simp; omega) rfl (o_mvh (show _ = Value.int _ _ from rfl) ?_)
  refine WL.g rfl (by simp; omega) rfl (o_mvh (show _ = Value.int _ _ from rfl) ?_)
  refine WL.g rfl (by simp; omega) rfl (o_mvh (show _ = Value.int _ _ from rfl) ?_)
  refine WL.g rfl (by simp; omega) rfl (o_call Tryd.call60 (lc rfl (lc rfl (lc rfl ln))) ((rin_spec x lo hi _).mono ?_))
  rintro v15 w15 ⟨rfl, rfl⟩
  refine WL.c rfl (o_pickO rfl rfl ?_)
  refine WL.nil ?_
  refine W.cond rfl (fun c16 => ?_) (fun c16 => ?_)
  · try simp only [decide_eq_true_eq, decide_eq_false_iff_not, Bool.not_eq_true', Bool.not_eq_false', Bool.and_eq_true, Bool.or_eq_true, Bool.and_eq_false_iff, Bool.or_eq_false_iff] at c16
    refine W.seq ?_
    refine W.region ?_
    refine WL.c rfl (o_mvh (show _ = Value.int _ _ from rfl) ?_)
    refine WL.c rfl (o_mvh (show _ = Value.int _ _ from rfl) ?_)
    refine WL.c rfl (o_maxI rfl rfl ?_)
    refine WL.c rfl (o_ash (show _ = Value.int _ _ from rfl) ?_)
    refine WL.nil ?_
    refine W.ret ?_
    refine ret1v rfl (show _ = Value.int _ _ from rfl) ?_
    exact ⟨⟨_, rfl, by split <;> omega, by split <;> omega⟩, rfl⟩
  · try simp only [decide_eq_true_eq, decide_eq_false_iff_not, Bool.not_eq_true', Bool.not_eq_false', Bool.and_eq_true, Bool.or_eq_true, Bool.and_eq_false_iff, Bool.or_eq_false_iff] at c16
    refine W.skip ?_
    refine W.seq ?_
    refine W.region ?_
    refine WL.c rfl (o_mvh (show _ = Value.int _ _ from rfl) ?_)
    refine WL.c rfl (o_mvh (show _ = Value.int _ _ from rfl) ?_)
    refine WL.c rfl (o_subi rfl rfl (by omega) ?_)
    refine WL.c rfl (o_addi rfl rfl (by omega) ?_)
    refine WL.c rfl (o_ash (show _ = Value.int _ _ from rfl) ?_)
    refine WL.nil ?_
    refine W.seq ?_
    refine W.region ?_
    refine WL.c rfl (o_mvh (show _ = Value.int _ _ from rfl) ?_)
    refine WL.c rfl (o_mvh (show _ = Value.int _ _ from rfl) ?_)
    refine WL.c rfl (o_remI rfl rfl (by omega) ?_)
    refine WL.c rfl (o_ash (show _ = Value.int _ _ from rfl) ?_)
    refine WL.nil ?_
    refine W.seq ?_
    refine W.seq ?_
    refine W.region ?_
    refine WL.c rfl (o_mvh (show _ = Value.int _ _ from rfl) ?_)
    refine WL.c rfl (o_lt rfl rfl ?_)
    refine WL.nil ?_
    refine W.cut (fun e1 w1 => ∃ y, e1 0 = .int .i64 y ∧ e1 1 = .int .i64 lo ∧ 0 ≤ y ∧ y ≤ hi - lo ∧ w1 = w15) ?_ ?_
    · -- both ways
      refine W.cond rfl (fun c28 => ?_) (fun c28 => ?_)
      · try simp only [decide_eq_true_eq, decide_eq_false_iff_not, Bool.not_eq_true', Bool.not_eq_false', Bool.and_eq_true, Bool.or_eq_true, Bool.and_eq_false_iff, Bool.or_eq_false_iff] at c28
        refine W.region ?_
        refine WL.c rfl (o_mvh (show _ = Value.int _ _ from rfl) ?_)
        refine WL.c rfl (o_mvh (show _ = Value.int _ _ from rfl) ?_)
        refine WL.c rfl (o_addi rfl rfl (by have h4 := tmod_lim x (show 0 < hi - lo + 1 by omega); omega) ?_)
        refine WL.c rfl (o_ash (show _ = Value.int _ _ from rfl) ?_)
        refine WL.nil ?_
        first | exact ⟨_, rfl, rfl, by have h4 := tmod_lim x (show 0 < hi - lo + 1 by omega); omega, by have h4 := tmod_lim x (show 0 < hi - lo + 1 by omega); omega, rfl⟩
      · try simp only [decide_eq_true_eq, decide_eq_false_iff_not, Bool.not_eq_true', Bool.not_eq_false', Bool.and_eq_true, Bool.or_eq_true, Bool.and_eq_false_iff, Bool.or_eq_false_iff] at c28
        refine W.skip ?_
        first | exact ⟨_, rfl, rfl, by have h4 := tmod_lim x (show 0 < hi - lo + 1 by omega); omega, by have h4 := tmod_lim x (show 0 < hi - lo + 1 by omega); omega, rfl⟩
    rintro e w ⟨y, h0, h1, hy0, hy1, hw1⟩
    refine W.seq ?_
    subst hw1
    refine W.region ?_
    refine WL.c rfl (o_mvh h1 ?_)
    refine WL.c rfl (o_mvh h0 ?_)
    refine WL.c rfl (o_addi rfl rfl (by omega) ?_)
    refine WL.c rfl (o_ash (show _ = Value.int _ _ from rfl) ?_)
    refine WL.nil ?_
    refine W.ret ?_
    refine ret1v rfl (show _ = Value.int _ _ from rfl) ?_
    exact ⟨⟨_, rfl, by omega, by omega⟩, rfl⟩
set_option maxHeartbeats 4000000 in
theorem made1_spec (p : Pg) (cv ev_ : Value) (c : UInt8) (x : Int) (w0 : World) (hp : PgR w0 p cv ev_) (hx_ : -9223372036854775808 ≤ x ∧ x ≤ 9223372036854775807) (hnc : 1 ≤ p.code.length ∧ p.code.length ≤ 1000000) (hne : 1 ≤ p.ent.length ∧ p.ent.length ≤ 1000000) : Ca Tryd.prog 41 #[.agg (pgV p cv ev_).toArray, bv c, .int .i64 x] w0 (fun r w' => ∃ q, r = .int .i64 q ∧ madN p.code.length p.ent.length c.toNat q ∧ Ext w0 w') := by
  have h1 := hp.one.2.2.1
  have h2 := hp.one.2.2.2
  refine Ca.of Tryd.func41 Tryd.ntmps41 rfl rfl ?_
  refine W.seq ?_
  refine W.region ?_
  refine WL.c rfl (o_boxB rfl ?_)
  intro w3 hC3 hx3 hs3
  obtain ⟨b3, hb3⟩ : ∃ b, b = w0.heap.size := ⟨_, rfl⟩
  rw [← hb3] at hC3 ⊢
  replace hC3 : w3.heap[b3]? = some (.cells (pgV p cv ev_).toArray 26 (0, 0)) := hC3
  have hx : Ext w0 w3 := hx3
  refine WL.c rfl (o_ash (show _ = Value.int _ _ from rfl) ?_)
  refine WL.nil ?_
  refine W.seq ?_
  refine W.seq ?_
  refine W.region ?_
  refine WL.c rfl (o_mvh (show _ = Value.int _ _ from rfl) ?_)
  refine WL.nil ?_
  refine W.block ?_
  refine W.seq ?_
  refine W.seq ?_
  refine W.region ?_
  refine WL.c rfl (o_eq rfl rfl ?_)
  refine WL.c rfl (o_ash (show _ = Value.bool _ from rfl) ?_)
  refine WL.nil ?_
  refine W.cut (fun e1 w1 => e1 8 = .bool (decide (c.toNat = 107 ∨ c.toNat = 112)) ∧ e1 0 = .agg (pgV p cv ev_).toArray ∧ e1 2 = .int .i64 x ∧ e1 3 = .pointer (some ⟨b3, 0, none⟩) ∧ e1 7 = bv c ∧ w1 = w3) ?_ ?_
  · -- both ways
    refine W.cond rfl (fun c8 => ?_) (fun c8 => ?_)
    · try simp only [decide_eq_true_eq, decide_eq_false_iff_not, Bool.not_eq_true', Bool.not_eq_false', Bool.and_eq_true, Bool.or_eq_true, Bool.and_eq_false_iff, Bool.or_eq_false_iff] at c8
      refine W.skip ?_
      first | exact ⟨congrArg Value.bool (decide_eq_decide.2 (by omega)), rfl, rfl, rfl, rfl, rfl⟩
    · try simp only [decide_eq_true_eq, decide_eq_false_iff_not, Bool.not_eq_true', Bool.not_eq_false', Bool.and_eq_true, Bool.or_eq_true, Bool.and_eq_false_iff, Bool.or_eq_false_iff] at c8
      refine W.region ?_
      refine WL.c rfl (o_eq rfl rfl ?_)
      refine WL.c rfl (o_ash (show _ = Value.bool _ from rfl) ?_)
      refine WL.nil ?_
      first | exact ⟨congrArg Value.bool (decide_eq_decide.2 (by omega)), rfl, rfl, rfl, rfl, rfl⟩
  rintro e w ⟨h8, h0, h2, h3, h7, hw1⟩
  refine W.cond h8 (fun c8 => ?_) (fun c8 => ?_)
  · try simp only [decide_eq_true_eq, decide_eq_false_iff_not, Bool.not_eq_true', Bool.not_eq_false', Bool.and_eq_true, Bool.or_eq_true, Bool.and_eq_false_iff, Bool.or_eq_false_iff] at c8
    refine W.seq ?_
    subst hw1
    refine W.region ?_
    refine WL.c rfl (o_mvh h2 ?_)
    refine WL.c rfl (o_call Tryd.call39 (lc rfl (lc rfl (lc rfl ln))) ((brought_spec x (-1) (63) _ hx_ (by omega) (by omega) (by omega)).mono ?_))
    rintro v12 w12 ⟨⟨q, rfl, hq0, hq1⟩, rfl⟩
    refine WL.c rfl (o_ash (show _ = Value.int _ _ from rfl) ?_)
    refine WL.nil ?_
    refine W.ret ?_
    refine ret1v rfl (show _ = Value.int _ _ from rfl) ?_
    refine ⟨_, rfl, ?_, hx⟩
    unfold madN
    repeat (first | rw [if_neg (by omega)] | rw [if_pos (by omega)])
    all_goals first | rfl | omega | (split <;> omega) | (refine ⟨?_, ?_⟩ <;> first | omega | (split <;> omega)) | (simp; omega)
  · try simp only [decide_eq_true_eq, decide_eq_false_iff_not, Bool.not_eq_true', Bool.not_eq_false', Bool.and_eq_true, Bool.or_eq_true, Bool.and_eq_false_iff, Bool.or_eq_false_iff] at c8
    refine W.seq ?_
    subst hw1
    refine W.region ?_
    refine WL.c rfl (o_eq h7 rfl ?_)
    refine WL.c rfl (o_ash (show _ = Value.bool _ from rfl) ?_)
    refine WL.nil ?_
    refine W.cond rfl (fun c13 => ?_) (fun c13 => ?_)
    · try simp only [decide_eq_true_eq, decide_eq_false_iff_not, Bool.not_eq_true', Bool.not_eq_false', Bool.and_eq_true, Bool.or_eq_true, Bool.and_eq_false_iff, Bool.or_eq_false_iff] at c13
      refine W.seq ?_
      refine W.region ?_
      refine WL.c rfl (o_mvh h2 ?_)
      refine WL.c rfl (o_call Tryd.call39 (lc rfl (lc rfl (lc rfl ln))) ((brought_spec x (0) (61) _ hx_ (by omega) (by omega) (by omega)).mono ?_))
      rintro v16 w16 ⟨⟨q, rfl, hq0, hq1⟩, rfl⟩
      refine WL.c rfl (o_ash (show _ = Value.int _ _ from rfl) ?_)
      refine WL.nil ?_
      refine W.ret ?_
      refine ret1v rfl (show _ = Value.int _ _ from rfl) ?_
      refine ⟨_, rfl, ?_, hx⟩
      unfold madN
      repeat (first | rw [if_neg (by omega)] | rw [if_pos (by omega)])
      all_goals first | rfl | omega | (split <;> omega) | (refine ⟨?_, ?_⟩ <;> first | omega | (split <;> omega)) | (simp; omega)
    · try simp only [decide_eq_true_eq, decide_eq_false_iff_not, Bool.not_eq_true', Bool.not_eq_false', Bool.and_eq_true, Bool.or_eq_true, Bool.and_eq_false_iff, Bool.or_eq_false_iff] at c13
      refine W.seq ?_
      refine W.region ?_
      refine WL.c rfl (o_eq h7 rfl ?_)
      refine WL.c rfl (o_ash (show _ = Value.bool _ from rfl) ?_)
      refine WL.nil ?_
      refine W.cond rfl (fun c17 => ?_) (fun c17 => ?_)
      · try simp only [decide_eq_true_eq, decide_eq_false_iff_not, Bool.not_eq_true', Bool.not_eq_false', Bool.and_eq_true, Bool.or_eq_true, Bool.and_eq_false_iff, Bool.or_eq_false_iff] at c17
        refine W.seq ?_
        refine W.region ?_
        refine WL.c rfl (o_mvh h2 ?_)
        refine WL.c rfl (o_call Tryd.call39 (lc rfl (lc rfl (lc rfl ln))) ((brought_spec x (0) (3) _ hx_ (by omega) (by omega) (by omega)).mono ?_))
        rintro v20 w20 ⟨⟨q, rfl, hq0, hq1⟩, rfl⟩
        refine WL.c rfl (o_cvN TI3 TI109 (show _ = Value.int .i64 q from rfl) (by omega) (by omega) ?_)
        refine WL.c rfl (o_shl (show _ = Value.int .i64 1 from rfl) (show _ = Value.int .u64 _ from rfl) (by omega) ?_)
        refine WL.c rfl (o_ash (show _ = Value.int _ _ from rfl) ?_)
        refine WL.nil ?_
        refine W.ret ?_
        refine ret1v rfl (show _ = Value.int _ _ from rfl) ?_
        refine ⟨_, rfl, ?_, hx⟩
        unfold madN
        repeat (first | rw [if_neg (by omega)] | rw [if_pos (by omega)])
        have hq : q = 0 ∨ q = 1 ∨ q = 2 ∨ q = 3 := by omega
        rcases hq with rfl | rfl | rfl | rfl <;> decide
      · try simp only [decide_eq_true_eq, decide_eq_false_iff_not, Bool.not_eq_true', Bool.not_eq_false', Bool.and_eq_true, Bool.or_eq_true, Bool.and_eq_false_iff, Bool.or_eq_false_iff] at c17
        refine W.seq ?_
        refine W.region ?_
        refine WL.c rfl (o_eq h7 rfl ?_)
        refine WL.c rfl (o_ash (show _ = Value.bool _ from rfl) ?_)
        refine WL.nil ?_
        refine W.cond rfl (fun c23 => ?_) (fun c23 => ?_)
        · try simp only [decide_eq_true_eq, decide_eq_false_iff_not, Bool.not_eq_true', Bool.not_eq_false', Bool.and_eq_true, Bool.or_eq_true, Bool.and_eq_false_iff, Bool.or_eq_false_iff] at c23
          refine W.seq ?_
          refine W.region ?_
          refine WL.c rfl (o_ash (show _ = Value.int _ _ from rfl) ?_)
          refine WL.nil ?_
          refine W.ret ?_
          refine ret1v rfl (show _ = Value.int _ _ from rfl) ?_
          refine ⟨_, rfl, ?_, hx⟩
          unfold madN
          repeat (first | rw [if_neg (by omega)] | rw [if_pos (by omega)])
          all_goals first | rfl | omega | (split <;> omega) | (refine ⟨?_, ?_⟩ <;> first | omega | (split <;> omega)) | (simp; omega)
        · try simp only [decide_eq_true_eq, decide_eq_false_iff_not, Bool.not_eq_true', Bool.not_eq_false', Bool.and_eq_true, Bool.or_eq_true, Bool.and_eq_false_iff, Bool.or_eq_false_iff] at c23
          refine W.seq ?_
          refine W.region ?_
          refine WL.c rfl (o_eq h7 rfl ?_)
          refine WL.c rfl (o_ash (show _ = Value.bool _ from rfl) ?_)
          refine WL.nil ?_
          refine W.cond rfl (fun c25 => ?_) (fun c25 => ?_)
          · try simp only [decide_eq_true_eq, decide_eq_false_iff_not, Bool.not_eq_true', Bool.not_eq_false', Bool.and_eq_true, Bool.or_eq_true, Bool.and_eq_false_iff, Bool.or_eq_false_iff] at c25
            refine W.seq ?_
            refine W.region ?_
            refine WL.c rfl (o_mvh h2 ?_)
            refine WL.c rfl (o_call Tryd.call39 (lc rfl (lc rfl (lc rfl ln))) ((brought_spec x (4) (400) _ hx_ (by omega) (by omega) (by omega)).mono ?_))
            rintro v28 w28 ⟨⟨q, rfl, hq0, hq1⟩, rfl⟩
            refine WL.c rfl (o_ash (show _ = Value.int _ _ from rfl) ?_)
            refine WL.nil ?_
            refine W.ret ?_
            refine ret1v rfl (show _ = Value.int _ _ from rfl) ?_
            refine ⟨_, rfl, ?_, hx⟩
            unfold madN
            repeat (first | rw [if_neg (by omega)] | rw [if_pos (by omega)])
            all_goals first | rfl | omega | (split <;> omega) | (refine ⟨?_, ?_⟩ <;> first | omega | (split <;> omega)) | (simp; omega)
          · try simp only [decide_eq_true_eq, decide_eq_false_iff_not, Bool.not_eq_true', Bool.not_eq_false', Bool.and_eq_true, Bool.or_eq_true, Bool.and_eq_false_iff, Bool.or_eq_false_iff] at c25
            refine W.seq ?_
            refine W.region ?_
            refine WL.c rfl (o_eq h7 rfl ?_)
            refine WL.c rfl (o_ash (show _ = Value.bool _ from rfl) ?_)
            refine WL.nil ?_
            refine W.cond rfl (fun c29 => ?_) (fun c29 => ?_)
            · try simp only [decide_eq_true_eq, decide_eq_false_iff_not, Bool.not_eq_true', Bool.not_eq_false', Bool.and_eq_true, Bool.or_eq_true, Bool.and_eq_false_iff, Bool.or_eq_false_iff] at c29
              refine W.seq ?_
              refine W.region ?_
              refine WL.c rfl (o_mvh h2 ?_)
              refine WL.c rfl (o_call Tryd.call39 (lc rfl (lc rfl (lc rfl ln))) ((brought_spec x (1) (1048576) _ hx_ (by omega) (by omega) (by omega)).mono ?_))
              rintro v32 w32 ⟨⟨q, rfl, hq0, hq1⟩, rfl⟩
              refine WL.c rfl (o_ash (show _ = Value.int _ _ from rfl) ?_)
              refine WL.nil ?_
              refine W.ret ?_
              refine ret1v rfl (show _ = Value.int _ _ from rfl) ?_
              refine ⟨_, rfl, ?_, hx⟩
              unfold madN
              repeat (first | rw [if_neg (by omega)] | rw [if_pos (by omega)])
              all_goals first | rfl | omega | (split <;> omega) | (refine ⟨?_, ?_⟩ <;> first | omega | (split <;> omega)) | (simp; omega)
            · try simp only [decide_eq_true_eq, decide_eq_false_iff_not, Bool.not_eq_true', Bool.not_eq_false', Bool.and_eq_true, Bool.or_eq_true, Bool.and_eq_false_iff, Bool.or_eq_false_iff] at c29
              refine W.seq ?_
              refine W.region ?_
              refine WL.c rfl (o_eq h7 rfl ?_)
              refine WL.c rfl (o_ash (show _ = Value.bool _ from rfl) ?_)
              refine WL.nil ?_
              refine W.cond rfl (fun c33 => ?_) (fun c33 => ?_)
              · try simp only [decide_eq_true_eq, decide_eq_false_iff_not, Bool.not_eq_true', Bool.not_eq_false', Bool.and_eq_true, Bool.or_eq_true, Bool.and_eq_false_iff, Bool.or_eq_false_iff] at c33
                refine W.seq ?_
                refine W.region ?_
                refine WL.c rfl (o_mvh h2 ?_)
                refine WL.c rfl (o_call Tryd.call39 (lc rfl (lc rfl (lc rfl ln))) ((brought_spec x (1) (64) _ hx_ (by omega) (by omega) (by omega)).mono ?_))
                rintro v36 w36 ⟨⟨q, rfl, hq0, hq1⟩, rfl⟩
                refine WL.c rfl (o_ash (show _ = Value.int _ _ from rfl) ?_)
                refine WL.nil ?_
                refine W.ret ?_
                refine ret1v rfl (show _ = Value.int _ _ from rfl) ?_
                refine ⟨_, rfl, ?_, hx⟩
                unfold madN
                repeat (first | rw [if_neg (by omega)] | rw [if_pos (by omega)])
                all_goals first | rfl | omega | (split <;> omega) | (refine ⟨?_, ?_⟩ <;> first | omega | (split <;> omega)) | (simp; omega)
              · try simp only [decide_eq_true_eq, decide_eq_false_iff_not, Bool.not_eq_true', Bool.not_eq_false', Bool.and_eq_true, Bool.or_eq_true, Bool.and_eq_false_iff, Bool.or_eq_false_iff] at c33
                refine W.seq ?_
                refine W.region ?_
                refine WL.c rfl (o_eq h7 rfl ?_)
                refine WL.c rfl (o_ash (show _ = Value.bool _ from rfl) ?_)
                refine WL.nil ?_
                refine W.cond rfl (fun c37 => ?_) (fun c37 => ?_)
                · try simp only [decide_eq_true_eq, decide_eq_false_iff_not, Bool.not_eq_true', Bool.not_eq_false', Bool.and_eq_true, Bool.or_eq_true, Bool.and_eq_false_iff, Bool.or_eq_false_iff] at c37
                  refine W.seq ?_
                  refine W.region ?_
                  refine WL.c rfl (o_mvh h2 ?_)
                  refine WL.c rfl (o_call Tryd.call39 (lc rfl (lc rfl (lc rfl ln))) ((brought_spec x (0) (255) _ hx_ (by omega) (by omega) (by omega)).mono ?_))
                  rintro v40 w40 ⟨⟨q, rfl, hq0, hq1⟩, rfl⟩
                  refine WL.c rfl (o_ash (show _ = Value.int _ _ from rfl) ?_)
                  refine WL.nil ?_
                  refine W.ret ?_
                  refine ret1v rfl (show _ = Value.int _ _ from rfl) ?_
                  refine ⟨_, rfl, ?_, hx⟩
                  unfold madN
                  repeat (first | rw [if_neg (by omega)] | rw [if_pos (by omega)])
                  all_goals first | rfl | omega | (split <;> omega) | (refine ⟨?_, ?_⟩ <;> first | omega | (split <;> omega)) | (simp; omega)
                · try simp only [decide_eq_true_eq, decide_eq_false_iff_not, Bool.not_eq_true', Bool.not_eq_false', Bool.and_eq_true, Bool.or_eq_true, Bool.and_eq_false_iff, Bool.or_eq_false_iff] at c37
                  refine W.seq ?_
                  refine W.region ?_
                  refine WL.c rfl (o_eq h7 rfl ?_)
                  refine WL.c rfl (o_ash (show _ = Value.bool _ from rfl) ?_)
                  refine WL.nil ?_
                  refine W.cond rfl (fun c41 => ?_) (fun c41 => ?_)
                  · try simp only [decide_eq_true_eq, decide_eq_false_iff_not, Bool.not_eq_true', Bool.not_eq_false', Bool.and_eq_true, Bool.or_eq_true, Bool.and_eq_false_iff, Bool.or_eq_false_iff] at c41
                    refine W.seq ?_
                    refine W.region ?_
                    refine WL.c rfl (o_mvh h2 ?_)
                    refine WL.c rfl (o_call Tryd.call39 (lc rfl (lc rfl (lc rfl ln))) ((brought_spec x (0) (300) _ hx_ (by omega) (by omega) (by omega)).mono ?_))
                    rintro v44 w44 ⟨⟨q, rfl, hq0, hq1⟩, rfl⟩
                    refine WL.c rfl (o_ash (show _ = Value.int _ _ from rfl) ?_)
                    refine WL.nil ?_
                    refine W.ret ?_
                    refine ret1v rfl (show _ = Value.int _ _ from rfl) ?_
                    refine ⟨_, rfl, ?_, hx⟩
                    unfold madN
                    repeat (first | rw [if_neg (by omega)] | rw [if_pos (by omega)])
                    all_goals first | rfl | omega | (split <;> omega) | (refine ⟨?_, ?_⟩ <;> first | omega | (split <;> omega)) | (simp; omega)
                  · try simp only [decide_eq_true_eq, decide_eq_false_iff_not, Bool.not_eq_true', Bool.not_eq_false', Bool.and_eq_true, Bool.or_eq_true, Bool.and_eq_false_iff, Bool.or_eq_false_iff] at c41
                    refine W.seq ?_
                    refine W.region ?_
                    refine WL.c rfl (o_eq h7 rfl ?_)
                    refine WL.c rfl (o_ash (show _ = Value.bool _ from rfl) ?_)
                    refine WL.nil ?_
                    refine W.cond rfl (fun c45 => ?_) (fun c45 => ?_)
                    · try simp only [decide_eq_true_eq, decide_eq_false_iff_not, Bool.not_eq_true', Bool.not_eq_false', Bool.and_eq_true, Bool.or_eq_true, Bool.and_eq_false_iff, Bool.or_eq_false_iff] at c45
                      refine W.seq ?_
                      refine W.region ?_
                      refine WL.c rfl (o_mvh h2 ?_)
                      refine WL.c rfl (o_call Tryd.call39 (lc rfl (lc rfl (lc rfl ln))) ((brought_spec x (-1) (16777215) _ hx_ (by omega) (by omega) (by omega)).mono ?_))
                      rintro v48 w48 ⟨⟨q, rfl, hq0, hq1⟩, rfl⟩
                      refine WL.c rfl (o_ash (show _ = Value.int _ _ from rfl) ?_)
                      refine WL.nil ?_
                      refine W.ret ?_
                      refine ret1v rfl (show _ = Value.int _ _ from rfl) ?_
                      refine ⟨_, rfl, ?_, hx⟩
                      unfold madN
                      repeat (first | rw [if_neg (by omega)] | rw [if_pos (by omega)])
                      all_goals first | rfl | omega | (split <;> omega) | (refine ⟨?_, ?_⟩ <;> first | omega | (split <;> omega)) | (simp; omega)
                    · try simp only [decide_eq_true_eq, decide_eq_false_iff_not, Bool.not_eq_true', Bool.not_eq_false', Bool.and_eq_true, Bool.or_eq_true, Bool.and_eq_false_iff, Bool.or_eq_false_iff] at c45
                      refine W.seq ?_
                      refine W.region ?_
                      refine WL.c rfl (o_eq h7 rfl ?_)
                      refine WL.c rfl (o_ash (show _ = Value.bool _ from rfl) ?_)
                      refine WL.nil ?_
                      refine W.cond rfl (fun c49 => ?_) (fun c49 => ?_)
                      · try simp only [decide_eq_true_eq, decide_eq_false_iff_not, Bool.not_eq_true', Bool.not_eq_false', Bool.and_eq_true, Bool.or_eq_true, Bool.and_eq_false_iff, Bool.or_eq_false_iff] at c49
                        refine W.seq ?_
                        refine W.region ?_
                        refine WL.c rfl (o_mvh h2 ?_)
                        refine WL.c rfl (o_call Tryd.call39 (lc rfl (lc rfl (lc rfl ln))) ((brought_spec x (0) (300) _ hx_ (by omega) (by omega) (by omega)).mono ?_))
                        rintro v52 w52 ⟨⟨q, rfl, hq0, hq1⟩, rfl⟩
                        refine WL.c rfl (o_maxI rfl rfl ?_)
                        refine WL.c rfl (o_ash (show _ = Value.int _ _ from rfl) ?_)
                        refine WL.nil ?_
                        refine W.ret ?_
                        refine ret1v rfl (show _ = Value.int _ _ from rfl) ?_
                        refine ⟨_, rfl, ?_, hx⟩
                        unfold madN
                        repeat (first | rw [if_neg (by omega)] | rw [if_pos (by omega)])
                        all_goals first | rfl | omega | (split <;> omega) | (refine ⟨?_, ?_⟩ <;> first | omega | (split <;> omega)) | (simp; omega)
                      · try simp only [decide_eq_true_eq, decide_eq_false_iff_not, Bool.not_eq_true', Bool.not_eq_false', Bool.and_eq_true, Bool.or_eq_true, Bool.and_eq_false_iff, Bool.or_eq_false_iff] at c49
                        refine W.seq ?_
                        refine W.region ?_
                        refine WL.c rfl (o_eq h7 rfl ?_)
                        refine WL.c rfl (o_ash (show _ = Value.bool _ from rfl) ?_)
                        refine WL.nil ?_
                        refine W.cond rfl (fun c54 => ?_) (fun c54 => ?_)
                        · try simp only [decide_eq_true_eq, decide_eq_false_iff_not, Bool.not_eq_true', Bool.not_eq_false', Bool.and_eq_true, Bool.or_eq_true, Bool.and_eq_false_iff, Bool.or_eq_false_iff] at c54
                          refine W.seq ?_
                          refine W.region ?_
                          refine WL.c rfl (o_mvh h2 ?_)
                          refine WL.c rfl (o_call Tryd.call39 (lc rfl (lc rfl (lc rfl ln))) ((brought_spec x (1) (16777216) _ hx_ (by omega) (by omega) (by omega)).mono ?_))
                          rintro v57 w57 ⟨⟨q, rfl, hq0, hq1⟩, rfl⟩
                          refine WL.c rfl (o_ash (show _ = Value.int _ _ from rfl) ?_)
                          refine WL.nil ?_
                          refine W.ret ?_
                          refine ret1v rfl (show _ = Value.int _ _ from rfl) ?_
                          refine ⟨_, rfl, ?_, hx⟩
                          unfold madN
                          repeat (first | rw [if_neg (by omega)] | rw [if_pos (by omega)])
                          all_goals first | rfl | omega | (split <;> omega) | (refine ⟨?_, ?_⟩ <;> first | omega | (split <;> omega)) | (simp; omega)
                        · try simp only [decide_eq_true_eq, decide_eq_false_iff_not, Bool.not_eq_true', Bool.not_eq_false', Bool.and_eq_true, Bool.or_eq_true, Bool.and_eq_false_iff, Bool.or_eq_false_iff] at c54
                          refine W.seq ?_
                          refine W.region ?_
                          refine WL.c rfl (o_eq h7 rfl ?_)
                          refine WL.c rfl (o_ash (show _ = Value.bool _ from rfl) ?_)
                          refine WL.nil ?_
                          refine W.cond rfl (fun c58 => ?_) (fun c58 => ?_)
                          · try simp only [decide_eq_true_eq, decide_eq_false_iff_not, Bool.not_eq_true', Bool.not_eq_false', Bool.and_eq_true, Bool.or_eq_true, Bool.and_eq_false_iff, Bool.or_eq_false_iff] at c58
                            refine W.seq ?_
                            refine W.region ?_
                            refine WL.c rfl (o_mvh h2 ?_)
                            refine WL.c rfl (o_fa 1 TI26 rfl TI23 rfl h3 ?_)
                            refine WL.c rfl (o_ld TI23 rfl rfl (cell_of hC3 rfl) ?_)
                            refine WL.c rfl (o_lenR TI23 rfl (hp.code.ext hx) ?_)
                            refine WL.c rfl (o_subi rfl rfl (by omega) ?_)
                            refine WL.c rfl (o_call Tryd.call39 (lc rfl (lc rfl (lc rfl ln))) ((brought_spec x (0) (((p.code.length : Int) - 1)) _ hx_ (by omega) (by omega) (by omega)).mono ?_))
                            rintro v65 w65 ⟨⟨q, rfl, hq0, hq1⟩, rfl⟩
                            refine WL.c rfl (o_ash (show _ = Value.int _ _ from rfl) ?_)
                            refine WL.nil ?_
                            refine W.ret ?_
                            refine ret1v rfl (show _ = Value.int _ _ from rfl) ?_
                            refine ⟨_, rfl, ?_, hx⟩
                            unfold madN
                            repeat (first | rw [if_neg (by omega)] | rw [if_pos (by omega)])
                            all_goals first | rfl | omega | (split <;> omega) | (refine ⟨?_, ?_⟩ <;> first | omega | (split <;> omega)) | (simp; omega)
                          · try simp only [decide_eq_true_eq, decide_eq_false_iff_not, Bool.not_eq_true', Bool.not_eq_false', Bool.and_eq_true, Bool.or_eq_true, Bool.and_eq_false_iff, Bool.or_eq_false_iff] at c58
                            refine W.seq ?_
                            refine W.region ?_
                            refine WL.c rfl (o_eq h7 rfl ?_)
                            refine WL.c rfl (o_ash (show _ = Value.bool _ from rfl) ?_)
                            refine WL.nil ?_
                            refine W.cond rfl (fun c66 => ?_) (fun c66 => ?_)
                            · try simp only [decide_eq_true_eq, decide_eq_false_iff_not, Bool.not_eq_true', Bool.not_eq_false', Bool.and_eq_true, Bool.or_eq_true, Bool.and_eq_false_iff, Bool.or_eq_false_iff] at c66
                              refine W.seq ?_
                              refine W.region ?_
                              refine WL.c rfl (o_mvh h2 ?_)
                              refine WL.c rfl (o_fa 2 TI26 rfl TI24 rfl h3 ?_)
                              refine WL.c rfl (o_ld TI24 rfl rfl (cell_of hC3 rfl) ?_)
                              refine WL.c rfl (o_lenR TI24 rfl (hp.ent.ext hx) ?_)
                              refine WL.c rfl (o_subi rfl rfl (by omega) ?_)
                              refine WL.c rfl (o_call Tryd.call39 (lc rfl (lc rfl (lc rfl ln))) ((brought_spec x (0) (((p.ent.length : Int) - 1)) _ hx_ (by omega) (by omega) (by omega)).mono ?_))
                              rintro v73 w73 ⟨⟨q, rfl, hq0, hq1⟩, rfl⟩
                              refine WL.c rfl (o_ash (show _ = Value.int _ _ from rfl) ?_)
                              refine WL.nil ?_
                              refine W.ret ?_
                              refine ret1v rfl (show _ = Value.int _ _ from rfl) ?_
                              refine ⟨_, rfl, ?_, hx⟩
                              unfold madN
                              repeat (first | rw [if_neg (by omega)] | rw [if_pos (by omega)])
                              all_goals first | rfl | omega | (split <;> omega) | (refine ⟨?_, ?_⟩ <;> first | omega | (split <;> omega)) | (simp; omega)
                            · try simp only [decide_eq_true_eq, decide_eq_false_iff_not, Bool.not_eq_true', Bool.not_eq_false', Bool.and_eq_true, Bool.or_eq_true, Bool.and_eq_false_iff, Bool.or_eq_false_iff] at c66
                              refine W.skip ?_
                              refine W.seq ?_
                              refine W.region ?_
                              refine WL.c rfl (o_ash (show _ = Value.int _ _ from rfl) ?_)
                              refine WL.nil ?_
                              refine W.ret ?_
                              refine ret1v rfl (show _ = Value.int _ _ from rfl) ?_
                              refine ⟨_, rfl, ?_, hx⟩
                              unfold madN
                              repeat (first | rw [if_neg (by omega)] | rw [if_pos (by omega)])
                              all_goals first | rfl | omega | (split <;> omega) | (refine ⟨?_, ?_⟩ <;> first | omega | (split <;> omega)) | (simp; omega)
end Go.Proofs.YthlbhnefldaoiaaDoor

set_option linter.unusedSimpArgs false
set_option linter.unusedVariables false
set_option maxRecDepth 100000
namespace Go.Proofs.YthlbhnefldaoiaaDoor
open Go Go.Vc Go.RowKit Go.Proofs

def okOp (enc : Bool) (op : Int) : Prop := if enc then op = 9 ∨ op = 19 ∨ op = 20 ∨ (33 ≤ op ∧ op ≤ 47) else 1 ≤ op ∧ op ≤ 20
theorem okOp_fm {enc : Bool} {op : Int} (h : okOp enc op) : ∃ nm l0 l1 l2, fmOf enc op = some (nm, [l0, l1, l2]) := by
  have hs : ∃ f, fmOf enc op = some f := by
    unfold okOp at h
    unfold fmOf
    cases enc with
    | true =>
      simp only [if_true] at h
      by_cases h1 : op = 9 ∨ op = 19 ∨ op = 20
      · rw [if_pos h1]; exact ⟨_, List.getElem?_eq_getElem (show op.toNat < 21 by omega)⟩
      · rw [if_neg h1, if_pos ⟨rfl, by omega⟩]; exact ⟨_, List.getElem?_eq_getElem (show op.toNat - 33 < 15 by omega)⟩
    | false =>
      simp only [Bool.false_eq_true, if_false] at h
      by_cases h1 : op = 9 ∨ op = 19 ∨ op = 20
      · rw [if_pos h1]; exact ⟨_, List.getElem?_eq_getElem (show op.toNat < 21 by omega)⟩
      · rw [if_neg h1, if_neg (by rintro ⟨h, -⟩; cases h), if_pos ⟨rfl, h⟩]; exact ⟨_, List.getElem?_eq_getElem (show op.toNat < 21 by omega)⟩
  obtain ⟨⟨nm, ls⟩, hf⟩ := hs
  obtain ⟨h3, -⟩ := fmOf_three hf
  match ls, h3 with
  | [l0, l1, l2], _ => exact ⟨nm, l0, l1, l2, hf⟩
def armNm (f : List UInt8 × List UInt8) : Prop := f.1 = [117, 110, 105, 111, 110] ∨ f.1 = [99, 104, 111, 105, 99, 101]
theorem fm_un {enc : Bool} {op : Int} {f : List UInt8 × List UInt8} (h : fmOf enc op = some f) : armNm f ↔ op = 8 ∨ op = 41 := by
  have key : ∀ (k : Fin 48) (enc : Bool), (fmOf enc ((k.val : Nat) : Int)).all (fun f => decide (f.1 = [117, 110, 105, 111, 110] ∨ f.1 = [99, 104, 111, 105, 99, 101]) == decide (k.val = 8 ∨ k.val = 41)) = true := by decide +kernel
  obtain ⟨h1, h2⟩ := fmOf_op h
  obtain ⟨k, rfl⟩ : ∃ k : Nat, op = (k : Int) := ⟨op.toNat, by omega⟩
  have := key ⟨k, by omega⟩ enc
  rw [h] at this
  simp only [Option.all_some, beq_iff_eq, decide_eq_decide] at this
  unfold armNm
  rw [this]
  omega
structure FitI (nc ne : Nat) (x : Ins) (f : List UInt8 × List UInt8) : Prop where
  fa : fitP nc ne (f.2.getD 0 0) x.a
  fb : fitP nc ne (f.2.getD 1 0) x.b
  fc : fitP nc ne (f.2.getD 2 0) x.c
  more : moreP [] 0 x f.1
/-- an instruction of Made's first loop -/
def GoodI (enc : Bool) (nc ne : Nat) (x : Ins) : Prop := ∃ f, fmOf enc x.op = some f ∧ ((armNm f ∧ x.a = 0 ∧ x.b = 0 ∧ x.c = 0 ∧ f.2 = [97, 32, 32]) ∨ (¬ armNm f ∧ FitI nc ne x f))
theorem moreP_any {L : List Ins} {i : Nat} {x : Ins} {f : List UInt8 × List UInt8} (h : moreP [] 0 x f.1) (hn : ¬ armNm f) : moreP L i x f.1 := by
  unfold armNm at hn
  unfold moreP at h ⊢
  split
  · rename_i h1; rwa [if_pos h1] at h
  · rename_i h1; rw [if_neg h1] at h
    split
    · rename_i h2; rwa [if_pos h2] at h
    · rename_i h2; rw [if_neg h2] at h
      split
      · rename_i h3; rwa [if_pos h3] at h
      · first | trivial | (rw [if_neg hn]; trivial)
theorem GoodI.ok {p : Pg} {i : Nat} (h : GoodI p.enc p.code.length p.ent.length (p.code.getD i in0)) (hn : ¬ ((p.code.getD i in0).op = 8 ∨ (p.code.getD i in0).op = 41)) : OkI p i := by
  obtain ⟨f, hf, h | ⟨h1, h2⟩⟩ := h
  · exact absurd ((fm_un hf).1 h.1) hn
  · exact ⟨f, hf, h2.fa, h2.fb, h2.fc, moreP_any h2.more h1⟩
/-- .. a union, with its arms counted -/
theorem GoodI.arms {enc : Bool} {nc ne : Nat} {x : Ins} (h : GoodI enc nc ne x) (hu : x.op = 8 ∨ x.op = 41) {p : Pg} {i : Nat} (he : p.enc = enc) {k : Nat} (hx : p.code.getD i in0 = { x with a := (k : Int) }) (h1 : 1 ≤ k ∧ k ≤ 64) (ha : ArmsP p.code i k) : OkI p i := by
  obtain ⟨f, hf, ⟨g1, g2, g3, g4, g5⟩ | ⟨g1, -⟩⟩ := h
  · refine ⟨f, ?_, ?_, ?_, ?_, ?_⟩
    · rw [hx, he]; exact hf
    · rw [hx, g5]; show fitP _ _ 97 (k : Int); simp [fitP]; omega
    · rw [hx, g5]; show fitP _ _ 32 x.b; simp [fitP, g3]
    · rw [hx, g5]; show fitP _ _ 32 x.c; simp [fitP, g4]
    · rw [hx]
      unfold moreP
      unfold armNm at g1
      rw [if_neg (by rcases g1 with h | h <;> rw [h] <;> decide), if_neg (by rcases g1 with h | h <;> rw [h] <;> decide), if_neg (by rcases g1 with h | h <;> rw [h] <;> decide), if_pos g1]
      exact ha
  · exact absurd ((fm_un hf).2 hu) g1
theorem ret_ok {p : Pg} {i : Nat} (h : p.code.getD i in0 = ret0I) : OkI p i := by
  unfold OkI
  rw [h]
  refine ⟨([114, 101, 116], [32, 32, 32]), by cases p.enc <;> rfl, fitP_blank, fitP_blank, fitP_blank, by unfold moreP; rw [if_neg (by decide), if_neg (by decide), if_neg (by decide), if_neg (by decide)]; trivial⟩
/-- what Made's loop lays: of the operands made, those of a part brought together -/
def partI (nm : List UInt8) (x : Ins) : Ins := if nm = [112, 97, 114, 116] ∧ (x.a = -1 ∨ x.b = -1) then { x with a := -1, b := -1 } else x
theorem made_good {enc : Bool} {nc ne : Nat} {op A B C : Int} {nm : List UInt8} {l0 l1 l2 : UInt8} (hf : fmOf enc op = some (nm, [l0, l1, l2])) (hA : madN nc ne l0.toNat A) (hB : madN nc ne l1.toNat B) (hC : madN nc ne l2.toNat C) : GoodI enc nc ne (partI nm ⟨op, A, B, C⟩) := by
  have hm := fmOf_mem hf
  have ho : (partI nm ⟨op, A, B, C⟩).op = op := by unfold partI; split <;> rfl
  refine ⟨(nm, [l0, l1, l2]), by rw [ho]; exact hf, ?_⟩
  clear hf ho
  unfold armNm
  simp only [dTab, cTab, List.tail_cons, List.cons_append, List.nil_append, List.mem_cons, List.not_mem_nil, or_false, Prod.mk.injEq, List.cons.injEq, and_true] at hm
  rcases hm with h | h | h | h | h | h | h | h | h | h | h | h | h | h | h | h | h | h | h | h | h | h | h | h | h | h | h | h | h | h | h | h | h | h | h <;>
  · obtain ⟨rfl, rfl, rfl, rfl⟩ := h
    simp [madN] at hA hB hC
    first
    | (left; simp [partI, hA, hB, hC]; done)
    | (right
       refine ⟨by decide, ?_⟩
       unfold partI
       first
       | (rw [if_neg (by decide)]
          refine ⟨?_, ?_, ?_, ?_⟩ <;> first | (simp [fitP]; done) | (simp [fitP]; omega) | (simp [moreP]; done) | (simp [moreP]; omega) | (subst hB; simp [moreP]; omega))
       | (rw [if_neg (by simp)]
          refine ⟨?_, ?_, ?_, ?_⟩ <;> first | (simp [fitP]; done) | (simp [fitP]; omega) | (simp [moreP]; done) | (simp [moreP]; omega) | (subst hB; simp [moreP]; omega))
       | (split
          · refine ⟨?_, ?_, ?_, ?_⟩ <;> first | (simp [fitP]; done) | (simp [fitP]; omega) | (simp [moreP]; done) | (simp [moreP]; omega)
          · rename_i hn
            refine ⟨?_, ?_, ?_, ?_⟩ <;> first | (simp [fitP]; done) | (simp [fitP]; omega) | (simp [moreP]; done) | (simp [moreP]; omega) | (simp at hn; simp [moreP]; omega)))
theorem inss_setI : ∀ (L : List Ins) (i : Nat) (x : Ins), i < L.length → (inss L).take (i * 4) ++ (insV x) ++ (inss L).drop (i * 4 + 4) = inss (L.set i x)
  | [], i, x, h => absurd h (Nat.not_lt_zero i)
  | y :: L, 0, x, _ => by simp [inss, insV]
  | y :: L, i + 1, x, h => by
    have := inss_setI L i x (by simpa using h)
    have e1 : inss (y :: L) = insV y ++ inss L := by rw [inss, List.flatMap_cons]; rfl
    have e2 : inss ((y :: L).set (i + 1) x) = insV y ++ inss (L.set i x) := by rw [List.set_cons_succ, inss, List.flatMap_cons]; rfl
    rw [e1, e2, ← this, List.take_append, List.drop_append, insV_len, show (i + 1) * 4 - 4 = i * 4 by omega, show (i + 1) * 4 + 4 - 4 = i * 4 + 4 by omega, List.take_of_length_le (by rw [insV_len]; omega), List.drop_of_length_le (by rw [insV_len]; omega)]
    simp [List.append_assoc]
theorem inss_setA : ∀ (L : List Ins) (i : Nat) (h : i < L.length) (v : Int), (inss L).set (i * 4 + 1) (.int .i64 v) = inss (L.set i { L[i] with a := v })
  | [], i, h, v => absurd h (Nat.not_lt_zero i)
  | x :: L, 0, _, v => by simp [inss, insV]
  | x :: L, i + 1, h, v => by
    have := inss_setA L i (by simpa using h) v
    rw [inss, List.flatMap_cons, ← inss, List.set_append, if_neg (by rw [insV_len]; omega), insV_len, show (i + 1) * 4 + 1 - 4 = i * 4 + 1 by omega, this]
    rfl


theorem getD_set {L : List Ins} {i j : Nat} {y : Ins} (h : j ≠ i) : (L.set i y).getD j in0 = L.getD j in0 := by
  rw [List.getD_eq_getElem?_getD, List.getD_eq_getElem?_getD, List.getElem?_set_ne (by omega)]
theorem getD_setI {L : List Ins} {i : Nat} {y : Ins} (h : i < L.length) : (L.set i y).getD i in0 = y := by
  rw [List.getD_eq_getElem?_getD, List.getElem?_set_self h]; rfl
theorem ArmsP.set {L : List Ins} {i : Nat} {y : Ins} {n : Int} : ArmsP (L.set i y) i n ↔ ArmsP L i n := by
  have key : ∀ (y : Ins) (L : List Ins), ArmsP L i n → ArmsP (L.set i y) i n := fun y L h => ⟨by rw [List.length_set]; exact h.room, fun k h1 h2 => by rw [getD_set (by omega)]; exact h.arm k h1 h2, fun j k h1 h2 h3 => by rw [getD_set (by omega), getD_set (by omega)]; exact h.tags j k h1 h2 h3⟩
  refine ⟨fun h => ?_, key y L⟩
  by_cases hi : i < L.length
  · have := key (L.getD i in0) _ h
    rw [List.set_set] at this
    have e : L.set i (L.getD i in0) = L := by
      apply List.ext_getElem?
      intro j
      by_cases hj : j = i
      · subst hj; rw [List.getElem?_set_self hi, List.getD_eq_getElem?_getD, List.getElem?_eq_getElem hi]; rfl
      · rw [List.getElem?_set_ne (by omega)]
    rwa [e] at this
  · rwa [List.set_eq_of_length_le (by omega)] at h
theorem ArmsP.zero {L : List Ins} {i : Nat} (h : i < L.length) : ArmsP L i 0 := ⟨by omega, fun k h1 h2 => by omega, fun j k h1 h2 h3 => by omega⟩
theorem OkI.ent {e : Bool} {L : List Ins} {E E' : List Int} {j : Nat} (h : OkI ⟨e, L, E⟩ j) (hl : E.length = E'.length) : OkI ⟨e, L, E'⟩ j := by
  obtain ⟨f, h1, h2, h3, h4, h5⟩ := h
  refine ⟨f, h1, ?_, ?_, ?_, h5⟩
  · show fitP L.length E'.length _ _; rw [← hl]; exact h2
  · show fitP L.length E'.length _ _; rw [← hl]; exact h3
  · show fitP L.length E'.length _ _; rw [← hl]; exact h4
theorem OkI.set {e : Bool} {L : List Ins} {E : List Int} {i j : Nat} {y : Ins} (h : OkI ⟨e, L, E⟩ j) (hj : j ≠ i) (h9 : (L.getD i in0).op ≠ 9) : OkI ⟨e, L.set i y, E⟩ j := by
  obtain ⟨f, h1, h2, h3, h4, h5⟩ := h
  have eg : (L.set i y).getD j in0 = L.getD j in0 := getD_set hj
  refine ⟨f, ?_, ?_, ?_, ?_, ?_⟩
  · show fmOf e ((L.set i y).getD j in0).op = _; rw [eg]; exact h1
  · show fitP (L.set i y).length _ _ ((L.set i y).getD j in0).a; rw [eg, List.length_set]; exact h2
  · show fitP (L.set i y).length _ _ ((L.set i y).getD j in0).b; rw [eg, List.length_set]; exact h3
  · show fitP (L.set i y).length _ _ ((L.set i y).getD j in0).c; rw [eg, List.length_set]; exact h4
  · show moreP (L.set i y) j ((L.set i y).getD j in0) f.1
    rw [eg]
    replace h5 : moreP L j (L.getD j in0) f.1 := h5
    unfold moreP at h5 ⊢
    split
    · rename_i g; rwa [if_pos g] at h5
    · rename_i g; rw [if_neg g] at h5
      split
      · rename_i g2; rwa [if_pos g2] at h5
      · rename_i g2; rw [if_neg g2] at h5
        split
        · rename_i g3; rwa [if_pos g3] at h5
        · rename_i g3; rw [if_neg g3] at h5
          split
          · rename_i g4
            rw [if_pos g4] at h5
            have hk : ∀ k : Nat, 1 ≤ k → (k : Int) ≤ (L.getD j in0).a → (L.set i y).getD (j + k) in0 = L.getD (j + k) in0 := fun k k1 k2 => by
              refine getD_set (fun he => h9 ?_)
              rw [← he]; exact h5.arm k k1 k2
            exact ⟨by rw [List.length_set]; exact h5.room, fun k k1 k2 => by rw [hk k k1 k2]; exact h5.arm k k1 k2, fun a b a1 a2 a3 => by rw [hk a a1 (by omega), hk b (by omega) a3]; exact h5.tags a b a1 a2 a3⟩
          · trivial

end Go.Proofs.YthlbhnefldaoiaaDoor

set_option linter.unusedSimpArgs false
set_option linter.unusedVariables false
set_option maxRecDepth 100000
namespace Go.Proofs.YthlbhnefldaoiaaDoor
open Go Go.Vc Go.RowKit Go.Proofs

theorem madR {w : World} {b1 b2 : Nat} {t1 t2 : TypeId} {cv ev_ : Value} {e : Bool} {L : List Ins} {n m : Nat} (hl : L.length = n + 1) (h1 : w.ownsRow b1 t1 4 cv (n + 1) (inss L)) (h2 : w.ownsRow b2 t2 1 ev_ m (zs (List.replicate m 0))) : PgR w ⟨e, L, List.replicate m 0⟩ cv ev_ := by
  refine ⟨?_, ?_⟩
  · show Sl w 4 cv L.length (inss L)
    rw [hl]; exact Sl.own h1
  · show Sl w 1 ev_ (List.replicate m (0 : Int)).length (zs (List.replicate m (0 : Int)))
    rw [List.length_replicate]; exact Sl.own h2
theorem madC {w : World} {base g N c k : Nat} {t : TypeId} {L : List Ins} (h : w.ownsRow base t 4 (.slice (some ⟨g, 0, none⟩) N c) N (inss L)) (hl : L.length = N) (hk : k < N) : Cells w g (0 + k * 4) (insV (L.getD k in0)) := by
  have h1 := Sl.own h
  have e : L.getD k in0 = L[k]'(by omega) := by rw [List.getD_eq_getElem?_getD, List.getElem?_eq_getElem (by omega)]; rfl
  rw [e]
  subst hl
  exact ins_at h1 hk
theorem set_self {L : List Ins} {i : Nat} (hi : i < L.length) : L.set i (L.getD i in0) = L := by
  apply List.ext_getElem?
  intro j
  by_cases hj : j = i
  · subst hj; rw [List.getElem?_set_self hi, List.getD_eq_getElem?_getD, List.getElem?_eq_getElem hi]; rfl
  · rw [List.getElem?_set_ne (by omega)]
theorem madA {L : List Ins} {i : Nat} {x : Ins} {a v : Int} (hi : i < L.length) : (inss (L.set i { x with a := a })).set (i * 4 + 1) (.int .i64 v) = inss (L.set i { x with a := v }) := by
  rw [inss_setA _ i (by rw [List.length_set]; exact hi), List.set_set, List.getElem_set_self]

set_option maxHeartbeats 64000000 in
theorem made_spec (p : Pg) (cv ev_ : Value) (most : Nat) (w0 : World) (hp : PgR w0 p cv ev_) (hb : BPg p) (hmost : most ≤ 1000) : Ca Tryd.prog 17 #[.agg (pgV p cv ev_).toArray, .int .i64 (most : Int)] w0 (fun r w' => ∃ q cu eu, r = .agg (pgV q cu eu).toArray ∧ OkP q ∧ 0 < q.code.length ∧ q.code.length ≤ most + 1 ∧ 0 < q.ent.length ∧ w'.ownsRow w0.heap.size 28 4 cu q.code.length (inss q.code) ∧ w'.ownsRow w0.heap.size 3 1 eu q.ent.length (zs q.ent) ∧ Ext w0 w') := by
  obtain ⟨H0, hH0⟩ : ∃ H, H = w0.heap.size := ⟨_, rfl⟩
  rw [← hH0]
  have hpo := hp.one.2.2
  have hlc := hb.lc
  have hle := hb.le
  obtain ⟨n, hn⟩ : ∃ n : Nat, n = min p.code.length most := ⟨_, rfl⟩
  have hn2 : (if (most : Int) < (p.code.length : Int) then (most : Int) else (p.code.length : Int)) = (n : Int) := by split <;> omega
  obtain ⟨m0, hm0⟩ : ∃ m0 : Nat, m0 = min p.ent.length 20 := ⟨_, rfl⟩
  have hm2 : (if (20 : Int) < (p.ent.length : Int) then (20 : Int) else (p.ent.length : Int)) = (m0 : Int) := by split <;> omega
  obtain ⟨m, hm⟩ : ∃ m : Nat, m = m0 + 1 := ⟨_, rfl⟩
  have hn1 : n ≤ 1000 ∧ n ≤ p.code.length ∧ n ≤ most := by omega
  have hm1 : 1 ≤ m ∧ m ≤ 21 := by omega
  refine Ca.of Tryd.func17 Tryd.ntmps17 rfl rfl ?_
  refine W.seq ?_
  refine W.region ?_
  refine WL.c rfl (o_boxB rfl ?_)
  intro w2 hC2 hx2 hs2
  obtain ⟨b2, hb2⟩ : ∃ b, b = w0.heap.size := ⟨_, rfl⟩
  rw [← hb2] at hC2 ⊢
  replace hC2 : w2.heap[b2]? = some (.cells (pgV p cv ev_).toArray 26 (0, 0)) := hC2
  have hx : Ext w0 w2 := hx2
  refine WL.c rfl (o_alB TI26 ?_)
  intro w4 hC4 hx4 hs4
  obtain ⟨b4, hb4⟩ : ∃ b, b = w2.heap.size := ⟨_, rfl⟩
  rw [← hb4] at hC4 ⊢
  replace hC4 : w4.heap[b4]? = some (.cells ([.bool false, .slice none 0 0, .slice none 0 0]).toArray 26 (0, 0)) := hC4
  have hg4 : w0.heap.size ≤ b4 := by have := hx.size; omega
  have hl2 := (Array.getElem?_eq_some_iff.1 hC2).1
  have hb24 : b2 < b4 := by omega
  replace hx := hx.tr hx4
  replace hC2 := hx4.blk hC2 (fun h => h)
  refine WL.nil ?_
  refine W.seq ?_
  refine W.region ?_
  refine WL.c rfl (o_fa 0 TI26 rfl TI4 rfl rfl ?_)
  refine WL.c rfl (o_ld TI4 rfl rfl (cell_of hC2 rfl) ?_)
  refine WL.c rfl (o_bldC (cs := [_, (.slice none 0 0), (.slice none 0 0)]) TI26 (Sizes.cons TI4 (Sizes.cons TI23 (Sizes.cons TI24 Sizes.nil))) rfl (lcp (show _ = Value.bool _ from rfl) lnp) rfl rfl ?_)
  refine WL.c rfl (o_alB TI26 ?_)
  intro wa hCa hxa hsa
  refine WL.u (o_stA TI26 rfl (show _ = Value.agg ([.bool p.enc, .slice none 0 0, .slice none 0 0]).toArray from rfl) rfl rfl hCa rfl ?_)
  intro wb5 hC5 hob hsb
  have hxb := Ext.own hxa (Nat.le_refl _) hob
  obtain ⟨b5, hb5⟩ : ∃ b, b = w4.heap.size := ⟨_, rfl⟩
  rw [← hb5] at hC5 ⊢
  clear hCa hxa hsa hob hsb
  have hl4 := (Array.getElem?_eq_some_iff.1 hC4).1
  have hb45 : b4 < b5 := by omega
  replace hx := hx.tr hxb
  replace hC2 := hxb.blk hC2 (fun h => h)
  replace hC4 := hxb.blk hC4 (fun h => h)
  clear hxb
  refine WL.nil ?_
  refine W.seq ?_
  refine W.seq ?_
  refine W.region ?_
  refine WL.cut (fun e1 w1 => e1 40 = .bool (decide (0 < p.code.length ∧ p.code.length ≤ most ∧ 0 < p.ent.length ∧ (chk p).1 = 0)) ∧ e1 1 = .int .i64 (most : Int) ∧ e1 2 = .pointer (some ⟨b2, 0, none⟩) ∧ e1 4 = .pointer (some ⟨b4, 0, none⟩) ∧ e1 5 = .pointer (some ⟨b5, 0, none⟩) ∧ w1.heap[b2]? = some (.cells (pgV p cv ev_).toArray 26 (0, 0)) ∧ w1.heap[b4]? = some (.cells ([.bool false, .slice none 0 0, .slice none 0 0]).toArray 26 (0, 0)) ∧ w1.heap[b5]? = some (.cells #[.bool p.enc, .slice none 0 0, .slice none 0 0] 26 (0, 0)) ∧ Ext w0 w1) ?_ ?_
  · -- region 2
    refine WL.c rfl (o_fa 1 TI26 rfl TI23 rfl rfl ?_)
    refine WL.c rfl (o_ld TI23 rfl rfl (cell_of hC2 rfl) ?_)
    refine WL.c rfl (o_lenR TI23 rfl (hp.code.ext hx) ?_)
    refine WL.c rfl (o_gt rfl rfl ?_)
    refine WL.c rfl (o_mvh (show _ = Value.bool _ from rfl) ?_)
    refine WL.sp 4 rfl (fun g22 => ?_) (fun g22 => ?_)
    · skip
      refine WL.g rfl (g22) rfl (o_fa 1 TI26 rfl TI23 rfl rfl ?_)
      refine WL.g rfl (g22) rfl (o_ld TI23 rfl rfl (cell_of hC2 rfl) ?_)
      refine WL.g rfl (g22) rfl (o_lenR TI23 rfl (hp.code.ext hx) ?_)
      refine WL.g rfl (g22) rfl (o_mvh (show _ = Value.int _ _ from rfl) ?_)
      refine WL.g rfl (g22) rfl (o_le rfl rfl ?_)
      refine WL.c rfl (o_pickA rfl rfl ?_)
      refine WL.c rfl (o_mvh (show _ = Value.bool _ from rfl) ?_)
      refine WL.sp 11 rfl (fun g29 => ?_) (fun g29 => ?_)
      · skip
        refine WL.g rfl (g29) rfl (o_fa 2 TI26 rfl TI24 rfl rfl ?_)
        refine WL.g rfl (g29) rfl (o_ld TI24 rfl rfl (cell_of hC2 rfl) ?_)
        refine WL.g rfl (g29) rfl (o_lenR TI24 rfl (hp.ent.ext hx) ?_)
        refine WL.g rfl (g29) rfl (o_gt rfl rfl ?_)
        refine WL.c rfl (o_pickA rfl rfl ?_)
        refine WL.c rfl (o_mvh (show _ = Value.bool _ from rfl) ?_)
        refine WL.sp 17 rfl (fun g35 => ?_) (fun g35 => ?_)
        · skip
          refine WL.g rfl (g35) rfl (o_ldA TI26 rfl rfl (show Cells _ b2 0 (pgV p cv ev_) from Cells.of hC2 0 _ (by simp)) rfl ?_)
          refine WL.g rfl (g35) rfl (o_call Tryd.call35 (lc rfl ln) ((rcheck_spec p cv ev_ _ (hp.ext hx) (by have h9 := g29; simp at h9; omega) (by omega)).mono ?_))
          rintro v37 w37 ⟨rfl, hx37⟩
          replace hx := hx.tr hx37
          replace hC2 := hx37.blk hC2 (fun h => h)
          replace hC4 := hx37.blk hC4 (fun h => h)
          replace hC5 := hx37.blk hC5 (fun h => h)
          refine WL.g rfl (g35) rfl (o_fldT TI32 rfl rfl rfl TI30 rfl rfl rfl ?_)
          refine WL.g rfl (g35) rfl (o_eq rfl rfl ?_)
          refine WL.c rfl (o_pickA rfl rfl ?_)
          exact WL.nil (⟨congrArg Value.bool (by rw [Bool.eq_iff_iff, decide_eq_true_iff]; first | (simp_all; done) | (simp_all; omega)), rfl, rfl, rfl, rfl, hC2, hC4, hC5, hx⟩)
        · skip
          refine WL.s rfl (g35) rfl ?_
          refine WL.s rfl (g35) rfl ?_
          refine WL.s rfl (g35) rfl ?_
          refine WL.s rfl (g35) rfl ?_
          refine WL.c rfl (o_pickF rfl (g35) ?_)
          exact WL.nil (⟨congrArg Value.bool (by rw [Bool.eq_iff_iff, decide_eq_true_iff]; first | (simp_all; done) | (simp_all; omega)), rfl, rfl, rfl, rfl, hC2, hC4, hC5, hx⟩)
      · skip
        refine WL.s rfl (g29) rfl ?_
        refine WL.s rfl (g29) rfl ?_
        refine WL.s rfl (g29) rfl ?_
        refine WL.s rfl (g29) rfl ?_
        refine WL.c rfl (o_pickF rfl (g29) ?_)
        refine WL.c rfl (o_mvh (show _ = Value.bool _ from rfl) ?_)
        refine WL.s rfl (rfl) rfl ?_
        refine WL.s rfl (rfl) rfl ?_
        refine WL.s rfl (rfl) rfl ?_
        refine WL.s rfl (rfl) rfl ?_
        refine WL.c rfl (o_pickF rfl (rfl) ?_)
        exact WL.nil (⟨congrArg Value.bool (by rw [Bool.eq_iff_iff, decide_eq_true_iff]; first | (simp_all; done) | (simp_all; omega)), rfl, rfl, rfl, rfl, hC2, hC4, hC5, hx⟩)
    · skip
      refine WL.s rfl (g22) rfl ?_
      refine WL.s rfl (g22) rfl ?_
      refine WL.s rfl (g22) rfl ?_
      refine WL.s rfl (g22) rfl ?_
      refine WL.s rfl (g22) rfl ?_
      refine WL.c rfl (o_pickF rfl (g22) ?_)
      refine WL.c rfl (o_mvh (show _ = Value.bool _ from rfl) ?_)
      refine WL.s rfl (rfl) rfl ?_
      refine WL.s rfl (rfl) rfl ?_
      refine WL.s rfl (rfl) rfl ?_
      refine WL.s rfl (rfl) rfl ?_
      refine WL.c rfl (o_pickF rfl (rfl) ?_)
      refine WL.c rfl (o_mvh (show _ = Value.bool _ from rfl) ?_)
      refine WL.s rfl (rfl) rfl ?_
      refine WL.s rfl (rfl) rfl ?_
      refine WL.s rfl (rfl) rfl ?_
      refine WL.s rfl (rfl) rfl ?_
      refine WL.c rfl (o_pickF rfl (rfl) ?_)
      exact WL.nil (⟨congrArg Value.bool (by rw [Bool.eq_iff_iff, decide_eq_true_iff]; first | (simp_all; done) | (simp_all; omega)), rfl, rfl, rfl, rfl, hC2, hC4, hC5, hx⟩)
  rintro e w ⟨h40, h1, h2, h4, h5, hC2, hC4, hC5, hx⟩
  refine W.cond h40 (fun c40 => ?_) (fun c40 => ?_)
  · try simp only [decide_eq_true_eq, decide_eq_false_iff_not, Bool.not_eq_true', Bool.not_eq_false', Bool.and_eq_true, Bool.or_eq_true, Bool.and_eq_false_iff, Bool.or_eq_false_iff] at c40
    obtain ⟨hc1, hc2, he1, hz⟩ := c40
    have hok := chk_zero.1 hz
    have hne1 := hok.read.ne
    refine W.seq ?_
    refine W.region ?_
    refine WL.c rfl (o_fa 1 TI26 rfl TI23 rfl h5 ?_)
    refine WL.c rfl (o_ld TI23 rfl rfl (cell_of hC5 rfl) ?_)
    refine WL.c rfl (o_fa 1 TI26 rfl TI23 rfl h2 ?_)
    refine WL.c rfl (o_ld TI23 rfl rfl (cell_of hC2 rfl) ?_)
    refine WL.c rfl (o_apO (w0.heap.size) TI23 TI28 rfl rfl (World.ownsRow_nil _ _ _ _) (hp.code.ext hx) rfl (by decide) (one_inss _) (by rw [maxLen_eq]; omega) (by omega) hx.size ?_)
    intro v45 w45 hr45 ho45 _hb _hk
    rw [Nat.zero_add, List.nil_append] at hr45
    have hx45 : Ext w w45 := ho45.mono (fun j _ h => by cases h)
    replace hx := hx.tr hx45
    replace hC2 := hx45.blk hC2 (fun h => h)
    replace hC4 := hx45.blk hC4 (fun h => h)
    replace hC5 := hx45.blk hC5 (fun h => h)
    refine WL.c rfl (o_fa 1 TI26 rfl TI23 rfl h5 ?_)
    refine WL.u (o_stB TI23 rfl (show _ = v45 from rfl) (own_one hr45) hC5 (show 1 < 3 by decide) ?_)
    intro w46 hB5 ho46 hs46
    replace hC2 := ho46.blk hC2 (by omega)
    replace hC4 := ho46.blk hC4 (by omega)
    replace hx := hx.trans' ho46 (fun _ h => h) (fun q hq he => by omega)
    replace hr45 := own_only hr45 ho46 (fun q hq he => by subst he; exact own_off hr45 hC5 (by decide) hq)
    clear hC5
    have hC5 : w46.heap[b5]? = some (.cells #[.bool p.enc, v45, .slice none 0 0] 26 (0, 0)) := hB5
    clear hB5
    refine WL.nil ?_
    refine W.seq ?_
    refine W.region ?_
    refine WL.c rfl (o_fa 2 TI26 rfl TI24 rfl h5 ?_)
    refine WL.c rfl (o_ld TI24 rfl rfl (cell_of hC5 rfl) ?_)
    refine WL.c rfl (o_fa 2 TI26 rfl TI24 rfl h2 ?_)
    refine WL.c rfl (o_ld TI24 rfl rfl (cell_of hC2 rfl) ?_)
    refine WL.c rfl (o_apO (w0.heap.size) TI24 TI3 rfl rfl (World.ownsRow_nil _ _ _ _) (hp.ent.ext hx) rfl (by decide) (one_zs _) (by rw [maxLen_eq]; omega) (by omega) hx.size ?_)
    intro v51 w51 hr51 ho51 _hb _hk
    rw [Nat.zero_add, List.nil_append] at hr51
    have hx51 : Ext w46 w51 := ho51.mono (fun j _ h => by cases h)
    replace hr45 := own_ext hr45 hx51
    replace hx := hx.tr hx51
    replace hC2 := hx51.blk hC2 (fun h => h)
    replace hC4 := hx51.blk hC4 (fun h => h)
    replace hC5 := hx51.blk hC5 (fun h => h)
    refine WL.c rfl (o_fa 2 TI26 rfl TI24 rfl h5 ?_)
    refine WL.u (o_stB TI24 rfl (show _ = v51 from rfl) (own_one hr51) hC5 (show 2 < 3 by decide) ?_)
    intro w52 hB5 ho52 hs52
    replace hC2 := ho52.blk hC2 (by omega)
    replace hC4 := ho52.blk hC4 (by omega)
    replace hx := hx.trans' ho52 (fun _ h => h) (fun q hq he => by omega)
    replace hr45 := own_only hr45 ho52 (fun q hq he => by subst he; exact own_off hr45 hC5 (by decide) hq)
    replace hr51 := own_only hr51 ho52 (fun q hq he => by subst he; exact own_off hr51 hC5 (by decide) hq)
    clear hC5
    have hC5 : w52.heap[b5]? = some (.cells #[.bool p.enc, v45, v51] 26 (0, 0)) := hB5
    clear hB5
    refine WL.nil ?_
    refine W.seq ?_
    refine W.region ?_
    refine WL.c rfl (o_ldA TI26 rfl h5 (show Cells _ b5 0 (pgV p v45 v51) from Cells.of hC5 0 _ (by simp [pgV])) rfl ?_)
    refine WL.u (o_stA TI26 h4 rfl rfl (by first | rfl | (simp [pgV, own_one hr45, own_one hr51]; rfl)) hC4 rfl ?_)
    intro w4s hB4 ho4 hs4s
    replace hx := hx.trans' ho4 (fun _ h => h) (fun q hq he => by omega)
    refine WL.nil ?_
    refine W.ret ?_
    refine retC rfl TI26 rfl h4 (cells_all (by assumption)) rfl ?_
    exact ⟨p, v45, v51, rfl, hok, hc1, by omega, he1, own_mono (own_only hr45 ho4 (fun q hq he => by subst he; exact own_off hr45 hC4 (by decide) hq)) (by omega), own_mono (own_only hr51 ho4 (fun q hq he => by subst he; exact own_off hr51 hC4 (by decide) hq)) (by omega), hx⟩
  · try simp only [decide_eq_true_eq, decide_eq_false_iff_not, Bool.not_eq_true', Bool.not_eq_false', Bool.and_eq_true, Bool.or_eq_true, Bool.and_eq_false_iff, Bool.or_eq_false_iff] at c40
    refine W.skip ?_
    refine W.seq ?_
    refine W.region ?_
    refine WL.c rfl (o_fa 1 TI26 rfl TI23 rfl h2 ?_)
    refine WL.c rfl (o_ld TI23 rfl rfl (cell_of hC2 rfl) ?_)
    refine WL.c rfl (o_lenR TI23 rfl (hp.code.ext hx) ?_)
    refine WL.c rfl (o_mvh h1 ?_)
    refine WL.c rfl (o_minI rfl rfl ?_)
    rw [hn2]
    refine WL.c rfl (o_ash (show _ = Value.int _ _ from rfl) ?_)
    refine WL.nil ?_
    refine W.seq ?_
    refine W.region ?_
    refine WL.c rfl (o_mvh (show _ = Value.int _ _ from rfl) ?_)
    refine WL.c rfl (o_addi rfl rfl (by omega) ?_)
    refine WL.c rfl (o_mk (n := n + 1) TI23 TI28 (show _ = Value.int .i64 ((n + 1 : Nat) : Int) from rfl) (show _ = Value.int .i64 ((n + 1 : Nat) : Int) from rfl) (by omega) (by omega) ?_)
    have hL := own_mono (own_made4 (w := w) (el := 28) (n := n + 1) (by omega)) hx.size
    have hxa : Ext w (w.alloc (.cells (madeCells (Value.agg #[.int .i64 0, .int .i64 0, .int .i64 0, .int .i64 0]).cells ((n + 1) * 4)) 28)) := Only.alloc _ _
    obtain ⟨gc, hgc⟩ : ∃ g, g = w.heap.size := ⟨_, rfl⟩
    rw [← hgc] at hL ⊢
    generalize w.alloc (.cells (madeCells (Value.agg #[.int .i64 0, .int .i64 0, .int .i64 0, .int .i64 0]).cells ((n + 1) * 4)) 28) = w61 at hL hxa ⊢
    replace hx := hx.tr hxa
    replace hC2 := hxa.blk hC2 (fun h => h)
    replace hC4 := hxa.blk hC4 (fun h => h)
    replace hC5 := hxa.blk hC5 (fun h => h)
    refine WL.c rfl (o_fa 1 TI26 rfl TI23 rfl h5 ?_)
    refine WL.u (o_stB TI23 rfl (show _ = Value.slice (some ⟨gc, 0, none⟩) (n + 1) (n + 1) from rfl) rfl hC5 (show 1 < 3 by decide) ?_)
    intro w62 hB5 ho62 hs62
    replace hC2 := ho62.blk hC2 (by omega)
    replace hC4 := ho62.blk hC4 (by omega)
    replace hx := hx.trans' ho62 (fun _ h => h) (fun q hq he => by omega)
    replace hL := own_only hL ho62 (fun q hq he => by subst he; exact own_off hL hC5 (by decide) hq)
    clear hC5
    have hC5 : w62.heap[b5]? = some (.cells #[.bool p.enc, Value.slice (some ⟨gc, 0, none⟩) (n + 1) (n + 1), .slice none 0 0] 26 (0, 0)) := hB5
    clear hB5
    refine WL.nil ?_
    refine W.seq ?_
    refine W.region ?_
    refine WL.c rfl (o_fa 2 TI26 rfl TI24 rfl h2 ?_)
    refine WL.c rfl (o_ld TI24 rfl rfl (cell_of hC2 rfl) ?_)
    refine WL.c rfl (o_lenR TI24 rfl (hp.ent.ext hx) ?_)
    refine WL.c rfl (o_minI rfl rfl ?_)
    rw [hm2]
    refine WL.c rfl (o_addi rfl rfl (by omega) ?_)
    refine WL.c rfl (o_mk (n := m) TI24 TI3 (show Value.int .i64 ((m0 : Int) + 1) = Value.int .i64 (m : Int) from by rw [hm]; rfl) (show Value.int .i64 ((m0 : Int) + 1) = Value.int .i64 (m : Int) from by rw [hm]; rfl) (by omega) (by omega) ?_)
    have hE := own_mono (own_made1 (w := w62) (el := 3) (l := m) (n := m) (z := .int .i64 0) rfl (Nat.le_refl _) (by omega)) hx.size
    rw [show List.replicate m (Value.int .i64 0) = zs (List.replicate m 0) from by rw [zs, List.map_replicate]] at hE
    have hxa : Ext w62 (w62.alloc (.cells (madeCells (Value.int .i64 0).cells (m * 1)) 3)) := Only.alloc _ _
    obtain ⟨ge, hge⟩ : ∃ g, g = w62.heap.size := ⟨_, rfl⟩
    rw [← hge] at hE ⊢
    generalize w62.alloc (.cells (madeCells (Value.int .i64 0).cells (m * 1)) 3) = w68 at hE hxa ⊢
    replace hx := hx.tr hxa
    replace hL := own_ext hL hxa
    replace hC2 := hxa.blk hC2 (fun h => h)
    replace hC4 := hxa.blk hC4 (fun h => h)
    replace hC5 := hxa.blk hC5 (fun h => h)
    refine WL.c rfl (o_fa 2 TI26 rfl TI24 rfl h5 ?_)
    refine WL.u (o_stB TI24 rfl (show _ = Value.slice (some ⟨ge, 0, none⟩) m m from rfl) rfl hC5 (show 2 < 3 by decide) ?_)
    intro w69 hB5 ho69 hs69
    replace hC2 := ho69.blk hC2 (by omega)
    replace hC4 := ho69.blk hC4 (by omega)
    replace hx := hx.trans' ho69 (fun _ h => h) (fun q hq he => by omega)
    replace hL := own_only hL ho69 (fun q hq he => by subst he; exact own_off hL hC5 (by decide) hq)
    replace hE := own_only hE ho69 (fun q hq he => by subst he; exact own_off hE hC5 (by decide) hq)
    clear hC5
    have hC5 : w69.heap[b5]? = some (.cells #[.bool p.enc, Value.slice (some ⟨gc, 0, none⟩) (n + 1) (n + 1), Value.slice (some ⟨ge, 0, none⟩) m m] 26 (0, 0)) := hB5
    clear hB5
    refine WL.nil ?_
    refine W.seq ?_
    refine W.seq ?_
    refine W.region ?_
    refine WL.c rfl (o_ash (show _ = Value.int _ _ from rfl) ?_)
    refine WL.nil ?_
    refine W.block ?_
    refine W.loop (fun e w => ∃ (i : Nat) (L : List Ins), i ≤ n ∧ L.length = n + 1 ∧ (∀ j, j < i → GoodI p.enc (n + 1) m (L.getD j in0)) ∧ e 2 = .pointer (some ⟨b2, 0, none⟩) ∧ e 4 = .pointer (some ⟨b4, 0, none⟩) ∧ e 5 = .pointer (some ⟨b5, 0, none⟩) ∧ e 6 = .int .i64 (n : Int) ∧ e 7 = .int .i64 (i : Int) ∧ w.ownsRow w0.heap.size 28 4 (Value.slice (some ⟨gc, 0, none⟩) (n + 1) (n + 1)) (n + 1) (inss (L)) ∧ w.ownsRow w0.heap.size 3 1 (Value.slice (some ⟨ge, 0, none⟩) m m) m (zs (List.replicate m 0)) ∧ w.heap[b2]? = some (.cells (pgV p cv ev_).toArray 26 (0, 0)) ∧ w.heap[b4]? = some (.cells ([.bool false, .slice none 0 0, .slice none 0 0]).toArray 26 (0, 0)) ∧ w.heap[b5]? = some (.cells #[.bool p.enc, Value.slice (some ⟨gc, 0, none⟩) (n + 1) (n + 1), Value.slice (some ⟨ge, 0, none⟩) m m] 26 (0, 0)) ∧ Ext w0 w) (fun e w => n - (intOf (e 7)).toNat) ?_ ?_
    · exact ⟨0, List.replicate (n + 1) in0, Nat.zero_le _, List.length_replicate .., fun j h => absurd h (Nat.not_lt_zero j), h2, h4, h5, rfl, rfl, hL, hE, hC2, hC4, hC5, hx⟩
    rintro e w ⟨i, L, hi, hLl, hG, h2, h4, h5, h6, h7, hL, hE, hC2, hC4, hC5, hx⟩
    have hm7 := h7
    refine W.seq ?_
    refine W.seq ?_
    refine W.region ?_
    refine WL.c rfl (o_mvh h7 ?_)
    refine WL.c rfl (o_mvh h6 ?_)
    refine WL.c rfl (o_lt rfl rfl ?_)
    refine WL.nil ?_
    refine W.cond rfl (fun c72 => ?_) (fun c72 => ?_)
    · try simp only [decide_eq_true_eq, decide_eq_false_iff_not, Bool.not_eq_true', Bool.not_eq_false', Bool.and_eq_true, Bool.or_eq_true, Bool.and_eq_false_iff, Bool.or_eq_false_iff] at c72
      have hi1 : i < n := by omega
      have hk1 : i < p.code.length := by omega
      obtain ⟨sb, so, sc, hve, hsc⟩ := Sl.ins hp.code hk1
      obtain ⟨x0, hx0⟩ : ∃ x, x = p.code[i] := ⟨_, rfl⟩
      rw [← hx0] at hsc
      have hB0 := hb.ins x0 (hx0 ▸ List.getElem_mem _)
      refine W.skip ?_
      refine W.seq ?_
      refine W.block ?_
      refine W.seq ?_
      refine W.region ?_
      refine WL.c rfl (o_fa 1 TI26 rfl TI23 rfl h2 ?_)
      refine WL.c rfl (o_ld TI23 rfl rfl (cell_of hC2 rfl) ?_)
      refine WL.c rfl (o_mvh h7 ?_)
      refine WL.c rfl (o_ixB (i := i) TI23 TI28 (show _ = Value.slice (some ⟨sb, so, none⟩) p.code.length sc from hve) (show _ = Value.int .i64 (i : Int) from rfl) hk1 ?_)
      refine WL.c rfl (o_fa 0 TI28 rfl TI3 rfl rfl ?_)
      refine WL.c rfl (o_ld TI3 rfl rfl (show _ = some (Value.int .i64 x0.op) from (Cells.only hsc hx (fun h => h)) 0 _ rfl) ?_)
      refine WL.c rfl (o_call Tryd.call39 (lc rfl (lc rfl (lc rfl ln))) ((brought_spec x0.op 1 20 _ hB0.op (by decide) (by decide) (by decide)).mono ?_))
      rintro v81 w81 ⟨⟨q1, rfl, hq1, hq2⟩, hw81⟩
      obtain rfl := hw81.symm
      refine WL.c rfl (o_ash (show _ = Value.int _ _ from rfl) ?_)
      refine WL.nil ?_
      refine W.seq ?_
      refine W.seq ?_
      refine W.region ?_
      refine WL.cut (fun e1 w1 => e1 91 = .bool (decide (p.enc = true ∧ q1 ≠ 9 ∧ q1 < 19)) ∧ e1 2 = .pointer (some ⟨b2, 0, none⟩) ∧ e1 4 = .pointer (some ⟨b4, 0, none⟩) ∧ e1 5 = .pointer (some ⟨b5, 0, none⟩) ∧ e1 6 = .int .i64 (n : Int) ∧ e1 7 = .int .i64 (i : Int) ∧ e1 8 = .int .i64 q1 ∧ w1 = w) ?_ ?_
      · -- region 13
        refine WL.c rfl (o_fa 0 TI26 rfl TI4 rfl h2 ?_)
        refine WL.c rfl (o_ld TI4 rfl rfl (cell_of hC2 rfl) ?_)
        refine WL.c rfl (o_mvh (show _ = Value.bool _ from rfl) ?_)
        refine WL.sp 2 rfl (fun g84 => ?_) (fun g84 => ?_)
        · skip
          refine WL.g rfl (g84) rfl (o_mvh (show _ = Value.int _ _ from rfl) ?_)
          refine WL.g rfl (g84) rfl (o_ne rfl rfl ?_)
          refine WL.c rfl (o_pickA rfl rfl ?_)
          refine WL.c rfl (o_mvh (show _ = Value.bool _ from rfl) ?_)
          refine WL.sp 6 rfl (fun g88 => ?_) (fun g88 => ?_)
          · skip
            refine WL.g rfl (g88) rfl (o_mvh (show _ = Value.int _ _ from rfl) ?_)
            refine WL.g rfl (g88) rfl (o_lt rfl rfl ?_)
            refine WL.c rfl (o_pickA rfl rfl ?_)
            exact WL.nil (⟨congrArg Value.bool (by rw [Bool.eq_iff_iff, decide_eq_true_iff]; first | (simp_all; done) | (simp_all; omega)), h2, h4, h5, h6, h7, rfl, rfl⟩)
          · skip
            refine WL.s rfl (g88) rfl ?_
            refine WL.s rfl (g88) rfl ?_
            refine WL.c rfl (o_pickF rfl (g88) ?_)
            exact WL.nil (⟨congrArg Value.bool (by rw [Bool.eq_iff_iff, decide_eq_true_iff]; first | (simp_all; done) | (simp_all; omega)), h2, h4, h5, h6, h7, rfl, rfl⟩)
        · skip
          refine WL.s rfl (g84) rfl ?_
          refine WL.s rfl (g84) rfl ?_
          refine WL.c rfl (o_pickF rfl (g84) ?_)
          refine WL.c rfl (o_mvh (show _ = Value.bool _ from rfl) ?_)
          refine WL.s rfl (rfl) rfl ?_
          refine WL.s rfl (rfl) rfl ?_
          refine WL.c rfl (o_pickF rfl (rfl) ?_)
          exact WL.nil (⟨congrArg Value.bool (by rw [Bool.eq_iff_iff, decide_eq_true_iff]; first | (simp_all; done) | (simp_all; omega)), h2, h4, h5, h6, h7, rfl, rfl⟩)
      rintro e w ⟨h91, h2, h4, h5, h6, h7, h8, hw1⟩
      subst hw1
      refine W.cut (fun e1 w1 => ∃ op, okOp p.enc op ∧ e1 2 = .pointer (some ⟨b2, 0, none⟩) ∧ e1 4 = .pointer (some ⟨b4, 0, none⟩) ∧ e1 5 = .pointer (some ⟨b5, 0, none⟩) ∧ e1 6 = .int .i64 (n : Int) ∧ e1 7 = .int .i64 (i : Int) ∧ e1 8 = .int .i64 op ∧ w1 = w) ?_ ?_
      · -- both ways
        refine W.cond h91 (fun c91 => ?_) (fun c91 => ?_)
        · try simp only [decide_eq_true_eq, decide_eq_false_iff_not, Bool.not_eq_true', Bool.not_eq_false', Bool.and_eq_true, Bool.or_eq_true, Bool.and_eq_false_iff, Bool.or_eq_false_iff] at c91
          refine W.region ?_
          refine WL.c rfl (o_fa 1 TI26 rfl TI23 rfl h2 ?_)
          refine WL.c rfl (o_ld TI23 rfl rfl (cell_of hC2 rfl) ?_)
          refine WL.c rfl (o_mvh h7 ?_)
          refine WL.c rfl (o_ixB (i := i) TI23 TI28 (show _ = Value.slice (some ⟨sb, so, none⟩) p.code.length sc from hve) (show _ = Value.int .i64 (i : Int) from rfl) hk1 ?_)
          refine WL.c rfl (o_fa 0 TI28 rfl TI3 rfl rfl ?_)
          refine WL.c rfl (o_ld TI3 rfl rfl (show _ = some (Value.int .i64 x0.op) from (Cells.only hsc hx (fun h => h)) 0 _ rfl) ?_)
          refine WL.c rfl (o_call Tryd.call39 (lc rfl (lc rfl (lc rfl ln))) ((brought_spec x0.op 33 47 _ hB0.op (by decide) (by decide) (by decide)).mono ?_))
          rintro v98 w98 ⟨⟨q3, rfl, hq3, hq4⟩, hw98⟩
          obtain rfl := hw98.symm
          refine WL.c rfl (o_ash (show _ = Value.int _ _ from rfl) ?_)
          refine WL.nil ?_
          first | exact ⟨q3, by unfold okOp; rw [if_pos c91.1]; omega, h2, h4, h5, h6, h7, rfl, rfl⟩ | exact ⟨q1, by unfold okOp; split <;> first | (simp_all; done) | (simp_all; omega), h2, h4, h5, h6, h7, h8, rfl⟩
        · try simp only [decide_eq_true_eq, decide_eq_false_iff_not, Bool.not_eq_true', Bool.not_eq_false', Bool.and_eq_true, Bool.or_eq_true, Bool.and_eq_false_iff, Bool.or_eq_false_iff] at c91
          refine W.skip ?_
          first | exact ⟨q3, by unfold okOp; rw [if_pos c91.1]; omega, h2, h4, h5, h6, h7, rfl, rfl⟩ | exact ⟨q1, by unfold okOp; split <;> first | (simp_all; done) | (simp_all; omega), h2, h4, h5, h6, h7, h8, rfl⟩
      rintro e w ⟨op, hop, h2, h4, h5, h6, h7, h8, hw1⟩
      refine W.seq ?_
      subst hw1
      obtain ⟨nm, l0, l1, l2, hfm⟩ := okOp_fm hop
      refine W.region ?_
      refine WL.c rfl (o_mvh h8 ?_)
      refine WL.c rfl (o_fa 0 TI26 rfl TI4 rfl h2 ?_)
      refine WL.c rfl (o_ld TI4 rfl rfl (cell_of hC2 rfl) ?_)
      refine WL.c rfl (o_call Tryd.call40 (lc rfl (lc rfl ln)) ((rof_spec op p.enc _).mono ?_))
      rw [fmT_some hfm]
      rintro v103 w103 ⟨rfl, hx103⟩
      replace hx := hx.tr hx103
      replace hL := own_ext hL hx103
      replace hE := own_ext hE hx103
      replace hC2 := hx103.blk hC2 (fun h => h)
      replace hC4 := hx103.blk hC4 (fun h => h)
      replace hC5 := hx103.blk hC5 (fun h => h)
      refine WL.c rfl (o_mvh (by first | exact (show _ = Value.tuple _ from rfl) | exact rfl) ?_)
      refine WL.c rfl (o_ext rfl rfl ?_)
      refine WL.c rfl (o_ext rfl rfl ?_)
      refine WL.c rfl (o_alB TI82 ?_)
      intro wa hCa hxa hsa
      refine WL.u (o_stA TI82 rfl (show _ = Value.agg ([st nm, st [l0, l1, l2]]).toArray from rfl) rfl rfl hCa rfl ?_)
      intro wb9 hC9 hob hsb
      have hxb := Ext.own hxa (Nat.le_refl _) hob
      obtain ⟨b9, hb9⟩ : ∃ b, b = w103.heap.size := ⟨_, rfl⟩
      rw [← hb9] at hC9 ⊢
      clear hCa hxa hsa hob hsb
      replace hx := hx.tr hxb
      replace hL := own_ext hL hxb
      replace hE := own_ext hE hxb
      replace hC2 := hxb.blk hC2 (fun h => h)
      replace hC4 := hxb.blk hC4 (fun h => h)
      replace hC5 := hxb.blk hC5 (fun h => h)
      clear hxb
      refine WL.c rfl (o_ash (show _ = Value.bool _ from rfl) ?_)
      refine WL.nil ?_
      refine W.seq ?_
      obtain ⟨wd, hwd⟩ : ∃ wd, wd = World.drew wb9 := ⟨_, rfl⟩
      have hxd : Ext wb9 wd := hwd ▸ Only.drew wb9
      replace hx := hx.tr hxd
      replace hL := own_ext hL hxd
      replace hE := own_ext hE hxd
      replace hC2 := hxd.blk hC2 (fun h => h)
      replace hC4 := hxd.blk hC4 (fun h => h)
      replace hC5 := hxd.blk hC5 (fun h => h)
      replace hC9 := hxd.blk hC9 (fun h => h)
      have hLo : ∀ q, (Value.slice (some ⟨gc, 0, none⟩) (n + 1) (n + 1)).ownBlock = some q → ¬ wd.heap.size ≤ q := fun q hq h => by have := (hL.lt q hq).2; omega
      have hz16 := hx.size
      refine W.drawT 36 (Ext) [(2, fun v _ => v = (Value.pointer (some ⟨b2, 0, none⟩))), (4, fun v _ => v = (Value.pointer (some ⟨b4, 0, none⟩))), (5, fun v _ => v = (Value.pointer (some ⟨b5, 0, none⟩))), (6, fun v _ => v = (Value.int .i64 (n : Int))), (7, fun v _ => v = (Value.int .i64 (i : Int))), (8, fun v _ => v = (Value.int .i64 op)), (9, fun v _ => v = (Value.pointer (some ⟨b9, 0, none⟩)))] rfl (by kernel_rfl) (Only.refl No) (fun _ _ _ h k => h.trans k) ⟨Mono.eq, Mono.eq, Mono.eq, Mono.eq, Mono.eq, Mono.eq, Mono.eq, trivial⟩ ⟨h2, h4, h5, h6, h7, h8, rfl, trivial⟩ ?_
      refine WD.p rfl (fun e w hR hh => by obtain ⟨h8, -⟩ := hh; exact SG.n (o_mvh h8 ⟨rfl, Only.refl No _⟩)) ?_
      refine WD.p rfl (fun e w hR hh => by obtain ⟨h5, -⟩ := hh; rw [← hwd] at hR; have hc9 := hR.blk hC5 (fun h => h); exact SG.n (o_ldA TI26 rfl h5 (show Cells _ b5 0 (pgV ⟨p.enc, L, List.replicate m 0⟩ (Value.slice (some ⟨gc, 0, none⟩) (n + 1) (n + 1)) (Value.slice (some ⟨ge, 0, none⟩) m m)) from Cells.of hc9 0 _ (by simp [pgV])) rfl ⟨rfl, Only.refl No _⟩)) ?_
      refine WD.p rfl (fun e w hR hh => by obtain ⟨h9, -⟩ := hh; exact SG.n (o_fa 1 TI82 rfl TI9 rfl h9 ⟨rfl, Only.refl No _⟩)) ?_
      refine WD.p rfl (fun e w hR hh => by obtain ⟨h108, -⟩ := hh; rw [← hwd] at hR; have hc9 := hR.blk hC9 (fun h => h); exact SG.n (o_ld TI9 rfl h108 (cell_of hc9 rfl) ⟨rfl, Only.refl No _⟩)) ?_
      refine WD.p rfl (fun e w hR hh => by obtain ⟨h109, -⟩ := hh; exact SG.n (o_idT (i := 0) TI9 h109 rfl (by simp) ⟨rfl, Only.refl No _⟩)) ?_
      refine WD.p rfl (fun e w hR hh => by obtain ⟨h2, -⟩ := hh; exact SG.n (o_fa 1 TI26 rfl TI23 rfl h2 ⟨rfl, Only.refl No _⟩)) ?_
      refine WD.p rfl (fun e w hR hh => by obtain ⟨h111, -⟩ := hh; rw [← hwd] at hR; have hc9 := hR.blk hC2 (fun h => h); exact SG.n (o_ld TI23 rfl h111 (cell_of hc9 rfl) ⟨rfl, Only.refl No _⟩)) ?_
      refine WD.p rfl (fun e w hR hh => by obtain ⟨h7, -⟩ := hh; exact SG.n (o_mvh h7 ⟨rfl, Only.refl No _⟩)) ?_
      refine WD.p rfl (fun e w hR hh => by obtain ⟨h113, h112, -⟩ := hh; exact SG.n (o_ixB (i := i) TI23 TI28 (h112.trans hve) h113 hk1 ⟨rfl, Only.refl No _⟩)) ?_
      refine WD.p rfl (fun e w hR hh => by obtain ⟨h114, -⟩ := hh; exact SG.n (o_fa 1 TI28 rfl TI3 rfl h114 ⟨rfl, Only.refl No _⟩)) ?_
      refine WD.p rfl (fun e w hR hh => by obtain ⟨h115, -⟩ := hh; rw [← hwd] at hR; exact SG.n (o_ld TI3 rfl h115 (show _ = some (Value.int .i64 x0.a) from (Cells.only hsc (hx.tr hR) (fun h => h)) 1 _ rfl) ⟨rfl, Only.refl No _⟩)) ?_
      refine WD.q (fun v w => ∃ q, v = .int .i64 q ∧ madN (n + 1) m l0.toNat q) (fun v w w2 hR hh => hh) rfl (fun e w hR hh => by obtain ⟨h116, h110, h107, -⟩ := hh; rw [← hwd] at hR; exact SG.n (o_call Tryd.call41 (lc h107 (lc h110 (lc h116 ln))) ((made1_spec ⟨p.enc, L, List.replicate m 0⟩ (Value.slice (some ⟨gc, 0, none⟩) (n + 1) (n + 1)) (Value.slice (some ⟨ge, 0, none⟩) m m) l0 x0.a _ (madR hLl (own_ext hL hR) (own_ext hE hR)) hB0.a (by show 1 ≤ L.length ∧ L.length ≤ 1000000; omega) (by show 1 ≤ (List.replicate m (0 : Int)).length ∧ (List.replicate m (0 : Int)).length ≤ 1000000; rw [List.length_replicate]; omega)).mono (fun v w' hh => by obtain ⟨q, h1, h2, h3⟩ := hh; exact ⟨⟨q, h1, by have h4 : madN L.length (List.replicate m (0 : Int)).length l0.toNat q := h2; rw [hLl, List.length_replicate] at h4; exact h4⟩, h3⟩)))) ?_
      refine WD.p rfl (fun e w hR hh => by obtain ⟨h5, -⟩ := hh; rw [← hwd] at hR; have hc9 := hR.blk hC5 (fun h => h); exact SG.n (o_ldA TI26 rfl h5 (show Cells _ b5 0 (pgV ⟨p.enc, L, List.replicate m 0⟩ (Value.slice (some ⟨gc, 0, none⟩) (n + 1) (n + 1)) (Value.slice (some ⟨ge, 0, none⟩) m m)) from Cells.of hc9 0 _ (by simp [pgV])) rfl ⟨rfl, Only.refl No _⟩)) ?_
      refine WD.p rfl (fun e w hR hh => by obtain ⟨h9, -⟩ := hh; exact SG.n (o_fa 1 TI82 rfl TI9 rfl h9 ⟨rfl, Only.refl No _⟩)) ?_
      refine WD.p rfl (fun e w hR hh => by obtain ⟨h119, -⟩ := hh; rw [← hwd] at hR; have hc9 := hR.blk hC9 (fun h => h); exact SG.n (o_ld TI9 rfl h119 (cell_of hc9 rfl) ⟨rfl, Only.refl No _⟩)) ?_
      refine WD.p rfl (fun e w hR hh => by obtain ⟨h120, -⟩ := hh; exact SG.n (o_idT (i := 1) TI9 h120 rfl (by simp) ⟨rfl, Only.refl No _⟩)) ?_
      refine WD.p rfl (fun e w hR hh => by obtain ⟨h2, -⟩ := hh; exact SG.n (o_fa 1 TI26 rfl TI23 rfl h2 ⟨rfl, Only.refl No _⟩)) ?_
      refine WD.p rfl (fun e w hR hh => by obtain ⟨h122, -⟩ := hh; rw [← hwd] at hR; have hc9 := hR.blk hC2 (fun h => h); exact SG.n (o_ld TI23 rfl h122 (cell_of hc9 rfl) ⟨rfl, Only.refl No _⟩)) ?_
      refine WD.p rfl (fun e w hR hh => by obtain ⟨h7, -⟩ := hh; exact SG.n (o_mvh h7 ⟨rfl, Only.refl No _⟩)) ?_
      refine WD.p rfl (fun e w hR hh => by obtain ⟨h124, h123, -⟩ := hh; exact SG.n (o_ixB (i := i) TI23 TI28 (h123.trans hve) h124 hk1 ⟨rfl, Only.refl No _⟩)) ?_
      refine WD.p rfl (fun e w hR hh => by obtain ⟨h125, -⟩ := hh; exact SG.n (o_fa 2 TI28 rfl TI3 rfl h125 ⟨rfl, Only.refl No _⟩)) ?_
      refine WD.p rfl (fun e w hR hh => by obtain ⟨h126, -⟩ := hh; rw [← hwd] at hR; exact SG.n (o_ld TI3 rfl h126 (show _ = some (Value.int .i64 x0.b) from (Cells.only hsc (hx.tr hR) (fun h => h)) 2 _ rfl) ⟨rfl, Only.refl No _⟩)) ?_
      refine WD.q (fun v w => ∃ q, v = .int .i64 q ∧ madN (n + 1) m l1.toNat q) (fun v w w2 hR hh => hh) rfl (fun e w hR hh => by obtain ⟨h127, h121, h118, -⟩ := hh; rw [← hwd] at hR; exact SG.n (o_call Tryd.call41 (lc h118 (lc h121 (lc h127 ln))) ((made1_spec ⟨p.enc, L, List.replicate m 0⟩ (Value.slice (some ⟨gc, 0, none⟩) (n + 1) (n + 1)) (Value.slice (some ⟨ge, 0, none⟩) m m) l1 x0.b _ (madR hLl (own_ext hL hR) (own_ext hE hR)) hB0.b (by show 1 ≤ L.length ∧ L.length ≤ 1000000; omega) (by show 1 ≤ (List.replicate m (0 : Int)).length ∧ (List.replicate m (0 : Int)).length ≤ 1000000; rw [List.length_replicate]; omega)).mono (fun v w' hh => by obtain ⟨q, h1, h2, h3⟩ := hh; exact ⟨⟨q, h1, by have h4 : madN L.length (List.replicate m (0 : Int)).length l1.toNat q := h2; rw [hLl, List.length_replicate] at h4; exact h4⟩, h3⟩)))) ?_
      refine WD.p rfl (fun e w hR hh => by obtain ⟨h5, -⟩ := hh; rw [← hwd] at hR; have hc9 := hR.blk hC5 (fun h => h); exact SG.n (o_ldA TI26 rfl h5 (show Cells _ b5 0 (pgV ⟨p.enc, L, List.replicate m 0⟩ (Value.slice (some ⟨gc, 0, none⟩) (n + 1) (n + 1)) (Value.slice (some ⟨ge, 0, none⟩) m m)) from Cells.of hc9 0 _ (by simp [pgV])) rfl ⟨rfl, Only.refl No _⟩)) ?_
      refine WD.p rfl (fun e w hR hh => by obtain ⟨h9, -⟩ := hh; exact SG.n (o_fa 1 TI82 rfl TI9 rfl h9 ⟨rfl, Only.refl No _⟩)) ?_
      refine WD.p rfl (fun e w hR hh => by obtain ⟨h130, -⟩ := hh; rw [← hwd] at hR; have hc9 := hR.blk hC9 (fun h => h); exact SG.n (o_ld TI9 rfl h130 (cell_of hc9 rfl) ⟨rfl, Only.refl No _⟩)) ?_
      refine WD.p rfl (fun e w hR hh => by obtain ⟨h131, -⟩ := hh; exact SG.n (o_idT (i := 2) TI9 h131 rfl (by simp) ⟨rfl, Only.refl No _⟩)) ?_
      refine WD.p rfl (fun e w hR hh => by obtain ⟨h2, -⟩ := hh; exact SG.n (o_fa 1 TI26 rfl TI23 rfl h2 ⟨rfl, Only.refl No _⟩)) ?_
      refine WD.p rfl (fun e w hR hh => by obtain ⟨h133, -⟩ := hh; rw [← hwd] at hR; have hc9 := hR.blk hC2 (fun h => h); exact SG.n (o_ld TI23 rfl h133 (cell_of hc9 rfl) ⟨rfl, Only.refl No _⟩)) ?_
      refine WD.p rfl (fun e w hR hh => by obtain ⟨h7, -⟩ := hh; exact SG.n (o_mvh h7 ⟨rfl, Only.refl No _⟩)) ?_
      refine WD.p rfl (fun e w hR hh => by obtain ⟨h135, h134, -⟩ := hh; exact SG.n (o_ixB (i := i) TI23 TI28 (h134.trans hve) h135 hk1 ⟨rfl, Only.refl No _⟩)) ?_
      refine WD.p rfl (fun e w hR hh => by obtain ⟨h136, -⟩ := hh; exact SG.n (o_fa 3 TI28 rfl TI3 rfl h136 ⟨rfl, Only.refl No _⟩)) ?_
      refine WD.p rfl (fun e w hR hh => by obtain ⟨h137, -⟩ := hh; rw [← hwd] at hR; exact SG.n (o_ld TI3 rfl h137 (show _ = some (Value.int .i64 x0.c) from (Cells.only hsc (hx.tr hR) (fun h => h)) 3 _ rfl) ⟨rfl, Only.refl No _⟩)) ?_
      refine WD.q (fun v w => ∃ q, v = .int .i64 q ∧ madN (n + 1) m l2.toNat q) (fun v w w2 hR hh => hh) rfl (fun e w hR hh => by obtain ⟨h138, h132, h129, -⟩ := hh; rw [← hwd] at hR; exact SG.n (o_call Tryd.call41 (lc h129 (lc h132 (lc h138 ln))) ((made1_spec ⟨p.enc, L, List.replicate m 0⟩ (Value.slice (some ⟨gc, 0, none⟩) (n + 1) (n + 1)) (Value.slice (some ⟨ge, 0, none⟩) m m) l2 x0.c _ (madR hLl (own_ext hL hR) (own_ext hE hR)) hB0.c (by show 1 ≤ L.length ∧ L.length ≤ 1000000; omega) (by show 1 ≤ (List.replicate m (0 : Int)).length ∧ (List.replicate m (0 : Int)).length ≤ 1000000; rw [List.length_replicate]; omega)).mono (fun v w' hh => by obtain ⟨q, h1, h2, h3⟩ := hh; exact ⟨⟨q, h1, by have h4 : madN L.length (List.replicate m (0 : Int)).length l2.toNat q := h2; rw [hLl, List.length_replicate] at h4; exact h4⟩, h3⟩)))) ?_
      refine WD.q (fun v w => ∃ A B C, v = .agg (insV ⟨op, A, B, C⟩).toArray ∧ madN (n + 1) m l0.toNat A ∧ madN (n + 1) m l1.toNat B ∧ madN (n + 1) m l2.toNat C) (fun v w w2 hR hh => hh) rfl (fun e w hR hh => by obtain ⟨h139, h128, h117, h106, -⟩ := hh; obtain ⟨A, h117v, hA⟩ := h117; obtain ⟨B, h128v, hB⟩ := h128; obtain ⟨C, h139v, hC⟩ := h139; exact SG.n (o_bldC (cs := [.int .i64 op, .int .i64 A, .int .i64 B, .int .i64 C]) TI28 (Sizes.cons TI3 (Sizes.cons TI3 (Sizes.cons TI3 (Sizes.cons TI3 Sizes.nil)))) rfl (lcp h106 (lcp h117v (lcp h128v (lcp h139v lnp)))) rfl rfl ⟨⟨A, B, C, rfl, hA, hB, hC⟩, Only.refl No _⟩)) ?_
      refine WD.q (fun v w => ∃ b, v = .pointer (some ⟨b, 0, none⟩) ∧ wd.heap.size ≤ b ∧ w.heap[b]? = some (.cells #[.int .i64 0, .int .i64 0, .int .i64 0, .int .i64 0] 28 (0, 0))) (fun v w w2 hR hh => by obtain ⟨b, h1, h2, h3⟩ := hh; exact ⟨b, h1, h2, hR.blk h3 (fun h => h)⟩) rfl (fun e w hR hh => by skip; rw [← hwd] at hR; exact SG.n (o_al TI28 ⟨⟨_, rfl, hR.size, heap_alloc_new _ _⟩, Only.alloc w _⟩)) ?_
      rintro e w hR ⟨h11, h140, h139, h138, h137, h136, h135, h134, h133, h132, h131, h130, h129, h128, h127, h126, h125, h124, h123, h122, h121, h120, h119, h118, h117, h116, h115, h114, h113, h112, h111, h110, h109, h108, h107, h106, h2, h4, h5, h6, h7, h8, h9, -⟩
      rw [← hwd] at hR
      obtain ⟨A, B, C, h140v, hA, hB, hC⟩ := h140
      obtain ⟨b11, h11, hb11, hC11⟩ := h11
      have hl5 := (Array.getElem?_eq_some_iff.1 hC5).1
      have hb511 : b5 < b11 := by omega
      replace hx := hx.tr hR
      replace hL := own_ext hL hR
      replace hE := own_ext hE hR
      replace hC2 := hR.blk hC2 (fun h => h)
      replace hC4 := hR.blk hC4 (fun h => h)
      replace hC5 := hR.blk hC5 (fun h => h)
      replace hC9 := hR.blk hC9 (fun h => h)
      refine WL.u (o_stA TI28 h11 (show _ = Value.agg (insV ⟨op, A, B, C⟩).toArray from h140v) rfl rfl hC11 rfl ?_)
      intro w11s hB11 ho11 hs11
      replace hx := hx.trans' ho11 (fun _ h => h) (fun q hq he => by have := hx.size; omega)
      replace hC2 := ho11.blk hC2 (by omega)
      replace hC4 := ho11.blk hC4 (by omega)
      replace hC5 := ho11.blk hC5 (by omega)
      replace hC9 := ho11.blk hC9 (fun h => by rw [h, hC11] at hC9; cases hC9)
      replace hL := own_only hL ho11 (fun q hq he => by subst he; exact hLo q hq hb11)
      replace hE := own_only hE ho11 (fun q hq he => by subst he; exact own_off hE hC11 (by decide) hq)
      clear hC11
      have hC11 := hB11
      clear hB11
      refine WL.nil ?_
      refine W.seq ?_
      refine W.seq ?_
      refine W.region ?_
      refine WL.cut (fun e1 w1 => e1 153 = .bool (decide (nm = [112, 97, 114, 116] ∧ (A = -1 ∨ B = -1))) ∧ e1 2 = .pointer (some ⟨b2, 0, none⟩) ∧ e1 4 = .pointer (some ⟨b4, 0, none⟩) ∧ e1 5 = .pointer (some ⟨b5, 0, none⟩) ∧ e1 6 = .int .i64 (n : Int) ∧ e1 7 = .int .i64 (i : Int) ∧ e1 11 = .pointer (some ⟨b11, 0, none⟩) ∧ w1 = w11s) ?_ ?_
      · -- region 17
        refine WL.c rfl (o_fa 0 TI82 rfl TI9 rfl h9 ?_)
        refine WL.c rfl (o_ld TI9 rfl rfl (cell_of hC9 rfl) ?_)
        refine WL.c rfl (o_eqT rfl rfl ?_)
        refine WL.c rfl (o_mvh (show _ = Value.bool _ from rfl) ?_)
        refine WL.sp 3 rfl (fun g144 => ?_) (fun g144 => ?_)
        · skip
          refine WL.g rfl (g144) rfl (o_fa 1 TI28 rfl TI3 rfl h11 ?_)
          refine WL.g rfl (g144) rfl (o_ld TI3 rfl rfl (cell_of hC11 rfl) ?_)
          refine WL.g rfl (g144) rfl (o_eq rfl rfl ?_)
          refine WL.g rfl (g144) rfl (o_mvh (show _ = Value.bool _ from rfl) ?_)
          refine WL.sp 7 rfl (fun g148 => ?_) (fun g148 => ?_)
          · skip
            refine WL.s rfl (g148) rfl ?_
            refine WL.s rfl (g148) rfl ?_
            refine WL.s rfl (g148) rfl ?_
            refine WL.g rfl (g144) rfl (o_pickT rfl (g148) ?_)
            refine WL.c rfl (o_pickA rfl rfl ?_)
            exact WL.nil (⟨congrArg Value.bool (by rw [Bool.eq_iff_iff, decide_eq_true_iff]; first | (simp_all; done) | (simp_all; omega)), h2, h4, h5, h6, h7, h11, rfl⟩)
          · skip
            refine WL.g rfl (g148) rfl (o_fa 2 TI28 rfl TI3 rfl h11 ?_)
            refine WL.g rfl (g148) rfl (o_ld TI3 rfl rfl (cell_of hC11 rfl) ?_)
            refine WL.g rfl (g148) rfl (o_eq rfl rfl ?_)
            refine WL.g rfl (g144) rfl (o_pickO rfl rfl ?_)
            refine WL.c rfl (o_pickA rfl rfl ?_)
            exact WL.nil (⟨congrArg Value.bool (by rw [Bool.eq_iff_iff, decide_eq_true_iff]; first | (simp_all; done) | (simp_all; omega)), h2, h4, h5, h6, h7, h11, rfl⟩)
        · skip
          refine WL.s rfl (g144) rfl ?_
          refine WL.s rfl (g144) rfl ?_
          refine WL.s rfl (g144) rfl ?_
          refine WL.s rfl (g144) rfl ?_
          refine WL.z rfl rfl ?_
          refine WL.z rfl rfl ?_
          refine WL.z rfl rfl ?_
          refine WL.s rfl (g144) rfl ?_
          refine WL.c rfl (o_pickF rfl (g144) ?_)
          exact WL.nil (⟨congrArg Value.bool (by rw [Bool.eq_iff_iff, decide_eq_true_iff]; first | (simp_all; done) | (simp_all; omega)), h2, h4, h5, h6, h7, h11, rfl⟩)
      rintro e w ⟨h153, h2, h4, h5, h6, h7, h11, hw1⟩
      subst hw1
      refine W.cut (fun e1 w1 => ∃ y1, y1 = partI nm (⟨op, A, B, C⟩ : Ins) ∧ w1.heap[b11]? = some (.cells (insV y1).toArray 28 (0, 0)) ∧ e1 2 = .pointer (some ⟨b2, 0, none⟩) ∧ e1 4 = .pointer (some ⟨b4, 0, none⟩) ∧ e1 5 = .pointer (some ⟨b5, 0, none⟩) ∧ e1 6 = .int .i64 (n : Int) ∧ e1 7 = .int .i64 (i : Int) ∧ e1 11 = .pointer (some ⟨b11, 0, none⟩) ∧ w1.ownsRow w0.heap.size 28 4 (Value.slice (some ⟨gc, 0, none⟩) (n + 1) (n + 1)) (n + 1) (inss (L)) ∧ w1.ownsRow w0.heap.size 3 1 (Value.slice (some ⟨ge, 0, none⟩) m m) m (zs (List.replicate m 0)) ∧ w1.heap[b2]? = some (.cells (pgV p cv ev_).toArray 26 (0, 0)) ∧ w1.heap[b4]? = some (.cells ([.bool false, .slice none 0 0, .slice none 0 0]).toArray 26 (0, 0)) ∧ w1.heap[b5]? = some (.cells #[.bool p.enc, Value.slice (some ⟨gc, 0, none⟩) (n + 1) (n + 1), Value.slice (some ⟨ge, 0, none⟩) m m] 26 (0, 0)) ∧ Ext w0 w1) ?_ ?_
      · -- both ways
        refine W.cond h153 (fun c153 => ?_) (fun c153 => ?_)
        · try simp only [decide_eq_true_eq, decide_eq_false_iff_not, Bool.not_eq_true', Bool.not_eq_false', Bool.and_eq_true, Bool.or_eq_true, Bool.and_eq_false_iff, Bool.or_eq_false_iff] at c153
          refine W.seq ?_
          refine W.region ?_
          refine WL.c rfl (o_fa 1 TI28 rfl TI3 rfl h11 ?_)
          refine WL.u (o_stB TI3 rfl (show _ = Value.int .i64 (-1) from rfl) rfl hC11 (show 1 < 4 by decide) ?_)
          intro w154 hB11 ho11 hs11
          replace hx := hx.trans' ho11 (fun _ h => h) (fun q hq he => by omega)
          replace hC2 := ho11.blk hC2 (by omega)
          replace hC4 := ho11.blk hC4 (by omega)
          replace hC5 := ho11.blk hC5 (by omega)
          replace hL := own_only hL ho11 (fun q hq he => by subst he; exact hLo q hq hb11)
          replace hE := own_only hE ho11 (fun q hq he => by subst he; exact own_off hE hC11 (by decide) hq)
          clear hC11
          have hC11 : w154.heap[b11]? = some (.cells #[.int .i64 op, .int .i64 (-1), .int .i64 B, .int .i64 C] 28 (0, 0)) := hB11
          clear hB11
          refine WL.nil ?_
          refine W.region ?_
          refine WL.c rfl (o_fa 2 TI28 rfl TI3 rfl h11 ?_)
          refine WL.u (o_stB TI3 rfl (show _ = Value.int .i64 (-1) from rfl) rfl hC11 (show 2 < 4 by decide) ?_)
          intro w155 hB11 ho11 hs11
          replace hx := hx.trans' ho11 (fun _ h => h) (fun q hq he => by omega)
          replace hC2 := ho11.blk hC2 (by omega)
          replace hC4 := ho11.blk hC4 (by omega)
          replace hC5 := ho11.blk hC5 (by omega)
          replace hL := own_only hL ho11 (fun q hq he => by subst he; exact hLo q hq hb11)
          replace hE := own_only hE ho11 (fun q hq he => by subst he; exact own_off hE hC11 (by decide) hq)
          clear hC11
          have hC11 : w155.heap[b11]? = some (.cells (insV ⟨op, -1, -1, C⟩).toArray 28 (0, 0)) := hB11
          clear hB11
          refine WL.nil ?_
          first | exact ⟨⟨op, -1, -1, C⟩, by unfold partI; rw [if_pos c153], hC11, h2, h4, h5, h6, h7, h11, hL, hE, hC2, hC4, hC5, hx⟩ | exact ⟨⟨op, A, B, C⟩, by unfold partI; rw [if_neg c153], hC11, h2, h4, h5, h6, h7, h11, hL, hE, hC2, hC4, hC5, hx⟩
        · try simp only [decide_eq_true_eq, decide_eq_false_iff_not, Bool.not_eq_true', Bool.not_eq_false', Bool.and_eq_true, Bool.or_eq_true, Bool.and_eq_false_iff, Bool.or_eq_false_iff] at c153
          refine W.skip ?_
          first | exact ⟨⟨op, -1, -1, C⟩, by unfold partI; rw [if_pos c153], hC11, h2, h4, h5, h6, h7, h11, hL, hE, hC2, hC4, hC5, hx⟩ | exact ⟨⟨op, A, B, C⟩, by unfold partI; rw [if_neg c153], hC11, h2, h4, h5, h6, h7, h11, hL, hE, hC2, hC4, hC5, hx⟩
      rintro e w ⟨y, hyd, hC11, h2, h4, h5, h6, h7, h11, hL, hE, hC2, hC4, hC5, hx⟩
      have hy : GoodI p.enc (n + 1) m y := hyd ▸ made_good hfm hA hB hC
      refine W.region ?_
      refine WL.c rfl (o_fa 1 TI26 rfl TI23 rfl h5 ?_)
      refine WL.c rfl (o_ld TI23 rfl rfl (cell_of hC5 rfl) ?_)
      refine WL.c rfl (o_mvh h7 ?_)
      refine WL.c rfl (o_ldA TI28 rfl h11 (show Cells _ b11 0 (insV y) from Cells.of hC11 0 _ (by simp)) rfl ?_)
      refine WL.c rfl (o_ixB (i := i) TI23 TI28 (show _ = Value.slice (some ⟨gc, 0, none⟩) (n + 1) (n + 1) from rfl) (show _ = Value.int .i64 (i : Int) from rfl) (by omega) ?_)
      refine WL.u (o_stRA TI28 (show _ = Value.pointer (some ⟨gc, 0 + i * 4, none⟩) from rfl) (show 0 + i * 4 = i * 4 by omega) (show _ = Value.agg (insV y).toArray from rfl) rfl rfl hL rfl (by omega) ?_)
      intro w160 hr160 ho160 hs160
      replace hE := own_only hE ho160 (fun q hq hF => own_row_off hL hE (by decide) q hq hF)
      replace hC2 := ho160.blk hC2 (own_off hL hC2 (by decide))
      replace hC4 := ho160.blk hC4 (own_off hL hC4 (by decide))
      replace hC5 := ho160.blk hC5 (own_off hL hC5 (by decide))
      replace hx := hx.trans' ho160 (fun _ h => h) (fun q hq hF => by have := (hL.lt q hF).1; omega)
      rw [inss_setI L i y (by omega)] at hr160
      clear hL
      have hL := hr160
      clear hr160
      refine WL.nil ?_
      refine W.region ?_
      refine WL.c rfl (o_mvh h7 ?_)
      refine WL.c rfl (o_addi rfl rfl (by omega) ?_)
      refine WL.c rfl (o_ash (show _ = Value.int _ _ from rfl) ?_)
      refine WL.nil ?_
      refine ⟨⟨i + 1, L.set i y, by omega, by rw [List.length_set]; exact hLl, fun j hj => ?_, h2, h4, h5, h6, rfl, hL, hE, hC2, hC4, hC5, hx⟩, ?_⟩
      · by_cases hji : j = i
        · subst hji; rw [getD_setI (by omega)]; exact hy
        · rw [getD_set hji]; exact hG j (by omega)
      · show n - ((i : Int) + 1).toNat < _
        rw [hm7]; simp [intOf]; omega
    · try simp only [decide_eq_true_eq, decide_eq_false_iff_not, Bool.not_eq_true', Bool.not_eq_false', Bool.and_eq_true, Bool.or_eq_true, Bool.and_eq_false_iff, Bool.or_eq_false_iff] at c72
      obtain rfl : n = i := by omega
      refine W.exit ?_
      refine W.seq ?_
      refine W.region ?_
      refine WL.c rfl (o_fa 1 TI26 rfl TI23 rfl h5 ?_)
      refine WL.c rfl (o_ld TI23 rfl rfl (cell_of hC5 rfl) ?_)
      refine WL.c rfl (o_mvh h6 ?_)
      refine WL.c rfl (o_bldC (cs := [(.int .i64 20), (.int .i64 0), (.int .i64 0), (.int .i64 0)]) TI28 (Sizes.cons TI3 (Sizes.cons TI3 (Sizes.cons TI3 (Sizes.cons TI3 Sizes.nil)))) rfl (lcp (show _ = Value.int _ _ from rfl) lnp) rfl rfl ?_)
      refine WL.c rfl (o_ixB (i := n) TI23 TI28 (show _ = Value.slice (some ⟨gc, 0, none⟩) (n + 1) (n + 1) from rfl) (show _ = Value.int .i64 (n : Int) from rfl) (by omega) ?_)
      refine WL.u (o_stRA TI28 (show _ = Value.pointer (some ⟨gc, 0 + n * 4, none⟩) from rfl) (show 0 + n * 4 = n * 4 by omega) (show _ = Value.agg (insV ret0I).toArray from rfl) rfl rfl hL rfl (by omega) ?_)
      intro w165 hr165 ho165 hs165
      replace hE := own_only hE ho165 (fun q hq hF => own_row_off hL hE (by decide) q hq hF)
      replace hC2 := ho165.blk hC2 (own_off hL hC2 (by decide))
      replace hC4 := ho165.blk hC4 (own_off hL hC4 (by decide))
      replace hC5 := ho165.blk hC5 (own_off hL hC5 (by decide))
      replace hx := hx.trans' ho165 (fun _ h => h) (fun q hq hF => by have := (hL.lt q hF).1; omega)
      rw [inss_setI L n ret0I (by omega)] at hr165
      clear hL
      have hL := hr165
      clear hr165
      have hLn : (L.set n ret0I).getD n in0 = ret0I := getD_setI (by omega)
      have hGn : ∀ j, j < n → GoodI p.enc (n + 1) m ((L.set n ret0I).getD j in0) := fun j hj => by rw [getD_set (by omega)]; exact hG j hj
      have hLl2 : (L.set n ret0I).length = n + 1 := by rw [List.length_set]; exact hLl
      generalize L.set n ret0I = L2 at hL hLn hGn hLl2
      refine WL.nil ?_
      refine W.seq ?_
      refine W.seq ?_
      refine W.region ?_
      refine WL.c rfl (o_ash (show _ = Value.int _ _ from rfl) ?_)
      refine WL.nil ?_
      refine W.block ?_
      refine W.loop (fun e w => ∃ (i : Nat) (L : List Ins), i ≤ n ∧ L.length = n + 1 ∧ L.getD n in0 = ret0I ∧ (∀ j, j < i → OkI ⟨p.enc, L, List.replicate m 0⟩ j) ∧ (∀ j, i ≤ j → j < n → GoodI p.enc (n + 1) m (L.getD j in0)) ∧ e 2 = .pointer (some ⟨b2, 0, none⟩) ∧ e 4 = .pointer (some ⟨b4, 0, none⟩) ∧ e 5 = .pointer (some ⟨b5, 0, none⟩) ∧ e 6 = .int .i64 (n : Int) ∧ e 12 = .int .i64 (i : Int) ∧ w.ownsRow w0.heap.size 28 4 (Value.slice (some ⟨gc, 0, none⟩) (n + 1) (n + 1)) (n + 1) (inss (L)) ∧ w.ownsRow w0.heap.size 3 1 (Value.slice (some ⟨ge, 0, none⟩) m m) m (zs (List.replicate m 0)) ∧ w.heap[b2]? = some (.cells (pgV p cv ev_).toArray 26 (0, 0)) ∧ w.heap[b4]? = some (.cells ([.bool false, .slice none 0 0, .slice none 0 0]).toArray 26 (0, 0)) ∧ w.heap[b5]? = some (.cells #[.bool p.enc, Value.slice (some ⟨gc, 0, none⟩) (n + 1) (n + 1), Value.slice (some ⟨ge, 0, none⟩) m m] 26 (0, 0)) ∧ Ext w0 w) (fun e w => n - (intOf (e 12)).toNat) ?_ ?_
      · exact ⟨0, L2, Nat.zero_le _, hLl2, hLn, fun j h => absurd h (Nat.not_lt_zero j), fun j _ hj => hGn j hj, h2, h4, h5, h6, rfl, hL, hE, hC2, hC4, hC5, hx⟩
      rintro e w ⟨i, L, hi, hLl, hLn, hO, hG, h2, h4, h5, h6, h12, hL, hE, hC2, hC4, hC5, hx⟩
      have hm12 := h12
      refine W.seq ?_
      refine W.seq ?_
      refine W.region ?_
      refine WL.c rfl (o_mvh h12 ?_)
      refine WL.c rfl (o_mvh h6 ?_)
      refine WL.c rfl (o_lt rfl rfl ?_)
      refine WL.nil ?_
      refine W.cond rfl (fun c168 => ?_) (fun c168 => ?_)
      · try simp only [decide_eq_true_eq, decide_eq_false_iff_not, Bool.not_eq_true', Bool.not_eq_false', Bool.and_eq_true, Bool.or_eq_true, Bool.and_eq_false_iff, Bool.or_eq_false_iff] at c168
        have hi1 : i < n := by omega
        obtain ⟨x, hxd⟩ : ∃ x, x = L.getD i in0 := ⟨_, rfl⟩
        have hGx : GoodI p.enc (n + 1) m x := hxd ▸ hG i (Nat.le_refl _) hi1
        refine W.skip ?_
        refine W.seq ?_
        refine W.block ?_
        refine W.seq ?_
        refine W.seq ?_
        refine W.region ?_
        refine WL.cut (fun e1 w1 => e1 186 = .bool (decide (¬ (x.op = 8 ∨ x.op = 41))) ∧ e1 2 = .pointer (some ⟨b2, 0, none⟩) ∧ e1 4 = .pointer (some ⟨b4, 0, none⟩) ∧ e1 5 = .pointer (some ⟨b5, 0, none⟩) ∧ e1 6 = .int .i64 (n : Int) ∧ e1 12 = .int .i64 (i : Int) ∧ w1 = w) ?_ ?_
        · -- region 25
          refine WL.c rfl (o_fa 1 TI26 rfl TI23 rfl h5 ?_)
          refine WL.c rfl (o_ld TI23 rfl rfl (cell_of hC5 rfl) ?_)
          refine WL.c rfl (o_mvh h12 ?_)
          refine WL.c rfl (o_ixB (i := i) TI23 TI28 (show _ = Value.slice (some ⟨gc, 0, none⟩) (n + 1) (n + 1) from rfl) (show _ = Value.int .i64 (i : Int) from rfl) (by omega) ?_)
          refine WL.c rfl (o_fa 0 TI28 rfl TI3 rfl rfl ?_)
          refine WL.c rfl (o_ld TI3 rfl rfl (show _ = some (Value.int .i64 x.op) from by rw [hxd]; exact madC hL hLl (by omega) 0 _ rfl) ?_)
          refine WL.c rfl (o_ne rfl rfl ?_)
          refine WL.c rfl (o_mvh (show _ = Value.bool _ from rfl) ?_)
          refine WL.sp 7 rfl (fun g178 => ?_) (fun g178 => ?_)
          · skip
            refine WL.g rfl (g178) rfl (o_fa 1 TI26 rfl TI23 rfl h5 ?_)
            refine WL.g rfl (g178) rfl (o_ld TI23 rfl rfl (cell_of hC5 rfl) ?_)
            refine WL.g rfl (g178) rfl (o_mvh h12 ?_)
            refine WL.g rfl (g178) rfl (o_ixB (i := i) TI23 TI28 (show _ = Value.slice (some ⟨gc, 0, none⟩) (n + 1) (n + 1) from rfl) (show _ = Value.int .i64 (i : Int) from rfl) (by omega) ?_)
            refine WL.g rfl (g178) rfl (o_fa 0 TI28 rfl TI3 rfl rfl ?_)
            refine WL.g rfl (g178) rfl (o_ld TI3 rfl rfl (show _ = some (Value.int .i64 x.op) from by rw [hxd]; exact madC hL hLl (by omega) 0 _ rfl) ?_)
            refine WL.g rfl (g178) rfl (o_ne rfl rfl ?_)
            refine WL.c rfl (o_pickA rfl rfl ?_)
            exact WL.nil (⟨congrArg Value.bool (by rw [Bool.eq_iff_iff, decide_eq_true_iff]; first | (simp_all; done) | (simp_all; omega)), h2, h4, h5, h6, h12, rfl⟩)
          · skip
            refine WL.s rfl (g178) rfl ?_
            refine WL.s rfl (g178) rfl ?_
            refine WL.s rfl (g178) rfl ?_
            refine WL.s rfl (g178) rfl ?_
            refine WL.s rfl (g178) rfl ?_
            refine WL.s rfl (g178) rfl ?_
            refine WL.s rfl (g178) rfl ?_
            refine WL.c rfl (o_pickF rfl (g178) ?_)
            exact WL.nil (⟨congrArg Value.bool (by rw [Bool.eq_iff_iff, decide_eq_true_iff]; first | (simp_all; done) | (simp_all; omega)), h2, h4, h5, h6, h12, rfl⟩)
        rintro e w ⟨h186, h2, h4, h5, h6, h12, hw1⟩
        subst hw1
        refine W.cond h186 (fun c186 => ?_) (fun c186 => ?_)
        · try simp only [decide_eq_true_eq, decide_eq_false_iff_not, Bool.not_eq_true', Bool.not_eq_false', Bool.and_eq_true, Bool.or_eq_true, Bool.and_eq_false_iff, Bool.or_eq_false_iff] at c186
          obtain ⟨Lf, hLfd⟩ : ∃ X, X = L := ⟨_, rfl⟩
          have hO2 : ∀ j, j < i + 1 → OkI ⟨p.enc, Lf, List.replicate m 0⟩ j := fun j hj => by
            rw [hLfd]
            by_cases hji : j = i
            · subst hji
              refine GoodI.ok ?_ (by show ¬ ((L.getD j in0).op = 8 ∨ (L.getD j in0).op = 41); rw [← hxd]; exact c186)
              show GoodI p.enc L.length (List.replicate m (0 : Int)).length (L.getD j in0)
              rw [hLl, List.length_replicate, ← hxd]; exact hGx
            · exact hO j (by omega)
          have hG2 : ∀ j, i + 1 ≤ j → j < n → GoodI p.enc (n + 1) m (Lf.getD j in0) := fun j h1 h2 => by rw [hLfd]; exact hG j (by omega) h2
          have hLf2 : Lf.length = n + 1 := by rw [hLfd]; exact hLl
          have hLfn : Lf.getD n in0 = ret0I := by rw [hLfd]; exact hLn
          rw [← hLfd] at hL
          refine W.exit ?_
          refine W.region ?_
          refine WL.c rfl (o_mvh h12 ?_)
          refine WL.c rfl (o_addi rfl rfl (by omega) ?_)
          refine WL.c rfl (o_ash (show _ = Value.int _ _ from rfl) ?_)
          refine WL.nil ?_
          refine ⟨⟨i + 1, Lf, by omega, hLf2, hLfn, hO2, hG2, h2, h4, h5, h6, rfl, hL, hE, hC2, hC4, hC5, hx⟩, ?_⟩
          show n - ((i : Int) + 1).toNat < _
          rw [hm12]; simp [intOf]; omega
        · try simp only [decide_eq_true_eq, decide_eq_false_iff_not, Bool.not_eq_true', Bool.not_eq_false', Bool.and_eq_true, Bool.or_eq_true, Bool.and_eq_false_iff, Bool.or_eq_false_iff] at c186
          have hu : x.op = 8 ∨ x.op = 41 := by rcases Classical.em (x.op = 8 ∨ x.op = 41) with h | h; exact h; exact absurd h (by first | exact c186 | simpa using c186)
          have h9 : (L.getD i in0).op ≠ 9 := by rw [← hxd]; omega
          refine W.skip ?_
          refine W.seq ?_
          refine W.region ?_
          refine WL.c rfl (o_ash (show _ = Value.int _ _ from rfl) ?_)
          refine WL.nil ?_
          refine W.seq ?_
          refine W.block ?_
          refine W.loop (fun e w => ∃ (k : Nat) (a : Int), k ≤ 64 ∧ ArmsP L i (k : Int) ∧ e 2 = .pointer (some ⟨b2, 0, none⟩) ∧ e 4 = .pointer (some ⟨b4, 0, none⟩) ∧ e 5 = .pointer (some ⟨b5, 0, none⟩) ∧ e 6 = .int .i64 (n : Int) ∧ e 12 = .int .i64 (i : Int) ∧ e 13 = .int .i64 (k : Int) ∧ w.ownsRow w0.heap.size 28 4 (Value.slice (some ⟨gc, 0, none⟩) (n + 1) (n + 1)) (n + 1) (inss (L.set i { x with a := a })) ∧ w.ownsRow w0.heap.size 3 1 (Value.slice (some ⟨ge, 0, none⟩) m m) m (zs (List.replicate m 0)) ∧ w.heap[b2]? = some (.cells (pgV p cv ev_).toArray 26 (0, 0)) ∧ w.heap[b4]? = some (.cells ([.bool false, .slice none 0 0, .slice none 0 0]).toArray 26 (0, 0)) ∧ w.heap[b5]? = some (.cells #[.bool p.enc, Value.slice (some ⟨gc, 0, none⟩) (n + 1) (n + 1), Value.slice (some ⟨ge, 0, none⟩) m m] 26 (0, 0)) ∧ Ext w0 w) (fun e w => 64 - (intOf (e 13)).toNat) ?_ ?_
          · exact ⟨0, x.a, by omega, ArmsP.zero (by omega), h2, h4, h5, h6, h12, rfl, by show World.ownsRow _ _ _ _ _ _ (inss (L.set i x)); rw [hxd, set_self (by omega)]; exact hL, hE, hC2, hC4, hC5, hx⟩
          rintro e w ⟨k, a, hk64, hAr, h2, h4, h5, h6, h12, h13, hL, hE, hC2, hC4, hC5, hx⟩
          have hm13 := h13
          have hroom := hAr.room
          refine W.seq ?_
          refine W.seq ?_
          refine W.region ?_
          refine WL.cut (fun e1 w1 => e1 208 = .bool (decide (i + 1 + k < n ∧ k < 64 ∧ (L.getD (i + 1 + k) in0).op = 9)) ∧ e1 2 = .pointer (some ⟨b2, 0, none⟩) ∧ e1 4 = .pointer (some ⟨b4, 0, none⟩) ∧ e1 5 = .pointer (some ⟨b5, 0, none⟩) ∧ e1 6 = .int .i64 (n : Int) ∧ e1 12 = .int .i64 (i : Int) ∧ e1 13 = .int .i64 (k : Int) ∧ w1 = w) ?_ ?_
          · -- region 27
            refine WL.c rfl (o_mvh h12 ?_)
            refine WL.c rfl (o_addi rfl rfl (by omega) ?_)
            refine WL.c rfl (o_mvh h13 ?_)
            refine WL.c rfl (o_addi rfl rfl (by omega) ?_)
            refine WL.c rfl (o_mvh h6 ?_)
            refine WL.c rfl (o_lt rfl rfl ?_)
            refine WL.c rfl (o_mvh (show _ = Value.bool _ from rfl) ?_)
            refine WL.sp 6 rfl (fun g193 => ?_) (fun g193 => ?_)
            · skip
              refine WL.g rfl (g193) rfl (o_mvh h13 ?_)
              refine WL.g rfl (g193) rfl (o_lt rfl rfl ?_)
              refine WL.c rfl (o_pickA rfl rfl ?_)
              refine WL.c rfl (o_mvh (show _ = Value.bool _ from rfl) ?_)
              refine WL.sp 10 rfl (fun g197 => ?_) (fun g197 => ?_)
              · skip
                refine WL.g rfl (g197) rfl (o_fa 1 TI26 rfl TI23 rfl h5 ?_)
                refine WL.g rfl (g197) rfl (o_ld TI23 rfl rfl (cell_of hC5 rfl) ?_)
                refine WL.g rfl (g197) rfl (o_mvh h12 ?_)
                refine WL.g rfl (g197) rfl (o_addi rfl rfl (by omega) ?_)
                refine WL.g rfl (g197) rfl (o_mvh h13 ?_)
                refine WL.g rfl (g197) rfl (o_addi rfl rfl (by omega) ?_)
                refine WL.g rfl (g197) rfl (o_ixB (i := i + 1 + k) TI23 TI28 (show _ = Value.slice (some ⟨gc, 0, none⟩) (n + 1) (n + 1) from rfl) (show _ = Value.int .i64 ((i + 1 + k : Nat) : Int) from rfl) (by have h9 := g193; simp at h9; omega) ?_)
                refine WL.g rfl (g197) rfl (o_fa 0 TI28 rfl TI3 rfl rfl ?_)
                refine WL.g rfl (g197) rfl (o_ld TI3 rfl rfl (show _ = some (Value.int .i64 (L.getD (i + 1 + k) in0).op) from by have h9 := madC hL (by rw [List.length_set]; exact hLl) (k := i + 1 + k) (by have h9 := g193; simp at h9; omega); rw [getD_set (by omega)] at h9; exact h9 0 _ rfl) ?_)
                refine WL.g rfl (g197) rfl (o_eq rfl rfl ?_)
                refine WL.c rfl (o_pickA rfl rfl ?_)
                exact WL.nil (⟨congrArg Value.bool (by rw [Bool.eq_iff_iff, decide_eq_true_iff]; first | (simp_all; done) | (simp_all; omega)), h2, h4, h5, h6, h12, h13, rfl⟩)
              · skip
                refine WL.s rfl (g197) rfl ?_
                refine WL.s rfl (g197) rfl ?_
                refine WL.s rfl (g197) rfl ?_
                refine WL.s rfl (g197) rfl ?_
                refine WL.s rfl (g197) rfl ?_
                refine WL.s rfl (g197) rfl ?_
                refine WL.s rfl (g197) rfl ?_
                refine WL.s rfl (g197) rfl ?_
                refine WL.s rfl (g197) rfl ?_
                refine WL.s rfl (g197) rfl ?_
                refine WL.c rfl (o_pickF rfl (g197) ?_)
                exact WL.nil (⟨congrArg Value.bool (by rw [Bool.eq_iff_iff, decide_eq_true_iff]; first | (simp_all; done) | (simp_all; omega)), h2, h4, h5, h6, h12, h13, rfl⟩)
            · skip
              refine WL.s rfl (g193) rfl ?_
              refine WL.s rfl (g193) rfl ?_
              refine WL.c rfl (o_pickF rfl (g193) ?_)
              refine WL.c rfl (o_mvh (show _ = Value.bool _ from rfl) ?_)
              refine WL.s rfl (rfl) rfl ?_
              refine WL.s rfl (rfl) rfl ?_
              refine WL.s rfl (rfl) rfl ?_
              refine WL.s rfl (rfl) rfl ?_
              refine WL.s rfl (rfl) rfl ?_
              refine WL.s rfl (rfl) rfl ?_
              refine WL.s rfl (rfl) rfl ?_
              refine WL.s rfl (rfl) rfl ?_
              refine WL.s rfl (rfl) rfl ?_
              refine WL.s rfl (rfl) rfl ?_
              refine WL.c rfl (o_pickF rfl (rfl) ?_)
              exact WL.nil (⟨congrArg Value.bool (by rw [Bool.eq_iff_iff, decide_eq_true_iff]; first | (simp_all; done) | (simp_all; omega)), h2, h4, h5, h6, h12, h13, rfl⟩)
          rintro e w ⟨h208, h2, h4, h5, h6, h12, h13, hw1⟩
          subst hw1
          refine W.cond h208 (fun c208 => ?_) (fun c208 => ?_)
          · try simp only [decide_eq_true_eq, decide_eq_false_iff_not, Bool.not_eq_true', Bool.not_eq_false', Bool.and_eq_true, Bool.or_eq_true, Bool.and_eq_false_iff, Bool.or_eq_false_iff] at c208
            refine W.skip ?_
            refine W.block ?_
            refine W.seq ?_
            refine W.region ?_
            refine WL.c rfl (o_fa 1 TI26 rfl TI23 rfl h5 ?_)
            refine WL.c rfl (o_ld TI23 rfl rfl (cell_of hC5 rfl) ?_)
            refine WL.c rfl (o_mvh h12 ?_)
            refine WL.c rfl (o_mvh h13 ?_)
            refine WL.c rfl (o_addi rfl rfl (by omega) ?_)
            refine WL.c rfl (o_ixB (i := i) TI23 TI28 (show _ = Value.slice (some ⟨gc, 0, none⟩) (n + 1) (n + 1) from rfl) (show _ = Value.int .i64 (i : Int) from rfl) (by omega) ?_)
            refine WL.c rfl (o_fa 1 TI28 rfl TI3 rfl rfl ?_)
            refine WL.u (o_stRj TI3 (show _ = Value.pointer (some ⟨gc, 0 + i * 4 + 1, none⟩) from rfl) (show 0 + i * 4 + 1 = i * 4 + 1 by omega) (show _ = Value.int .i64 ((k : Int) + 1) from rfl) rfl hL rfl (by omega) ?_)
            intro w215 hr215 ho215 hs215
            replace hE := own_only hE ho215 (fun q hq hF => own_row_off hL hE (by decide) q hq hF)
            replace hC2 := ho215.blk hC2 (own_off hL hC2 (by decide))
            replace hC4 := ho215.blk hC4 (own_off hL hC4 (by decide))
            replace hC5 := ho215.blk hC5 (own_off hL hC5 (by decide))
            replace hx := hx.trans' ho215 (fun _ h => h) (fun q hq hF => by have := (hL.lt q hF).1; omega)
            rw [madA (by omega)] at hr215
            clear hL
            have hL := hr215
            clear hr215
            refine WL.nil ?_
            refine W.seq ?_
            refine W.seq ?_
            refine W.region ?_
            refine WL.c rfl (o_ldA TI26 rfl h5 (show Cells _ b5 0 (pgV ⟨p.enc, L.set i { x with a := ((k : Int) + 1) }, List.replicate m 0⟩ (Value.slice (some ⟨gc, 0, none⟩) (n + 1) (n + 1)) (Value.slice (some ⟨ge, 0, none⟩) m m)) from Cells.of hC5 0 _ (by simp [pgV])) rfl ?_)
            refine WL.c rfl (o_mvh h12 ?_)
            refine WL.c rfl (o_call Tryd.call42 (lc rfl (lc rfl ln)) ((rarms_spec ⟨p.enc, L.set i { x with a := ((k : Int) + 1) }, List.replicate m 0⟩ (Value.slice (some ⟨gc, 0, none⟩) (n + 1) (n + 1)) (Value.slice (some ⟨ge, 0, none⟩) m m) i _ (madR (by rw [List.length_set]; exact hLl) hL hE) (by show (L.set i { x with a := ((k : Int) + 1) }).length ≤ 1048576; rw [List.length_set]; omega) (by show i < (L.set i { x with a := ((k : Int) + 1) }).length; rw [List.length_set]; omega) (by show -1 ≤ ((L.set i { x with a := ((k : Int) + 1) })[i]'(by rw [List.length_set]; omega)).a ∧ ((L.set i { x with a := ((k : Int) + 1) })[i]'(by rw [List.length_set]; omega)).a ≤ 64; rw [List.getElem_set_self]; show -1 ≤ (k : Int) + 1 ∧ (k : Int) + 1 ≤ 64; omega)).mono ?_))
            rintro v218 w218 ⟨b, rfl, hbA, hx218⟩
            have hbA2 : b = true ↔ ArmsP L i ((k + 1 : Nat) : Int) := by
              rw [hbA]
              show ArmsP (L.set i { x with a := ((k : Int) + 1) }) i (((L.set i { x with a := ((k : Int) + 1) })[i]'(by rw [List.length_set]; omega)).a) ↔ _
              rw [List.getElem_set_self]
              exact ArmsP.set
            replace hx := hx.tr hx218
            replace hL := own_ext hL hx218
            replace hE := own_ext hE hx218
            replace hC2 := hx218.blk hC2 (fun h => h)
            replace hC4 := hx218.blk hC4 (fun h => h)
            replace hC5 := hx218.blk hC5 (fun h => h)
            refine WL.c rfl (o_not' rfl ?_)
            refine WL.nil ?_
            refine W.cond rfl (fun c219 => ?_) (fun c219 => ?_)
            · try simp only [decide_eq_true_eq, decide_eq_false_iff_not, Bool.not_eq_true', Bool.not_eq_false', Bool.and_eq_true, Bool.or_eq_true, Bool.and_eq_false_iff, Bool.or_eq_false_iff] at c219
              refine W.exit ?_
              refine W.seq ?_
              refine W.region ?_
              refine WL.c rfl (o_fa 1 TI26 rfl TI23 rfl h5 ?_)
              refine WL.c rfl (o_ld TI23 rfl rfl (cell_of hC5 rfl) ?_)
              refine WL.c rfl (o_mvh h12 ?_)
              refine WL.c rfl (o_mvh h13 ?_)
              refine WL.c rfl (o_ixB (i := i) TI23 TI28 (show _ = Value.slice (some ⟨gc, 0, none⟩) (n + 1) (n + 1) from rfl) (show _ = Value.int .i64 (i : Int) from rfl) (by omega) ?_)
              refine WL.c rfl (o_fa 1 TI28 rfl TI3 rfl rfl ?_)
              refine WL.u (o_stRj TI3 (show _ = Value.pointer (some ⟨gc, 0 + i * 4 + 1, none⟩) from rfl) (show 0 + i * 4 + 1 = i * 4 + 1 by omega) (show _ = Value.int .i64 ((k : Int)) from rfl) rfl hL rfl (by omega) ?_)
              intro w227 hr227 ho227 hs227
              replace hE := own_only hE ho227 (fun q hq hF => own_row_off hL hE (by decide) q hq hF)
              replace hC2 := ho227.blk hC2 (own_off hL hC2 (by decide))
              replace hC4 := ho227.blk hC4 (own_off hL hC4 (by decide))
              replace hC5 := ho227.blk hC5 (own_off hL hC5 (by decide))
              replace hx := hx.trans' ho227 (fun _ h => h) (fun q hq hF => by have := (hL.lt q hF).1; omega)
              rw [madA (by omega)] at hr227
              clear hL
              have hL := hr227
              clear hr227
              refine WL.nil ?_
              refine W.seq ?_
              refine W.region ?_
              refine WL.c rfl (o_mvh h13 ?_)
              refine WL.c rfl (o_eq rfl rfl ?_)
              refine WL.nil ?_
              refine W.cond rfl (fun c229 => ?_) (fun c229 => ?_)
              · try simp only [decide_eq_true_eq, decide_eq_false_iff_not, Bool.not_eq_true', Bool.not_eq_false', Bool.and_eq_true, Bool.or_eq_true, Bool.and_eq_false_iff, Bool.or_eq_false_iff] at c229
                have hk0 : k = 0 := by omega
                refine W.region ?_
                refine WL.c rfl (o_fa 1 TI26 rfl TI23 rfl h5 ?_)
                refine WL.c rfl (o_ld TI23 rfl rfl (cell_of hC5 rfl) ?_)
                refine WL.c rfl (o_mvh h12 ?_)
                refine WL.c rfl (o_bldC (cs := [(.int .i64 20), (.int .i64 0), (.int .i64 0), (.int .i64 0)]) TI28 (Sizes.cons TI3 (Sizes.cons TI3 (Sizes.cons TI3 (Sizes.cons TI3 Sizes.nil)))) rfl (lcp (show _ = Value.int _ _ from rfl) lnp) rfl rfl ?_)
                refine WL.c rfl (o_ixB (i := i) TI23 TI28 (show _ = Value.slice (some ⟨gc, 0, none⟩) (n + 1) (n + 1) from rfl) (show _ = Value.int .i64 (i : Int) from rfl) (by omega) ?_)
                refine WL.u (o_stRA TI28 (show _ = Value.pointer (some ⟨gc, 0 + i * 4, none⟩) from rfl) (show 0 + i * 4 = i * 4 by omega) (show _ = Value.agg (insV ret0I).toArray from rfl) rfl rfl hL rfl (by omega) ?_)
                intro w234 hr234 ho234 hs234
                replace hE := own_only hE ho234 (fun q hq hF => own_row_off hL hE (by decide) q hq hF)
                replace hC2 := ho234.blk hC2 (own_off hL hC2 (by decide))
                replace hC4 := ho234.blk hC4 (own_off hL hC4 (by decide))
                replace hC5 := ho234.blk hC5 (own_off hL hC5 (by decide))
                replace hx := hx.trans' ho234 (fun _ h => h) (fun q hq hF => by have := (hL.lt q hF).1; omega)
                rw [inss_setI _ i ret0I (by rw [List.length_set]; omega), List.set_set] at hr234
                clear hL
                have hL := hr234
                clear hr234
                obtain ⟨Lf, hLfd⟩ : ∃ X, X = L.set i ret0I := ⟨_, rfl⟩
                have hO2 : ∀ j, j < i + 1 → OkI ⟨p.enc, Lf, List.replicate m 0⟩ j := fun j hj => by
                  rw [hLfd]
                  by_cases hji : j = i
                  · subst hji; exact ret_ok (getD_setI (by omega))
                  · exact (hO j (by omega)).set hji h9
                have hG2 : ∀ j, i + 1 ≤ j → j < n → GoodI p.enc (n + 1) m (Lf.getD j in0) := fun j h1 h2 => by rw [hLfd, getD_set (by omega)]; exact hG j (by omega) h2
                have hLf2 : Lf.length = n + 1 := by rw [hLfd, List.length_set]; exact hLl
                have hLfn : Lf.getD n in0 = ret0I := by rw [hLfd, getD_set (by omega)]; exact hLn
                rw [← hLfd] at hL
                refine WL.nil ?_
                refine W.region ?_
                refine WL.c rfl (o_mvh h12 ?_)
                refine WL.c rfl (o_addi rfl rfl (by omega) ?_)
                refine WL.c rfl (o_ash (show _ = Value.int _ _ from rfl) ?_)
                refine WL.nil ?_
                refine ⟨⟨i + 1, Lf, by omega, hLf2, hLfn, hO2, hG2, h2, h4, h5, h6, rfl, hL, hE, hC2, hC4, hC5, hx⟩, ?_⟩
                show n - ((i : Int) + 1).toNat < _
                rw [hm12]; simp [intOf]; omega
              · try simp only [decide_eq_true_eq, decide_eq_false_iff_not, Bool.not_eq_true', Bool.not_eq_false', Bool.and_eq_true, Bool.or_eq_true, Bool.and_eq_false_iff, Bool.or_eq_false_iff] at c229
                have hk1 : 1 ≤ k := by omega
                obtain ⟨Lf, hLfd⟩ : ∃ X, X = L.set i { x with a := (k : Int) } := ⟨_, rfl⟩
                have hO2 : ∀ j, j < i + 1 → OkI ⟨p.enc, Lf, List.replicate m 0⟩ j := fun j hj => by
                  rw [hLfd]
                  by_cases hji : j = i
                  · subst hji; exact GoodI.arms hGx hu rfl (getD_setI (by omega)) ⟨hk1, hk64⟩ (ArmsP.set.2 hAr)
                  · exact (hO j (by omega)).set hji h9
                have hG2 : ∀ j, i + 1 ≤ j → j < n → GoodI p.enc (n + 1) m (Lf.getD j in0) := fun j h1 h2 => by rw [hLfd, getD_set (by omega)]; exact hG j (by omega) h2
                have hLf2 : Lf.length = n + 1 := by rw [hLfd, List.length_set]; exact hLl
                have hLfn : Lf.getD n in0 = ret0I := by rw [hLfd, getD_set (by omega)]; exact hLn
                rw [← hLfd] at hL
                refine W.skip ?_
                refine W.region ?_
                refine WL.c rfl (o_mvh h12 ?_)
                refine WL.c rfl (o_addi rfl rfl (by omega) ?_)
                refine WL.c rfl (o_ash (show _ = Value.int _ _ from rfl) ?_)
                refine WL.nil ?_
                refine ⟨⟨i + 1, Lf, by omega, hLf2, hLfn, hO2, hG2, h2, h4, h5, h6, rfl, hL, hE, hC2, hC4, hC5, hx⟩, ?_⟩
                show n - ((i : Int) + 1).toNat < _
                rw [hm12]; simp [intOf]; omega
            · try simp only [decide_eq_true_eq, decide_eq_false_iff_not, Bool.not_eq_true', Bool.not_eq_false', Bool.and_eq_true, Bool.or_eq_true, Bool.and_eq_false_iff, Bool.or_eq_false_iff] at c219
              refine W.skip ?_
              refine W.region ?_
              refine WL.c rfl (o_mvh h13 ?_)
              refine WL.c rfl (o_addi rfl rfl (by omega) ?_)
              refine WL.c rfl (o_ash (show _ = Value.int _ _ from rfl) ?_)
              refine WL.nil ?_
              refine ⟨⟨k + 1, (k : Int) + 1, by omega, hbA2.1 (by simpa using c219), h2, h4, h5, h6, h12, rfl, hL, hE, hC2, hC4, hC5, hx⟩, ?_⟩
              show 64 - ((k : Int) + 1).toNat < _
              rw [hm13]; simp [intOf]; omega
          · try simp only [decide_eq_true_eq, decide_eq_false_iff_not, Bool.not_eq_true', Bool.not_eq_false', Bool.and_eq_true, Bool.or_eq_true, Bool.and_eq_false_iff, Bool.or_eq_false_iff] at c208
            refine W.exit ?_
            refine W.seq ?_
            refine W.region ?_
            refine WL.c rfl (o_fa 1 TI26 rfl TI23 rfl h5 ?_)
            refine WL.c rfl (o_ld TI23 rfl rfl (cell_of hC5 rfl) ?_)
            refine WL.c rfl (o_mvh h12 ?_)
            refine WL.c rfl (o_mvh h13 ?_)
            refine WL.c rfl (o_ixB (i := i) TI23 TI28 (show _ = Value.slice (some ⟨gc, 0, none⟩) (n + 1) (n + 1) from rfl) (show _ = Value.int .i64 (i : Int) from rfl) (by omega) ?_)
            refine WL.c rfl (o_fa 1 TI28 rfl TI3 rfl rfl ?_)
            refine WL.u (o_stRj TI3 (show _ = Value.pointer (some ⟨gc, 0 + i * 4 + 1, none⟩) from rfl) (show 0 + i * 4 + 1 = i * 4 + 1 by omega) (show _ = Value.int .i64 ((k : Int)) from rfl) rfl hL rfl (by omega) ?_)
            intro w227 hr227 ho227 hs227
            replace hE := own_only hE ho227 (fun q hq hF => own_row_off hL hE (by decide) q hq hF)
            replace hC2 := ho227.blk hC2 (own_off hL hC2 (by decide))
            replace hC4 := ho227.blk hC4 (own_off hL hC4 (by decide))
            replace hC5 := ho227.blk hC5 (own_off hL hC5 (by decide))
            replace hx := hx.trans' ho227 (fun _ h => h) (fun q hq hF => by have := (hL.lt q hF).1; omega)
            rw [madA (by omega)] at hr227
            clear hL
            have hL := hr227
            clear hr227
            refine WL.nil ?_
            refine W.seq ?_
            refine W.region ?_
            refine WL.c rfl (o_mvh h13 ?_)
            refine WL.c rfl (o_eq rfl rfl ?_)
            refine WL.nil ?_
            refine W.cond rfl (fun c229 => ?_) (fun c229 => ?_)
            · try simp only [decide_eq_true_eq, decide_eq_false_iff_not, Bool.not_eq_true', Bool.not_eq_false', Bool.and_eq_true, Bool.or_eq_true, Bool.and_eq_false_iff, Bool.or_eq_false_iff] at c229
              have hk0 : k = 0 := by omega
              refine W.region ?_
              refine WL.c rfl (o_fa 1 TI26 rfl TI23 rfl h5 ?_)
              refine WL.c rfl (o_ld TI23 rfl rfl (cell_of hC5 rfl) ?_)
              refine WL.c rfl (o_mvh h12 ?_)
              refine WL.c rfl (o_bldC (cs := [(.int .i64 20), (.int .i64 0), (.int .i64 0), (.int .i64 0)]) TI28 (Sizes.cons TI3 (Sizes.cons TI3 (Sizes.cons TI3 (Sizes.cons TI3 Sizes.nil)))) rfl (lcp (show _ = Value.int _ _ from rfl) lnp) rfl rfl ?_)
              refine WL.c rfl (o_ixB (i := i) TI23 TI28 (show _ = Value.slice (some ⟨gc, 0, none⟩) (n + 1) (n + 1) from rfl) (show _ = Value.int .i64 (i : Int) from rfl) (by omega) ?_)
              refine WL.u (o_stRA TI28 (show _ = Value.pointer (some ⟨gc, 0 + i * 4, none⟩) from rfl) (show 0 + i * 4 = i * 4 by omega) (show _ = Value.agg (insV ret0I).toArray from rfl) rfl rfl hL rfl (by omega) ?_)
              intro w234 hr234 ho234 hs234
              replace hE := own_only hE ho234 (fun q hq hF => own_row_off hL hE (by decide) q hq hF)
              replace hC2 := ho234.blk hC2 (own_off hL hC2 (by decide))
              replace hC4 := ho234.blk hC4 (own_off hL hC4 (by decide))
              replace hC5 := ho234.blk hC5 (own_off hL hC5 (by decide))
              replace hx := hx.trans' ho234 (fun _ h => h) (fun q hq hF => by have := (hL.lt q hF).1; omega)
              rw [inss_setI _ i ret0I (by rw [List.length_set]; omega), List.set_set] at hr234
              clear hL
              have hL := hr234
              clear hr234
              obtain ⟨Lf, hLfd⟩ : ∃ X, X = L.set i ret0I := ⟨_, rfl⟩
              have hO2 : ∀ j, j < i + 1 → OkI ⟨p.enc, Lf, List.replicate m 0⟩ j := fun j hj => by
                rw [hLfd]
                by_cases hji : j = i
                · subst hji; exact ret_ok (getD_setI (by omega))
                · exact (hO j (by omega)).set hji h9
              have hG2 : ∀ j, i + 1 ≤ j → j < n → GoodI p.enc (n + 1) m (Lf.getD j in0) := fun j h1 h2 => by rw [hLfd, getD_set (by omega)]; exact hG j (by omega) h2
              have hLf2 : Lf.length = n + 1 := by rw [hLfd, List.length_set]; exact hLl
              have hLfn : Lf.getD n in0 = ret0I := by rw [hLfd, getD_set (by omega)]; exact hLn
              rw [← hLfd] at hL
              refine WL.nil ?_
              refine W.region ?_
              refine WL.c rfl (o_mvh h12 ?_)
              refine WL.c rfl (o_addi rfl rfl (by omega) ?_)
              refine WL.c rfl (o_ash (show _ = Value.int _ _ from rfl) ?_)
              refine WL.nil ?_
              refine ⟨⟨i + 1, Lf, by omega, hLf2, hLfn, hO2, hG2, h2, h4, h5, h6, rfl, hL, hE, hC2, hC4, hC5, hx⟩, ?_⟩
              show n - ((i : Int) + 1).toNat < _
              rw [hm12]; simp [intOf]; omega
            · try simp only [decide_eq_true_eq, decide_eq_false_iff_not, Bool.not_eq_true', Bool.not_eq_false', Bool.and_eq_true, Bool.or_eq_true, Bool.and_eq_false_iff, Bool.or_eq_false_iff] at c229
              have hk1 : 1 ≤ k := by omega
              obtain ⟨Lf, hLfd⟩ : ∃ X, X = L.set i { x with a := (k : Int) } := ⟨_, rfl⟩
              have hO2 : ∀ j, j < i + 1 → OkI ⟨p.enc, Lf, List.replicate m 0⟩ j := fun j hj => by
                rw [hLfd]
                by_cases hji : j = i
                · subst hji; exact GoodI.arms hGx hu rfl (getD_setI (by omega)) ⟨hk1, hk64⟩ (ArmsP.set.2 hAr)
                · exact (hO j (by omega)).set hji h9
              have hG2 : ∀ j, i + 1 ≤ j → j < n → GoodI p.enc (n + 1) m (Lf.getD j in0) := fun j h1 h2 => by rw [hLfd, getD_set (by omega)]; exact hG j (by omega) h2
              have hLf2 : Lf.length = n + 1 := by rw [hLfd, List.length_set]; exact hLl
              have hLfn : Lf.getD n in0 = ret0I := by rw [hLfd, getD_set (by omega)]; exact hLn
              rw [← hLfd] at hL
              refine W.skip ?_
              refine W.region ?_
              refine WL.c rfl (o_mvh h12 ?_)
              refine WL.c rfl (o_addi rfl rfl (by omega) ?_)
              refine WL.c rfl (o_ash (show _ = Value.int _ _ from rfl) ?_)
              refine WL.nil ?_
              refine ⟨⟨i + 1, Lf, by omega, hLf2, hLfn, hO2, hG2, h2, h4, h5, h6, rfl, hL, hE, hC2, hC4, hC5, hx⟩, ?_⟩
              show n - ((i : Int) + 1).toNat < _
              rw [hm12]; simp [intOf]; omega
      · try simp only [decide_eq_true_eq, decide_eq_false_iff_not, Bool.not_eq_true', Bool.not_eq_false', Bool.and_eq_true, Bool.or_eq_true, Bool.and_eq_false_iff, Bool.or_eq_false_iff] at c168
        obtain rfl : n = i := by omega
        refine W.exit ?_
        refine W.seq ?_
        refine W.seq ?_
        refine W.region ?_
        refine WL.c rfl (o_ash (show _ = Value.int _ _ from rfl) ?_)
        refine WL.nil ?_
        refine W.block ?_
        refine W.loop (fun e w => ∃ (t : Nat) (E : List Int), t ≤ m ∧ E.length = m ∧ (∀ e ∈ E, (0 : Int) ≤ e ∧ e ≤ (n : Int)) ∧ e 2 = .pointer (some ⟨b2, 0, none⟩) ∧ e 4 = .pointer (some ⟨b4, 0, none⟩) ∧ e 5 = .pointer (some ⟨b5, 0, none⟩) ∧ e 6 = .int .i64 (n : Int) ∧ e 14 = .int .i64 (t : Int) ∧ w.ownsRow w0.heap.size 28 4 (Value.slice (some ⟨gc, 0, none⟩) (n + 1) (n + 1)) (n + 1) (inss (L)) ∧ w.ownsRow w0.heap.size 3 1 (Value.slice (some ⟨ge, 0, none⟩) m m) m (zs (E)) ∧ w.heap[b2]? = some (.cells (pgV p cv ev_).toArray 26 (0, 0)) ∧ w.heap[b4]? = some (.cells ([.bool false, .slice none 0 0, .slice none 0 0]).toArray 26 (0, 0)) ∧ w.heap[b5]? = some (.cells #[.bool p.enc, Value.slice (some ⟨gc, 0, none⟩) (n + 1) (n + 1), Value.slice (some ⟨ge, 0, none⟩) m m] 26 (0, 0)) ∧ Ext w0 w) (fun e w => m - (intOf (e 14)).toNat) ?_ ?_
        · exact ⟨0, List.replicate m 0, Nat.zero_le _, List.length_replicate .., fun e he => by rw [List.eq_of_mem_replicate he]; omega, h2, h4, h5, h6, rfl, hL, hE, hC2, hC4, hC5, hx⟩
        rintro e w ⟨t, E, ht, hEl, hEb, h2, h4, h5, h6, h14, hL, hE, hC2, hC4, hC5, hx⟩
        have hm14 := h14
        refine W.seq ?_
        refine W.seq ?_
        refine W.region ?_
        refine WL.c rfl (o_mvh h14 ?_)
        refine WL.c rfl (o_fa 2 TI26 rfl TI24 rfl h5 ?_)
        refine WL.c rfl (o_ld TI24 rfl rfl (cell_of hC5 rfl) ?_)
        refine WL.c rfl (o_lenR TI24 rfl (show Sl _ 1 (Value.slice (some ⟨ge, 0, none⟩) m m) m (zs E) from Sl.own hE) ?_)
        refine WL.c rfl (o_lt rfl rfl ?_)
        refine WL.nil ?_
        refine W.cond rfl (fun c239 => ?_) (fun c239 => ?_)
        · try simp only [decide_eq_true_eq, decide_eq_false_iff_not, Bool.not_eq_true', Bool.not_eq_false', Bool.and_eq_true, Bool.or_eq_true, Bool.and_eq_false_iff, Bool.or_eq_false_iff] at c239
          have ht1 : t < m := by omega
          refine W.skip ?_
          refine W.seq ?_
          refine W.block ?_
          refine W.seq ?_
          refine W.region ?_
          refine WL.c rfl (o_mvh h14 ?_)
          refine WL.c rfl (o_fa 2 TI26 rfl TI24 rfl h2 ?_)
          refine WL.c rfl (o_ld TI24 rfl rfl (cell_of hC2 rfl) ?_)
          refine WL.c rfl (o_lenR TI24 rfl (hp.ent.ext hx) ?_)
          refine WL.c rfl (o_lt rfl rfl ?_)
          refine WL.nil ?_
          refine W.cut (fun e1 w1 => ∃ E2 : List Int, E2.length = m ∧ (∀ e ∈ E2, (0 : Int) ≤ e ∧ e ≤ (n : Int)) ∧ e1 2 = .pointer (some ⟨b2, 0, none⟩) ∧ e1 4 = .pointer (some ⟨b4, 0, none⟩) ∧ e1 5 = .pointer (some ⟨b5, 0, none⟩) ∧ e1 6 = .int .i64 (n : Int) ∧ e1 14 = .int .i64 (t : Int) ∧ w1.ownsRow w0.heap.size 28 4 (Value.slice (some ⟨gc, 0, none⟩) (n + 1) (n + 1)) (n + 1) (inss (L)) ∧ w1.ownsRow w0.heap.size 3 1 (Value.slice (some ⟨ge, 0, none⟩) m m) m (zs (E2)) ∧ w1.heap[b2]? = some (.cells (pgV p cv ev_).toArray 26 (0, 0)) ∧ w1.heap[b4]? = some (.cells ([.bool false, .slice none 0 0, .slice none 0 0]).toArray 26 (0, 0)) ∧ w1.heap[b5]? = some (.cells #[.bool p.enc, Value.slice (some ⟨gc, 0, none⟩) (n + 1) (n + 1), Value.slice (some ⟨ge, 0, none⟩) m m] 26 (0, 0)) ∧ Ext w0 w1) ?_ ?_
          · -- both ways
            refine W.cond rfl (fun c246 => ?_) (fun c246 => ?_)
            · try simp only [decide_eq_true_eq, decide_eq_false_iff_not, Bool.not_eq_true', Bool.not_eq_false', Bool.and_eq_true, Bool.or_eq_true, Bool.and_eq_false_iff, Bool.or_eq_false_iff] at c246
              have ht2 : t < p.ent.length := by omega
              obtain ⟨eb, eo, ec, hev9, hec⟩ : ∃ b o c, ev_ = .slice (some ⟨b, o, none⟩) p.ent.length c ∧ Cells w0 b o (zs p.ent) := by
                rcases hp.ent.val with ⟨h0, -⟩ | ⟨b, o, c, hv, -, hc⟩
                · omega
                · exact ⟨b, o, c, hv, hc⟩
              obtain ⟨wd, hwd⟩ : ∃ wd, wd = World.drew w := ⟨_, rfl⟩
              have hxd : Ext w wd := hwd ▸ Only.drew w
              replace hx := hx.tr hxd
              replace hL := own_ext hL hxd
              replace hE := own_ext hE hxd
              replace hC2 := hxd.blk hC2 (fun h => h)
              replace hC4 := hxd.blk hC4 (fun h => h)
              replace hC5 := hxd.blk hC5 (fun h => h)
              refine W.drawT 11 (Ext) [(2, fun v _ => v = (Value.pointer (some ⟨b2, 0, none⟩))), (4, fun v _ => v = (Value.pointer (some ⟨b4, 0, none⟩))), (5, fun v _ => v = (Value.pointer (some ⟨b5, 0, none⟩))), (6, fun v _ => v = (Value.int .i64 (n : Int))), (14, fun v _ => v = (Value.int .i64 (t : Int)))] rfl (by kernel_rfl) (Only.refl No) (fun _ _ _ h k => h.trans k) ⟨Mono.eq, Mono.eq, Mono.eq, Mono.eq, Mono.eq, trivial⟩ ⟨h2, h4, h5, h6, h14, trivial⟩ ?_
              refine WD.p rfl (fun e w hR hh => by obtain ⟨h5, -⟩ := hh; exact SG.n (o_fa 2 TI26 rfl TI24 rfl h5 ⟨rfl, Only.refl No _⟩)) ?_
              refine WD.p rfl (fun e w hR hh => by obtain ⟨h247, -⟩ := hh; rw [← hwd] at hR; have hc9 := hR.blk hC5 (fun h => h); exact SG.n (o_ld TI24 rfl h247 (cell_of hc9 rfl) ⟨rfl, Only.refl No _⟩)) ?_
              refine WD.p rfl (fun e w hR hh => by obtain ⟨h14, -⟩ := hh; exact SG.n (o_mvh h14 ⟨rfl, Only.refl No _⟩)) ?_
              refine WD.p rfl (fun e w hR hh => by obtain ⟨h2, -⟩ := hh; exact SG.n (o_fa 2 TI26 rfl TI24 rfl h2 ⟨rfl, Only.refl No _⟩)) ?_
              refine WD.p rfl (fun e w hR hh => by obtain ⟨h250, -⟩ := hh; rw [← hwd] at hR; have hc9 := hR.blk hC2 (fun h => h); exact SG.n (o_ld TI24 rfl h250 (cell_of hc9 rfl) ⟨rfl, Only.refl No _⟩)) ?_
              refine WD.p rfl (fun e w hR hh => by obtain ⟨h14, -⟩ := hh; exact SG.n (o_mvh h14 ⟨rfl, Only.refl No _⟩)) ?_
              refine WD.p rfl (fun e w hR hh => by obtain ⟨h252, h251, -⟩ := hh; exact SG.n (o_ixB (i := t) TI24 TI3 (h251.trans hev9) h252 ht2 ⟨rfl, Only.refl No _⟩)) ?_
              refine WD.p rfl (fun e w hR hh => by obtain ⟨h253, -⟩ := hh; rw [← hwd] at hR; exact SG.n (o_ld TI3 rfl h253 (show _ = some (Value.int .i64 p.ent[t]) from by rw [Nat.mul_one]; exact (Cells.only hec (hx.tr hR) (fun h => h)) t _ (zs_at ht2)) ⟨rfl, Only.refl No _⟩)) ?_
              refine WD.p rfl (fun e w hR hh => by obtain ⟨h6, -⟩ := hh; exact SG.n (o_mvh h6 ⟨rfl, Only.refl No _⟩)) ?_
              refine WD.q (fun v w => ∃ q : Int, v = .int .i64 q ∧ 0 ≤ q ∧ q ≤ (n : Int)) (fun v w w2 hR hh => hh) rfl (fun e w hR hh => by obtain ⟨h255, h254, -⟩ := hh; exact SG.n (o_call Tryd.call39 (lc h254 (lc rfl (lc h255 ln))) ((brought_spec p.ent[t] 0 (n : Int) _ (hb.ent _ (List.getElem_mem _)) (by omega) (by decide) (by omega)).mono (fun v w' ⟨⟨q, h1, h2, h3⟩, h4⟩ => ⟨⟨q, h1, h2, h3⟩, by rw [h4]; exact Only.refl No _⟩)))) ?_
              refine WD.p rfl (fun e w hR hh => by obtain ⟨h249, h248, -⟩ := hh; exact SG.n (o_ixB (i := t) TI24 TI3 h248 h249 ht1 ⟨rfl, Only.refl No _⟩)) ?_
              rintro e w hR ⟨h257, h256, h255, h254, h253, h252, h251, h250, h249, h248, h247, h2, h4, h5, h6, h14, -⟩
              rw [← hwd] at hR
              obtain ⟨q, h256v, hq0, hq1⟩ := h256
              replace hx := hx.tr hR
              replace hL := own_ext hL hR
              replace hE := own_ext hE hR
              replace hC2 := hR.blk hC2 (fun h => h)
              replace hC4 := hR.blk hC4 (fun h => h)
              replace hC5 := hR.blk hC5 (fun h => h)
              refine WL.u (o_stR1 TI3 h257 (show 0 + t * 1 = t by omega) h256v rfl hE rfl ht1 ?_)
              intro w257 hr257 ho257 hs257
              replace hL := own_only hL ho257 (fun q hq hF => own_row_off hE hL (by decide) q hq hF)
              replace hC2 := ho257.blk hC2 (own_off hE hC2 (by decide))
              replace hC4 := ho257.blk hC4 (own_off hE hC4 (by decide))
              replace hC5 := ho257.blk hC5 (own_off hE hC5 (by decide))
              replace hx := hx.trans' ho257 (fun _ h => h) (fun q hq hF => by have := (hE.lt q hF).1; omega)
              rw [zs, ← List.map_set, ← zs] at hr257
              clear hE
              have hE := hr257
              clear hr257
              refine WL.nil ?_
              first | exact ⟨E.set t q, by rw [List.length_set]; exact hEl, fun e he => by rcases List.mem_or_eq_of_mem_set he with h | h; exact hEb e h; subst h; exact ⟨hq0, hq1⟩, h2, h4, h5, h6, h14, hL, hE, hC2, hC4, hC5, hx⟩ | exact ⟨E, hEl, hEb, h2, h4, h5, h6, h14, hL, hE, hC2, hC4, hC5, hx⟩
            · try simp only [decide_eq_true_eq, decide_eq_false_iff_not, Bool.not_eq_true', Bool.not_eq_false', Bool.and_eq_true, Bool.or_eq_true, Bool.and_eq_false_iff, Bool.or_eq_false_iff] at c246
              refine W.skip ?_
              first | exact ⟨E.set t q, by rw [List.length_set]; exact hEl, fun e he => by rcases List.mem_or_eq_of_mem_set he with h | h; exact hEb e h; subst h; exact ⟨hq0, hq1⟩, h2, h4, h5, h6, h14, hL, hE, hC2, hC4, hC5, hx⟩ | exact ⟨E, hEl, hEb, h2, h4, h5, h6, h14, hL, hE, hC2, hC4, hC5, hx⟩
          rintro e w ⟨E2, hEl2, hEb2, h2, h4, h5, h6, h14, hL, hE, hC2, hC4, hC5, hx⟩
          refine W.region ?_
          refine WL.c rfl (o_mvh h14 ?_)
          refine WL.c rfl (o_addi rfl rfl (by omega) ?_)
          refine WL.c rfl (o_ash (show _ = Value.int _ _ from rfl) ?_)
          refine WL.nil ?_
          refine ⟨⟨t + 1, E2, by omega, hEl2, hEb2, h2, h4, h5, h6, rfl, hL, hE, hC2, hC4, hC5, hx⟩, ?_⟩
          show m - ((t : Int) + 1).toNat < _
          rw [hm14]; simp [intOf]; omega
        · try simp only [decide_eq_true_eq, decide_eq_false_iff_not, Bool.not_eq_true', Bool.not_eq_false', Bool.and_eq_true, Bool.or_eq_true, Bool.and_eq_false_iff, Bool.or_eq_false_iff] at c239
          obtain rfl : m = t := by omega
          refine W.exit ?_
          refine W.seq ?_
          refine W.region ?_
          refine WL.c rfl (o_ldA TI26 rfl h5 (show Cells _ b5 0 (pgV ⟨p.enc, L, E⟩ (Value.slice (some ⟨gc, 0, none⟩) (n + 1) (n + 1)) (Value.slice (some ⟨ge, 0, none⟩) m m)) from Cells.of hC5 0 _ (by simp [pgV])) rfl ?_)
          refine WL.u (o_stA TI26 h4 rfl rfl (by first | rfl | (simp [pgV, own_one hr45, own_one hr51]; rfl)) hC4 rfl ?_)
          intro w4s hB4 ho4 hs4s
          replace hx := hx.trans' ho4 (fun _ h => h) (fun q hq he => by omega)
          refine WL.nil ?_
          refine W.ret ?_
          refine retC rfl TI26 rfl h4 (cells_all (by assumption)) rfl ?_
          have hok : OkP ⟨p.enc, L, E⟩ := ⟨by show ¬ (1048576 < L.length ∨ 1048576 < E.length); omega, fun j hj => by
            replace hj : j < L.length := hj
            by_cases hjn : j = n
            · subst hjn; exact ret_ok hLn
            · exact (hO j (by omega)).ent (by rw [List.length_replicate]; exact hEl.symm), fun j hj => by
            replace hj : j < E.length := hj
            have e0 : E.getD j 0 = E[j] := by rw [List.getD_eq_getElem?_getD, List.getElem?_eq_getElem hj]; rfl
            have := hEb E[j] (List.getElem_mem _)
            show 0 ≤ E.getD j 0 ∧ E.getD j 0 ≤ (L.length : Int) - 1
            rw [e0]; omega⟩
          exact ⟨⟨p.enc, L, E⟩, Value.slice (some ⟨gc, 0, none⟩) (n + 1) (n + 1), Value.slice (some ⟨ge, 0, none⟩) m m, rfl, hok, by show 0 < L.length; omega, by show L.length ≤ most + 1; omega, by show 0 < E.length; omega, by show World.ownsRow _ _ _ _ _ L.length _; rw [hLl]; exact own_mono (own_only hL ho4 (fun q hq he => by subst he; exact own_off hL hC4 (by decide) hq)) (by omega), by show World.ownsRow _ _ _ _ _ E.length _; rw [hEl]; exact own_mono (own_only hE ho4 (fun q hq he => by subst he; exact own_off hE hC4 (by decide) hq)) (by omega), hx⟩
end Go.Proofs.YthlbhnefldaoiaaDoor

set_option linter.unusedSimpArgs false
set_option linter.unusedVariables false
set_option maxRecDepth 100000
namespace Go.Proofs.YthlbhnefldaoiaaDoor
open Go Go.Vc Go.RowKit Go.Proofs
def ByR (w : World) (g : Nat) (xs : List UInt8) : Prop := ∃ (pad : List Value) (fr : Nat × Nat), w.heap[g]? = some (.cells (xs.map bv ++ pad).toArray 5 fr) ∧ xs.length ≤ fr.1
theorem ByR.only {w w' : World} {F : Nat → Prop} {g : Nat} {xs : List UInt8} (h : ByR w g xs) (ho : Only F w w') (hF : ¬ F g) : ByR w' g xs := by
  obtain ⟨pad, fr, h1, h2⟩ := h
  exact ⟨pad, fr, ho.blk h1 hF, h2⟩
theorem ByR.ext {w w' : World} {g : Nat} {xs : List UInt8} (h : ByR w g xs) (ho : Ext w w') : ByR w' g xs := h.only ho (fun h => h)
theorem ByR.front {w : World} {g cap : Nat} {xs : List UInt8} (h : ByR w g xs) (hc : xs.length ≤ cap) {k : Nat} (hk : k ≤ xs.length) : Sl w 1 (.slice (some ⟨g, 0, none⟩) k cap) k ((xs.take k).map bv) := by
  obtain ⟨pad, fr, h1, h2⟩ := h
  refine ⟨by rw [List.length_map, List.length_take]; omega, .inr ⟨g, 0, cap, rfl, by omega, Cells.of h1 0 _ (fun i v hi => ?_)⟩⟩
  have hi2 := (List.getElem?_eq_some_iff.1 hi).1
  rw [List.length_map, List.length_take] at hi2
  rw [List.getElem?_map, List.getElem?_take_of_lt (by omega)] at hi
  rw [Nat.zero_add, List.getElem?_toArray, List.getElem?_append_left (by rw [List.length_map]; omega), List.getElem?_map]
  exact hi
theorem ByR.sl {w : World} {g cap : Nat} {xs : List UInt8} (h : ByR w g xs) (hc : xs.length ≤ cap) : Sl w 1 (.slice (some ⟨g, 0, none⟩) xs.length cap) xs.length (xs.map bv) := by
  have := h.front hc (Nat.le_refl _)
  rwa [List.take_length] at this
theorem o_cvSB {P : Program} {e : Env} {w : World} {K : Value → World → Prop} {ty : TypeId} {x : Operand} {t el u : TypeId} {s bs s' bs' s2 bs2 : Nat} {z z' z2 : Value} {xs : List UInt8} (ht : Ty P t .string s bs z) (hu : Ty P u (.slice el) s2 bs2 z2) (hel : Ty P el (.int .u8) s' bs' z') (hx : ev e x = st xs)
    (k : ∀ w' cap, (∃ (pad : List Value) (fr : Nat × Nat), w'.heap[w.heap.size]? = some (.cells (xs.map bv ++ pad).toArray el fr) ∧ xs.length ≤ fr.1) → Ext w w' → xs.length ≤ cap → K (.slice (some ⟨w.heap.size, 0, none⟩) xs.length cap) w') : OP P e (.convert t u x) ty w K := by
  have h := Lib.run_convert_string_bytes (P := P) w t u el ⟨xs.toArray⟩ ht.und hu.und hel.und
  have hsz : (⟨xs.toArray⟩ : ByteArray).size = xs.length := by simp [ByteArray.size]
  have h' : (convert t u (st xs)).run P w = .ok (.slice (some ⟨w.heap.size, 0, none⟩) xs.length (grownCap w xs.length 0 el)) (Lib.bytesWorld w el ⟨xs.toArray⟩) := by
    rw [hsz] at h
    exact h
  refine OP.of (v := .slice (some ⟨w.heap.size, 0, none⟩) xs.length (grownCap w xs.length 0 el)) (w' := Lib.bytesWorld w el ⟨xs.toArray⟩) (by simp [execOp, hx, h']) (k _ _ ⟨List.replicate (grownCap w xs.length 0 el - xs.length) (.int .u8 0), ((Lib.bytesCells w el ⟨xs.toArray⟩).size, (Lib.bytesCells w el ⟨xs.toArray⟩).size + 1), ?_, ?_⟩ ?_ (grownCap_ge w xs.length 0 el))
  · rw [Lib.bytesWorld_at_new]
    congr 2
    simp only [Lib.bytesCells, hsz]
    apply Array.ext'
    simp
    intro a _
    rfl
  · show xs.length ≤ (Lib.bytesCells w el ⟨xs.toArray⟩).size
    simp [Lib.bytesCells]
  · refine ⟨?_, ?_, ?_, by rw [Lib.bytesWorld_size]; exact Nat.le_succ _, fun k hk _ => Lib.bytesWorld_at_old w el _ k hk⟩
    all_goals (unfold Lib.bytesWorld World.freeze; split <;> rfl)
theorem o_negI {P : Program} {e : Env} {w : World} {K : Value → World → Prop} {ty : TypeId} {x : Operand} {t : TypeId} {k : IntKind} {a : Int} (hx : ev e x = .int k a) (kk : K (.int k (k.wrap (-a))) w) : OP P e (.unOp .neg t x) ty w K :=
  OP.of (by simp [execOp, Op.unary, Op.intArith, hx]) kk

def mixF {α : Type} (f : Nat → α) (i : Nat) (L : List α) : List α := (List.range i).map f ++ L.drop i
theorem mixF_zero {α : Type} (f : Nat → α) (L : List α) : mixF f 0 L = L := by simp [mixF]
theorem mixF_all {α : Type} (f : Nat → α) (L : List α) : mixF f L.length L = (List.range L.length).map f := by simp [mixF]
theorem mixF_len {α : Type} (f : Nat → α) {i : Nat} {L : List α} (h : i ≤ L.length) : (mixF f i L).length = L.length := by simp [mixF]; omega
theorem mixF_set {α : Type} (f : Nat → α) {i : Nat} {L : List α} (h : i < L.length) : (mixF f i L).set i (f i) = mixF f (i + 1) L := by
  unfold mixF
  rw [List.set_append_right _ _ (by simp), List.length_map, List.length_range, Nat.sub_self, List.range_succ, List.map_append, List.append_assoc]
  congr 1
  rw [List.drop_eq_getElem_cons h, List.set_cons_zero]
  rfl
/-- the rows of a family while they are written over: those below k are, of that at k the first i -/
def stF {α : Type} (f : Nat → Nat → α) (L : List α) (k i j : Nat) : List α := if j < k then (List.range L.length).map (f j) else if j = k then mixF (f k) i L else L
theorem stF_zero {α : Type} (f : Nat → Nat → α) (L : List α) : stF f L 0 0 = fun _ => L := by
  funext j
  unfold stF
  rw [if_neg (by omega)]
  split
  · rename_i h; rw [mixF_zero]
  · rfl
theorem stF_len {α : Type} (f : Nat → Nat → α) {L : List α} {k i : Nat} (h : i ≤ L.length) (j : Nat) : (stF f L k i j).length = L.length := by
  unfold stF
  split
  · simp
  · split
    · exact mixF_len _ h
    · rfl
theorem stF_k {α : Type} (f : Nat → Nat → α) (L : List α) (k i : Nat) : stF f L k i k = mixF (f k) i L := by unfold stF; rw [if_neg (by omega), if_pos rfl]
theorem stF_next {α : Type} (f : Nat → Nat → α) (L : List α) (k : Nat) : stF f L k L.length = stF f L (k + 1) 0 := by
  funext j
  unfold stF
  by_cases h1 : j < k
  · rw [if_pos h1, if_pos (by omega)]
  · rw [if_neg h1]
    by_cases h2 : j = k
    · subst h2; rw [if_pos rfl, if_pos (by omega), mixF_all]
    · rw [if_neg h2, if_neg (by omega)]
      split
      · rename_i h; rw [mixF_zero]
      · rfl
theorem stF_step {α : Type} (f : Nat → Nat → α) {L : List α} {k i : Nat} (h : i < L.length) (j : Nat) : stF f L k (i + 1) j = if j = k then (stF f L k i k).set i (f k i) else stF f L k i j := by
  by_cases h1 : j = k
  · subst h1; rw [if_pos rfl, stF_k, stF_k, mixF_set _ h]
  · rw [if_neg h1]; unfold stF; rw [if_neg h1, if_neg h1]
theorem stF_full {α : Type} (f : Nat → Nat → α) (L : List α) {k j : Nat} (h : j < k) : stF f L k 0 j = (List.range L.length).map (f j) := by unfold stF; rw [if_pos h]
def fB (k _ : Nat) : UInt8 := UInt8.ofNat (k + 1)
def fC (k i : Nat) : Ins := ⟨-(k : Int) - 1, (i : Int), 0, 0⟩
def fE (k _ : Nat) : Int := -(k : Int) - 1
theorem rng_snoc {α : Type} (f : Nat → α) (n : Nat) : (List.range (n + 1)).map f = (List.range n).map f ++ [f n] := by rw [List.range_succ, List.map_append]; rfl
theorem rng_get {α : Type} (f : Nat → α) {n i : Nat} (h : i < n) : ((List.range n).map f)[i]? = some (f i) := by simp [h]
theorem rng_if {α : Type} (V : Nat → α) (v : α) (k : Nat) : (List.range (k + 1)).map (fun j => if j = k then v else V j) = (List.range k).map V ++ [v] := by
  rw [rng_snoc]
  simp only [if_true]
  congr 1
  refine List.map_congr_left (fun j hj => ?_)
  rw [if_neg (by have := List.mem_range.1 hj; omega)]
def pgs (b : Bool) (VC VE : Nat → Value) (n : Nat) : List Value := (List.range n).flatMap fun j => [.bool b, VC j, VE j]
theorem pgs_len (b : Bool) (VC VE : Nat → Value) : ∀ n, (pgs b VC VE n).length = n * 3
  | 0 => rfl
  | n + 1 => by
    have := pgs_len b VC VE n
    unfold pgs at this ⊢
    rw [List.range_succ, List.flatMap_append, List.length_append, this]
    simp; omega
theorem pgs_if (b : Bool) (VC VE : Nat → Value) (c e : Value) (k : Nat) : pgs b (fun j => if j = k then c else VC j) (fun j => if j = k then e else VE j) (k + 1) = pgs b VC VE k ++ [.bool b, c, e] := by
  unfold pgs
  rw [List.range_succ, List.flatMap_append]
  congr 1
  · rw [List.flatMap_def, List.flatMap_def]
    congr 1
    refine List.map_congr_left (fun j hj => ?_)
    have hjk : j ≠ k := by have := List.mem_range.1 hj; omega
    simp [hjk]
  · simp
theorem pgs_at (b : Bool) (VC VE : Nat → Value) : ∀ n r, r < n → ((pgs b VC VE n).drop (r * 3)).take 3 = [.bool b, VC r, VE r]
  | 0, r, h => by omega
  | n + 1, r, h => by
    have e1 : pgs b VC VE (n + 1) = pgs b VC VE n ++ [.bool b, VC n, VE n] := by unfold pgs; rw [List.range_succ, List.flatMap_append]; simp
    rw [e1]
    by_cases e : r < n
    · rw [List.drop_append_of_le_length (by rw [pgs_len]; omega), List.take_append_of_le_length (by rw [List.length_drop, pgs_len]; omega), pgs_at b VC VE n r e]
    · have e2 : r = n := by omega
      subst e2
      rw [← pgs_len b VC VE r, List.drop_left]; rfl
structure Apt (w : World) (H n : Nat) (b : Bool) (VB VC VE : Nat → Value) (vb vp : Value) (B : Nat → List UInt8) (C : Nat → List Ins) (E : Nat → List Int) : Prop where
  mb : Many w H 5 1 n VB (fun j => (B j).length) (fun j => (B j).map bv)
  mc : Many w H 28 4 n VC (fun j => (C j).length) (fun j => inss (C j))
  me : Many w H 3 1 n VE (fun j => (E j).length) (fun j => zs (E j))
  ob : w.ownsRow H 34 1 vb n ((List.range n).map VB)
  op : w.ownsRow H 26 3 vp n (pgs b VC VE n)
section
variable {w w' : World} {H n : Nat} {b : Bool} {VB VC VE : Nat → Value} {vb vp : Value} {B : Nat → List UInt8} {C : Nat → List Ins} {E : Nat → List Int}
theorem Apt.ext (h : Apt w H n b VB VC VE vb vp B C E) (ho : Ext w w') : Apt w' H n b VB VC VE vb vp B C E := ⟨h.mb.ext ho, h.mc.ext ho, h.me.ext ho, own_ext h.ob ho, own_ext h.op ho⟩
theorem Apt.zero (w : World) (H : Nat) (b : Bool) : Apt w H 0 b VB VC VE (.slice none 0 0) (.slice none 0 0) B C E := ⟨Many.zero, Many.zero, Many.zero, World.ownsRow_nil _ _ _ _, World.ownsRow_nil _ _ _ _⟩
theorem Apt.rB (h : Apt w H n b VB VC VE vb vp B C E) {k : Nat} (hk : k < n) : w.ownsRow H 5 1 (VB k) (B k).length ((B k).map bv) := h.mb.row k hk
theorem Apt.rC (h : Apt w H n b VB VC VE vb vp B C E) {k : Nat} (hk : k < n) : w.ownsRow H 28 4 (VC k) (C k).length (inss (C k)) := h.mc.row k hk
theorem Apt.rE (h : Apt w H n b VB VC VE vb vp B C E) {k : Nat} (hk : k < n) : w.ownsRow H 3 1 (VE k) (E k).length (zs (E k)) := h.me.row k hk
/-- a row of bytes is written over -/
theorem Apt.setB (h : Apt w H n b VB VC VE vb vp B C E) {k : Nat} (hk : k < n) {bs : List UInt8} {B' : Nat → List UInt8} (ho : Only (fun g => (VB k).ownBlock = some g) w w') (hr : w'.ownsRow H 5 1 (VB k) bs.length (bs.map bv)) (hB : ∀ j, B' j = if j = k then bs else B j) : Apt w' H n b VB VC VE vb vp B' C E := by
  have hR := h.rB hk
  refine ⟨(h.mb.set hk ho hr).congr (fun _ _ => rfl) (fun j _ => ?_) (fun j _ => ?_), h.mc.other hR (by decide) ho, h.me.other hR (by decide) ho, own_only h.ob ho (own_row_off hR h.ob (by decide)), own_only h.op ho (own_row_off hR h.op (by decide))⟩
  · rw [hB]; split <;> rfl
  · rw [hB]; split <;> rfl
theorem Apt.setC (h : Apt w H n b VB VC VE vb vp B C E) {k : Nat} (hk : k < n) {cs : List Ins} {C' : Nat → List Ins} (ho : Only (fun g => (VC k).ownBlock = some g) w w') (hr : w'.ownsRow H 28 4 (VC k) cs.length (inss cs)) (hC : ∀ j, C' j = if j = k then cs else C j) : Apt w' H n b VB VC VE vb vp B C' E := by
  have hR := h.rC hk
  refine ⟨h.mb.other hR (by decide) ho, (h.mc.set hk ho hr).congr (fun _ _ => rfl) (fun j _ => ?_) (fun j _ => ?_), h.me.other hR (by decide) ho, own_only h.ob ho (own_row_off hR h.ob (by decide)), own_only h.op ho (own_row_off hR h.op (by decide))⟩
  · rw [hC]; split <;> rfl
  · rw [hC]; split <;> rfl
theorem Apt.setE (h : Apt w H n b VB VC VE vb vp B C E) {k : Nat} (hk : k < n) {es : List Int} {E' : Nat → List Int} (ho : Only (fun g => (VE k).ownBlock = some g) w w') (hr : w'.ownsRow H 3 1 (VE k) es.length (zs es)) (hE : ∀ j, E' j = if j = k then es else E j) : Apt w' H n b VB VC VE vb vp B C E' := by
  have hR := h.rE hk
  refine ⟨h.mb.other hR (by decide) ho, h.mc.other hR (by decide) ho, (h.me.set hk ho hr).congr (fun _ _ => rfl) (fun j _ => ?_) (fun j _ => ?_), own_only h.ob ho (own_row_off hR h.ob (by decide)), own_only h.op ho (own_row_off hR h.op (by decide))⟩
  · rw [hE]; split <;> rfl
  · rw [hE]; split <;> rfl
end
structure Grw (w : World) (H : Nat) (el : TypeId) (s N n : Nat) (V : Nat → Value) (X : Nat → Nat → List Value) (k : Nat) (V1 : Nat → Value) : Prop where
  m : Many w H el s N V1 (fun j => if j < k then n + 1 else n) (fun j => X j (if j < k then n + 1 else n))
  eq : ∀ j, j < N → k ≤ j → V1 j = V j
  old : ∀ j, j < k → w.ownsRow H el s (V j) n (X j n)
  dj : ∀ i j, i < N → j < N → i ≠ j → Dj (V i) (V j)
section
variable {w w' : World} {H : Nat} {el : TypeId} {s N n : Nat} {V : Nat → Value} {X : Nat → Nat → List Value} {k : Nat} {V1 : Nat → Value}
theorem Grw.ext (h : Grw w H el s N n V X k V1) (ho : Ext w w') : Grw w' H el s N n V X k V1 := ⟨h.m.ext ho, h.eq, fun j hj => own_ext (h.old j hj) ho, h.dj⟩
theorem Grw.other (h : Grw w H el s N n V X k V1) {base : Nat} {T : TypeId} {sz m : Nat} {v : Value} {xs : List Value} (hr : w.ownsRow base T sz v m xs) (hne : T ≠ el) (ho : Only (fun k => v.ownBlock = some k) w w') : Grw w' H el s N n V X k V1 :=
  ⟨h.m.other hr hne ho, h.eq, fun j hj => own_only (h.old j hj) ho (own_row_off hr (h.old j hj) hne), h.dj⟩
theorem Grw.of (h : Many w H el s N V (fun _ => n) (fun j => X j n)) : Grw w H el s N n V X 0 V :=
  ⟨h.congr (fun _ _ => rfl) (fun _ _ => by simp) (fun _ _ => by simp), fun _ _ _ => rfl, fun j hj => absurd hj (Nat.not_lt_zero j), fun i j hi hj hij k hk => h.off i j hi hj hij k hk⟩
theorem Grw.cur (h : Grw w H el s N n V X k V1) (hk : k < N) : w.ownsRow H el s (V k) n (X k n) := by
  have := h.m.row k hk
  rw [h.eq k hk (Nat.le_refl _)] at this
  simpa using this
theorem Grw.step (h : Grw w H el s N n V X k V1) (hk : k < N) {v' : Value} {g : Nat} (hr : w'.ownsRow H el s v' (n + 1) (X k (n + 1))) (ho : Only (fun b => (V k).ownBlock = some b) w w') (hb : v'.ownBlock = (V k).ownBlock ∨ v'.ownBlock = some g) (hg : w.heap.size ≤ g) (hold : w'.ownsRow H el s (V k) n (X k n)) :
    Grw w' H el s N n V X (k + 1) (fun j => if j = k then v' else V1 j) := by
  have e0 := h.eq k hk (Nat.le_refl _)
  refine ⟨(h.m.grow hk (by rw [e0]; exact ho) (by rw [e0]; exact hb) hg hr).congr (fun _ _ => rfl) (fun j hj => ?_) (fun j hj => ?_), fun j hj hkj => ?_, fun j hj => ?_, h.dj⟩
  · by_cases e : j = k
    · subst e; simp
    · rw [if_neg e]
      by_cases e2 : j < k
      · rw [if_pos e2, if_pos (by omega)]
      · rw [if_neg e2, if_neg (by omega)]
  · by_cases e : j = k
    · subst e; simp
    · rw [if_neg e]
      by_cases e2 : j < k
      · rw [if_pos e2, if_pos (by omega)]
      · rw [if_neg e2, if_neg (by omega)]
  · show (if j = k then v' else V1 j) = V j
    rw [if_neg (by omega)]; exact h.eq j hj (by omega)
  · by_cases e : j = k
    · subst e; exact hold
    · exact own_only (h.old j (by omega)) ho (fun b hb hb2 => h.dj j k (by omega) hk e b hb hb2)
theorem Grw.new (h : Grw w H el s N n V X N V1) {j : Nat} (hj : j < N) : w.ownsRow H el s (V1 j) (n + 1) (X j (n + 1)) := by
  have := h.m.row j hj
  simpa [hj] using this
end
def XB (j m : Nat) : List Value := ((List.range m).map (fB j)).map bv
def XC (j m : Nat) : List Value := inss ((List.range m).map (fC j))
def XE (j m : Nat) : List Value := zs ((List.range m).map (fE j))
theorem XB_succ (j m : Nat) : XB j (m + 1) = XB j m ++ [bv (fB j m)] := by unfold XB; rw [rng_snoc, List.map_append]; rfl
theorem XC_succ (j m : Nat) : XC j (m + 1) = XC j m ++ insV (fC j m) := by unfold XC; rw [rng_snoc, inss_snoc]
theorem XE_succ (j m : Nat) : XE j (m + 1) = XE j m ++ [.int .i64 (fE j m)] := by unfold XE; rw [rng_snoc, zs_snoc]
theorem XB_at {j m i : Nat} (h : i < m) : (XB j m)[i]? = some (bv (fB j i)) := by unfold XB; rw [List.getElem?_map, rng_get _ h]; rfl
theorem XE_at {j m i : Nat} (h : i < m) : (XE j m)[i]? = some (.int .i64 (fE j i)) := by unfold XE zs; rw [List.getElem?_map, rng_get _ h]; rfl
theorem XC_at {j m i : Nat} (h : i < m) : ((XC j m).drop (i * 4)).take 4 = insV (fC j i) := by
  unfold XC
  have h1 := inss_sub ((List.range m).map (fC j)) i 1
  rw [show 1 * 4 = 4 from rfl] at h1
  rw [h1, List.drop_eq_getElem_cons (by simpa using h), List.take_succ_cons, List.take_zero]
  simp [inss]
theorem o_negK {P : Program} {e : Env} {w : World} {K : Value → World → Prop} {ty : TypeId} {x : Operand} {t : TypeId} {a : Int} (hx : ev e x = .int .i64 a) (h : -9223372036854775807 ≤ a ∧ a ≤ 9223372036854775807) (kk : K (.int .i64 (-a)) w) : OP P e (.unOp .neg t x) ty w K :=
  o_negI hx (by rw [wrap64' _ (by omega)]; exact kk)
theorem Apt.pc {w : World} {H n g c : Nat} {b : Bool} {VB VC VE : Nat → Value} {vb : Value} {B : Nat → List UInt8} {C : Nat → List Ins} {E : Nat → List Int} (h : Apt w H n b VB VC VE vb (.slice (some ⟨g, 0, none⟩) n c) B C E) {k : Nat} (hk : k < n) : Cells w g (0 + k * 3) [.bool b, VC k, VE k] := by
  have h9 := own_cellsAt h.op k
  rwa [pgs_at b VC VE n k hk] at h9
/-- what is older than the rows -/
structure Old (w0 w : World) (H : Nat) (q : Pg) (b1 : Nat) (cu eu : Value) : Prop where
  c : w.ownsRow 0 28 4 cu q.code.length (inss q.code)
  e : w.ownsRow 0 3 1 eu q.ent.length (zs q.ent)
  p : w.heap[b1]? = some (.cells (pgV q cu eu).toArray 26 (0, 0))
  x : Ext w0 w
  hs : H ≤ w.heap.size
  b : b1 < H
  cl : ∀ k, cu.ownBlock = some k → k < H
  el : ∀ k, eu.ownBlock = some k → k < H
  h0 : w0.heap.size ≤ H
theorem Old.only {w0 w w' : World} {H : Nat} {q : Pg} {b1 : Nat} {cu eu : Value} (h : Old w0 w H q b1 cu eu) {F : Nat → Prop} (ho : Only F w w') (hF : ∀ g, F g → H ≤ g) : Old w0 w' H q b1 cu eu := by
  have hs := ho.size
  refine ⟨own_only h.c ho (fun k hk hf => ?_), own_only h.e ho (fun k hk hf => ?_), ho.blk h.p (fun hf => ?_), h.x.trans' ho (fun _ h => h) (fun k hk hf => ?_), Nat.le_trans h.hs hs, h.b, h.cl, h.el, h.h0⟩
  · have := hF k hf; have := h.cl k hk; omega
  · have := hF k hf; have := h.el k hk; omega
  · have := hF b1 hf; have := h.b; omega
  · have := hF k hf; have := h.h0; omega
theorem Old.ext {w0 w w' : World} {H : Nat} {q : Pg} {b1 : Nat} {cu eu : Value} (h : Old w0 w H q b1 cu eu) (ho : Ext w w') : Old w0 w' H q b1 cu eu := h.only ho (fun _ hf => hf.elim)
theorem Old.pg {w0 w : World} {H : Nat} {q : Pg} {b1 : Nat} {cu eu : Value} (h : Old w0 w H q b1 cu eu) : PgR w q cu eu := ⟨Sl.own h.c, Sl.own h.e⟩
structure Lng (w : World) (H Hm kB kC kE kl ki kn n1 n2 n3 : Nat) (b : Bool) (VB VC VE : Nat → Value) (vb vp : Value) (VB1 VC1 VE1 : Nat → Value) (vl vi vn : Value) : Prop where
  gB : Grw w H 5 1 3 n1 VB XB kB VB1
  gC : Grw w H 28 4 3 n2 VC XC kC VC1
  gE : Grw w H 3 1 3 n3 VE XE kE VE1
  ob : w.ownsRow H 34 1 vb 3 ((List.range 3).map VB)
  op : w.ownsRow H 26 3 vp 3 (pgs b VC VE 3)
  ol : w.ownsRow Hm 34 1 vl kl ((List.range kl).map VB1)
  oi : w.ownsRow Hm 23 1 vi ki ((List.range ki).map VC1)
  on : w.ownsRow Hm 24 1 vn kn ((List.range kn).map VE1)
  bm : ∀ k, vb.ownBlock = some k → k < Hm
section
variable {w w' : World} {H Hm kB kC kE kl ki kn n1 n2 n3 k : Nat} {b : Bool} {VB VC VE : Nat → Value} {vb vp : Value} {VB1 VC1 VE1 : Nat → Value} {vl vi vn : Value}
theorem Lng.ext (h : Lng w H Hm kB kC kE kl ki kn n1 n2 n3 b VB VC VE vb vp VB1 VC1 VE1 vl vi vn) (ho : Ext w w') : Lng w' H Hm kB kC kE kl ki kn n1 n2 n3 b VB VC VE vb vp VB1 VC1 VE1 vl vi vn :=
  ⟨h.gB.ext ho, h.gC.ext ho, h.gE.ext ho, own_ext h.ob ho, own_ext h.op ho, own_ext h.ol ho, own_ext h.oi ho, own_ext h.on ho, h.bm⟩
theorem rng_old {V : Nat → Value} {v : Value} (k : Nat) : (List.range k).map (fun j => if j = k then v else V j) = (List.range k).map V := List.map_congr_left (fun j hj => by rw [if_neg (by have := List.mem_range.1 hj; omega)])
theorem Lng.of {B : Nat → List UInt8} {C : Nat → List Ins} {E : Nat → List Int} (h : Apt w H 3 b VB VC VE vb vp B C E) (hb : ∀ j, j < 3 → B j = (List.range n1).map (fB j)) (hc : ∀ j, j < 3 → C j = (List.range n2).map (fC j)) (he : ∀ j, j < 3 → E j = (List.range n3).map (fE j)) (hm : w.heap.size = Hm) : Lng w H Hm 0 0 0 0 0 0 n1 n2 n3 b VB VC VE vb vp VB VC VE (.slice none 0 0) (.slice none 0 0) (.slice none 0 0) :=
  ⟨Grw.of (h.mb.congr (fun _ _ => rfl) (fun j hj => by rw [hb j hj]; simp) (fun j hj => by rw [hb j hj]; rfl)), Grw.of (h.mc.congr (fun _ _ => rfl) (fun j hj => by rw [hc j hj]; simp) (fun j hj => by rw [hc j hj]; rfl)), Grw.of (h.me.congr (fun _ _ => rfl) (fun j hj => by rw [he j hj]; simp) (fun j hj => by rw [he j hj]; rfl)), h.ob, h.op, World.ownsRow_nil _ _ _ _, World.ownsRow_nil _ _ _ _, World.ownsRow_nil _ _ _ _, fun k hk => by rw [← hm]; exact (h.ob.lt k hk).2⟩
theorem Lng.growB (h : Lng w H Hm k kC kE k ki kn n1 n2 n3 b VB VC VE vb vp VB1 VC1 VE1 vl vi vn) (hk : k < 3) {v' : Value} {g : Nat} (hr : w'.ownsRow H 5 1 v' (n1 + 1) (XB k (n1 + 1))) (ho : Only (fun b => (VB k).ownBlock = some b) w w') (hb : v'.ownBlock = (VB k).ownBlock ∨ v'.ownBlock = some g) (hg : w.heap.size ≤ g) (hold : w'.ownsRow H 5 1 (VB k) n1 (XB k n1)) :
    Lng w' H Hm (k + 1) kC kE k ki kn n1 n2 n3 b VB VC VE vb vp (fun j => if j = k then v' else VB1 j) VC1 VE1 vl vi vn := by
  have hR := h.gB.cur hk
  exact ⟨h.gB.step hk hr ho hb hg hold, h.gC.other hR (by decide) ho, h.gE.other hR (by decide) ho, own_only h.ob ho (own_row_off hR h.ob (by decide)), own_only h.op ho (own_row_off hR h.op (by decide)), by rw [rng_old]; exact own_only h.ol ho (own_row_off hR h.ol (by decide)), own_only h.oi ho (own_row_off hR h.oi (by decide)), own_only h.on ho (own_row_off hR h.on (by decide)), h.bm⟩
theorem Lng.putB (h : Lng w H Hm (k + 1) kC kE k ki kn n1 n2 n3 b VB VC VE vb vp VB1 VC1 VE1 vl vi vn) {v' : Value} (ho : Only (fun b => vl.ownBlock = some b) w w') (hr : w'.ownsRow Hm 34 1 v' (k + 1) ((List.range k).map VB1 ++ [VB1 k])) :
    Lng w' H Hm (k + 1) kC kE (k + 1) ki kn n1 n2 n3 b VB VC VE vb vp VB1 VC1 VE1 v' vi vn := by
  have hR := h.ol
  exact ⟨h.gB.other hR (by decide) ho, h.gC.other hR (by decide) ho, h.gE.other hR (by decide) ho, own_only h.ob ho (fun j hj hF => by have := h.bm j hj; have := (hR.lt j hF).1; omega), own_only h.op ho (own_row_off hR h.op (by decide)), by rw [rng_snoc]; exact hr, own_only h.oi ho (own_row_off hR h.oi (by decide)), own_only h.on ho (own_row_off hR h.on (by decide)), h.bm⟩
theorem Lng.growC (h : Lng w H Hm kB k kE kl k kn n1 n2 n3 b VB VC VE vb vp VB1 VC1 VE1 vl vi vn) (hk : k < 3) {v' : Value} {g : Nat} (hr : w'.ownsRow H 28 4 v' (n2 + 1) (XC k (n2 + 1))) (ho : Only (fun b => (VC k).ownBlock = some b) w w') (hb : v'.ownBlock = (VC k).ownBlock ∨ v'.ownBlock = some g) (hg : w.heap.size ≤ g) (hold : w'.ownsRow H 28 4 (VC k) n2 (XC k n2)) :
    Lng w' H Hm kB (k + 1) kE kl k kn n1 n2 n3 b VB VC VE vb vp VB1 (fun j => if j = k then v' else VC1 j) VE1 vl vi vn := by
  have hR := h.gC.cur hk
  exact ⟨h.gB.other hR (by decide) ho, h.gC.step hk hr ho hb hg hold, h.gE.other hR (by decide) ho, own_only h.ob ho (own_row_off hR h.ob (by decide)), own_only h.op ho (own_row_off hR h.op (by decide)), own_only h.ol ho (own_row_off hR h.ol (by decide)), by rw [rng_old]; exact own_only h.oi ho (own_row_off hR h.oi (by decide)), own_only h.on ho (own_row_off hR h.on (by decide)), h.bm⟩
theorem Lng.putC (h : Lng w H Hm kB (k + 1) kE kl k kn n1 n2 n3 b VB VC VE vb vp VB1 VC1 VE1 vl vi vn) {v' : Value} (ho : Only (fun b => vi.ownBlock = some b) w w') (hr : w'.ownsRow Hm 23 1 v' (k + 1) ((List.range k).map VC1 ++ [VC1 k])) :
    Lng w' H Hm kB (k + 1) kE kl (k + 1) kn n1 n2 n3 b VB VC VE vb vp VB1 VC1 VE1 vl v' vn := by
  have hR := h.oi
  exact ⟨h.gB.other hR (by decide) ho, h.gC.other hR (by decide) ho, h.gE.other hR (by decide) ho, own_only h.ob ho (own_row_off hR h.ob (by decide)), own_only h.op ho (own_row_off hR h.op (by decide)), own_only h.ol ho (own_row_off hR h.ol (by decide)), by rw [rng_snoc]; exact hr, own_only h.on ho (own_row_off hR h.on (by decide)), h.bm⟩
theorem Lng.growE (h : Lng w H Hm kB kC k kl ki k n1 n2 n3 b VB VC VE vb vp VB1 VC1 VE1 vl vi vn) (hk : k < 3) {v' : Value} {g : Nat} (hr : w'.ownsRow H 3 1 v' (n3 + 1) (XE k (n3 + 1))) (ho : Only (fun b => (VE k).ownBlock = some b) w w') (hb : v'.ownBlock = (VE k).ownBlock ∨ v'.ownBlock = some g) (hg : w.heap.size ≤ g) (hold : w'.ownsRow H 3 1 (VE k) n3 (XE k n3)) :
    Lng w' H Hm kB kC (k + 1) kl ki k n1 n2 n3 b VB VC VE vb vp VB1 VC1 (fun j => if j = k then v' else VE1 j) vl vi vn := by
  have hR := h.gE.cur hk
  exact ⟨h.gB.other hR (by decide) ho, h.gC.other hR (by decide) ho, h.gE.step hk hr ho hb hg hold, own_only h.ob ho (own_row_off hR h.ob (by decide)), own_only h.op ho (own_row_off hR h.op (by decide)), own_only h.ol ho (own_row_off hR h.ol (by decide)), own_only h.oi ho (own_row_off hR h.oi (by decide)), by rw [rng_old]; exact own_only h.on ho (own_row_off hR h.on (by decide)), h.bm⟩
theorem Lng.putE (h : Lng w H Hm kB kC (k + 1) kl ki k n1 n2 n3 b VB VC VE vb vp VB1 VC1 VE1 vl vi vn) {v' : Value} (ho : Only (fun b => vn.ownBlock = some b) w w') (hr : w'.ownsRow Hm 24 1 v' (k + 1) ((List.range k).map VE1 ++ [VE1 k])) :
    Lng w' H Hm kB kC (k + 1) kl ki (k + 1) n1 n2 n3 b VB VC VE vb vp VB1 VC1 VE1 vl vi v' := by
  have hR := h.on
  exact ⟨h.gB.other hR (by decide) ho, h.gC.other hR (by decide) ho, h.gE.other hR (by decide) ho, own_only h.ob ho (own_row_off hR h.ob (by decide)), own_only h.op ho (own_row_off hR h.op (by decide)), own_only h.ol ho (own_row_off hR h.ol (by decide)), own_only h.oi ho (own_row_off hR h.oi (by decide)), by rw [rng_snoc]; exact hr, h.bm⟩
end
theorem Lng.pc {w : World} {H Hm kB kC kE kl ki kn n1 n2 n3 k g c : Nat} {b : Bool} {VB VC VE : Nat → Value} {vb : Value} {VB1 VC1 VE1 : Nat → Value} {vl vi vn : Value} (h : Lng w H Hm kB kC kE kl ki kn n1 n2 n3 b VB VC VE vb (.slice (some ⟨g, 0, none⟩) 3 c) VB1 VC1 VE1 vl vi vn) (hk : k < 3) : Cells w g (0 + k * 3) [.bool b, VC k, VE k] := by
  have h9 := own_cellsAt h.op k
  rwa [pgs_at b VC VE 3 k hk] at h9

end Go.Proofs.YthlbhnefldaoiaaDoor

set_option linter.unusedSimpArgs false
set_option linter.unusedVariables false
set_option maxRecDepth 100000
namespace Go.Proofs.YthlbhnefldaoiaaDoor
open Go Go.Vc Go.RowKit Go.Proofs

theorem lay_hd (p : Pg) : ∃ r, lay p = 109 :: (if p.enc then 1 else 0) :: r := by
  unfold lay lay1 lay0 hdr
  exact ⟨_, by simp only [List.cons_append, List.nil_append, List.append_assoc]; rfl⟩
end Go.Proofs.YthlbhnefldaoiaaDoor
