/-
  Walks and lemmas. Written by program out of specs of mine.
-/
import Derived.WalkKit
import Derived.WalkSpells
import Derived.WalkLawsBesides
import Derived.Deep.Quiet
import Derived.StillTail
import Derived.StringKeys
import Derived.Laws.StructEq
import Derived.Laws.Externs
import Derived.Laws.Tables
import Derived.Scope
import Derived.Laws.AppendOwn
import Derived.Maps.AppendAt
import Derived.Recover
import Derived.Test.YthlbhnefldaoiaaDoorProg
import Derived.Shelf.Strconv.Itoa0
import Derived.Shelf.Strconv.Itoa1
import Derived.Shelf.LaysM
import Derived.Shelf.Strconv.Itoa2
import Derived.Shelf.Strconv.Itoa3
import Derived.Shelf.Strings.Builder1
import Derived.Shelf.Strings.OnBuilder
import Derived.Lib.Builder
import Derived.Lib.UnsafeStr
import Derived.Lib.ItoaLen
import Derived.SizedLaws
import Derived.ChangeArms
import Derived.ChangeSlices
import Derived.Test.YthlbhnefldaoiaaDoorRows
import Derived.ProofKit
import Derived.OpenShut
import Derived.ShutString
import Derived.ChangeOld
import Derived.Below
import Derived.JoinedCond
import Derived.SliceStrings
import Derived.Test.YthlbhnefldaoiaaDoorCards
import Derived.Test.YthlbhnefldaoiaaDoorTie
import Derived.Deep.DeepHandedRow
import Derived.Lib.LaidTab
import Derived.Test.YthlbhnefldaoiaaDoorKb5
set_option linter.unusedSimpArgs false
set_option linter.unusedVariables false
set_option maxRecDepth 100000
set_option linter.unusedSimpArgs false
set_option linter.unusedVariables false
set_option maxRecDepth 100000
namespace Go.Proofs.YthlbhnefldaoiaaDoor
open Go Go.Vc Go.RowKit Go.Proofs
theorem o_remI {P : Program} {e : Env} {w : World} {K : Value → World → Prop} {ty : TypeId} {x y : Operand} {t u : TypeId} {a b : Int} (hx : ev e x = .int .i64 a) (hy : ev e y = .int .i64 b) (hb : 0 < b) (kk : K (.int .i64 (a.tmod b)) w) : OP P e (.binOp .rem t x y u) ty w K := by
  exact o_rem hx hy (by omega) kk
theorem tmod_lim (a : Int) {b : Int} (hb : 0 < b) : -b < a.tmod b ∧ a.tmod b < b := by
  refine ⟨?_, Int.tmod_lt_of_pos a hb⟩
  by_cases h : 0 ≤ a
  · have := Int.tmod_nonneg b h
    omega
  · have h1 := Int.tmod_lt_of_pos (-a) hb
    rw [Int.neg_tmod] at h1
    omega
theorem o_maxI {P : Program} {e : Env} {w : World} {K : Value → World → Prop} {ty : TypeId} {x y : Operand} {t u : TypeId} {k : IntKind} {a b : Int} (hx : ev e x = .int k a) (hy : ev e y = .int k b) (kk : K (.int k (if a < b then b else a)) w) : OP P e (.call ⟨.builtin .max, #[x, y], #[t, u]⟩) ty w K := by
  refine OP.of ?_ kk
  simp [execOp, resolve, invoke, builtin, Builtin.max_, Builtin.max2, hx, hy]

/-- what 'made' makes, letter by letter -/
def madN (nc ne : Nat) (k : Nat) (x : Int) : Prop := if k = 107 ∨ k = 112 then -1 ≤ x ∧ x ≤ 63 else if k = 75 then 0 ≤ x ∧ x ≤ 61 else if k = 119 then x = 1 ∨ x = 2 ∨ x = 4 ∨ x = 8 else if k = 109 then x = 2 else if k = 102 then 4 ≤ x ∧ x ≤ 400 else if k = 110 then 1 ≤ x ∧ x ≤ 1048576 else if k = 115 then 1 ≤ x ∧ x ≤ 64 else if k = 103 then 0 ≤ x ∧ x ≤ 255 else if k = 108 then 0 ≤ x ∧ x ≤ 300 else if k = 76 then -1 ≤ x ∧ x ≤ 16777215 else if k = 114 then 1 ≤ x ∧ x ≤ 300 else if k = 122 then 1 ≤ x ∧ x ≤ 16777216 else if k = 116 then 0 ≤ x ∧ x ≤ (nc : Int) - 1 else if k = 121 then 0 ≤ x ∧ x ≤ (ne : Int) - 1 else x = 0

theorem brought_spec (x lo hi : Int) (w0 : World) (hx : -9223372036854775808 ≤ x ∧ x ≤ 9223372036854775807) (hlh : lo ≤ hi) (hlo_ : -1 ≤ lo) (hhi_ : hi ≤ 1000000000) : Ca Tryd.prog 39 #[.int .i64 x, .int .i64 lo, .int .i64 hi] w0 (fun v w' => (∃ q, v = .int .i64 q ∧ lo ≤ q ∧ q ≤ hi) ∧ w' = w0) := by
  refine Ca.of Tryd.func39 Tryd.ntmps39 rfl rfl ?_
  refine W.seq ?_
  refine W.region ?_
  refine WL.c rfl (o_ash (show _ = Value.int _ _ from rfl) ?_)
  refine WL.nil ?_
  refine W.seq ?_
  refine W.seq ?_
  refine W.region ?_
  refine WL.c rfl (o_mvh (show _ = Value.int _ _ from rfl) ?_)
  refine WL.c rfl (o_mvh (show _ = Value.int _ _ from rfl) ?_)
  refine WL.c rfl (o_lt rfl rfl ?_)
  refine WL.c rfl (o_mvh (show _ = Value.bool _ from rfl) ?_)
  refine WL.g rfl (by simp; omega) rfl (o_mvh (show _ = Value.int _ _ from rfl) ?_)
  refine WL.g rfl (by simp; omega) rfl (o_mvh (show _ = Value.int _ _ from rfl) ?_)
  refine WL.g rfl (by simp; omega) rfl (o_mvh (show _ = Value.int _ _ from rfl) ?_)
  refine WL.g rfl (by simp; omega) rfl (o_call Tryd.call60 (lc rfl (lc rfl (lc rfl ln))) ((rin_spec x lo hi _).mono ?_))
  rintro v15 w15 ⟨rfl, rfl⟩
  refine WL.c rfl (o_pickO rfl rfl ?_)
  refine WL.nil ?_
  refine W.cond rfl (fun c16 => ?_) (fun c16 => ?_)
  · try simp only [decide_eq_true_eq, decide_eq_false_iff_not, Bool.not_eq_true', Bool.not_eq_false', Bool.and_eq_true, Bool.or_eq_true, Bool.and_eq_false_iff, Bool.or_eq_false_iff] at c16
    refine W.seq ?_
    refine W.region ?_
    refine WL.c rfl (o_mvh (show _ = Value.int _ _ from rfl) ?_)
    refine WL.c rfl (o_mvh (show _ = Value.int _ _ from rfl) ?_)
    refine WL.c rfl (o_maxI rfl rfl ?_)
    refine WL.c rfl (o_ash (show _ = Value.int _ _ from rfl) ?_)
    refine WL.nil ?_
    refine W.ret ?_
    refine ret1v rfl (show _ = Value.int _ _ from rfl) ?_
    exact ⟨⟨_, rfl, by split <;> omega, by split <;> omega⟩, rfl⟩
  · try simp only [decide_eq_true_eq, decide_eq_false_iff_not, Bool.not_eq_true', Bool.not_eq_false', Bool.and_eq_true, Bool.or_eq_true, Bool.and_eq_false_iff, Bool.or_eq_false_iff] at c16
    refine W.skip ?_
    refine W.seq ?_
    refine W.region ?_
    refine WL.c rfl (o_mvh (show _ = Value.int _ _ from rfl) ?_)
    refine WL.c rfl (o_mvh (show _ = Value.int _ _ from rfl) ?_)
    refine WL.c rfl (o_subi rfl rfl (by omega) ?_)
    refine WL.c rfl (o_addi rfl rfl (by omega) ?_)
    refine WL.c rfl (o_ash (show _ = Value.int _ _ from rfl) ?_)
    refine WL.nil ?_
    refine W.seq ?_
    refine W.region ?_
    refine WL.c rfl (o_mvh (show _ = Value.int _ _ from rfl) ?_)
    refine WL.c rfl (o_mvh (show _ = Value.int _ _ from rfl) ?_)
    refine WL.c rfl (o_remI rfl rfl (by omega) ?_)
    refine WL.c rfl (o_ash (show _ = Value.int _ _ from rfl) ?_)
    refine WL.nil ?_
    refine W.seq ?_
    refine W.seq ?_
    refine W.region ?_
    refine WL.c rfl (o_mvh (show _ = Value.int _ _ from rfl) ?_)
    refine WL.c rfl (o_lt rfl rfl ?_)
    refine WL.nil ?_
    refine W.cut (fun e1 w1 => ∃ y, e1 0 = .int .i64 y ∧ e1 1 = .int .i64 lo ∧ 0 ≤ y ∧ y ≤ hi - lo ∧ w1 = w15) ?_ ?_
    · -- both ways
      refine W.cond rfl (fun c28 => ?_) (fun c28 => ?_)
      · try simp only [decide_eq_true_eq, decide_eq_false_iff_not, Bool.not_eq_true', Bool.not_eq_false', Bool.and_eq_true, Bool.or_eq_true, Bool.and_eq_false_iff, Bool.or_eq_false_iff] at c28
        refine W.region ?_
        refine WL.c rfl (o_mvh (show _ = Value.int _ _ from rfl) ?_)
        refine WL.c rfl (o_mvh (show _ = Value.int _ _ from rfl) ?_)
        refine WL.c rfl (o_addi rfl rfl (by have h4 := tmod_lim x (show 0 < hi - lo + 1 by omega); omega) ?_)
        refine WL.c rfl (o_ash (show _ = Value.int _ _ from rfl) ?_)
        refine WL.nil ?_
        first | exact ⟨_, rfl, rfl, by have h4 := tmod_lim x (show 0 < hi - lo + 1 by omega); omega, by have h4 := tmod_lim x (show 0 < hi - lo + 1 by omega); omega, rfl⟩
      · try simp only [decide_eq_true_eq, decide_eq_false_iff_not, Bool.not_eq_true', Bool.not_eq_false', Bool.and_eq_true, Bool.or_eq_true, Bool.and_eq_false_iff, Bool.or_eq_false_iff] at c28
        refine W.skip ?_
        first | exact ⟨_, rfl, rfl, by have h4 := tmod_lim x (show 0 < hi - lo + 1 by omega); omega, by have h4 := tmod_lim x (show 0 < hi - lo + 1 by omega); omega, rfl⟩
    rintro e w ⟨y, h0, h1, hy0, hy1, hw1⟩
    refine W.seq ?_
    subst hw1
    refine W.region ?_
    refine WL.c rfl (o_mvh h1 ?_)
    refine WL.c rfl (o_mvh h0 ?_)
    refine WL.c rfl (o_addi rfl rfl (by omega) ?_)
    refine WL.c rfl (o_ash (show _ = Value.int _ _ from rfl) ?_)
    refine WL.nil ?_
    refine W.ret ?_
    refine ret1v rfl (show _ = Value.int _ _ from rfl) ?_
    exact ⟨⟨_, rfl, by omega, by omega⟩, rfl⟩
set_option maxHeartbeats 4000000 in
theorem made1_spec (p : Pg) (cv ev_ : Value) (c : UInt8) (x : Int) (w0 : World) (hp : PgR w0 p cv ev_) (hx_ : -9223372036854775808 ≤ x ∧ x ≤ 9223372036854775807) (hnc : 1 ≤ p.code.length ∧ p.code.length ≤ 1000000) (hne : 1 ≤ p.ent.length ∧ p.ent.length ≤ 1000000) : Ca Tryd.prog 41 #[.agg (pgV p cv ev_).toArray, bv c, .int .i64 x] w0 (fun r w' => ∃ q, r = .int .i64 q ∧ madN p.code.length p.ent.length c.toNat q ∧ Ext w0 w') := by
  have h1 := hp.one.2.2.1
  have h2 := hp.one.2.2.2
  refine Ca.of Tryd.func41 Tryd.ntmps41 rfl rfl ?_
  refine W.seq ?_
  refine W.region ?_
  refine WL.c rfl (o_boxB rfl ?_)
  intro w3 hC3 hx3 hs3
  obtain ⟨b3, hb3⟩ : ∃ b, b = w0.heap.size := ⟨_, rfl⟩
  rw [← hb3] at hC3 ⊢
  replace hC3 : w3.heap[b3]? = some (.cells (pgV p cv ev_).toArray 26 (0, 0)) := hC3
  have hx : Ext w0 w3 := hx3
  refine WL.c rfl (o_ash (show _ = Value.int _ _ from rfl) ?_)
  refine WL.nil ?_
  refine W.seq ?_
  refine W.seq ?_
  refine W.region ?_
  refine WL.c rfl (o_mvh (show _ = Value.int _ _ from rfl) ?_)
  refine WL.nil ?_
  refine W.block ?_
  refine W.seq ?_
  refine W.seq ?_
  refine W.region ?_
  refine WL.c rfl (o_eq rfl rfl ?_)
  refine WL.c rfl (o_ash (show _ = Value.bool _ from rfl) ?_)
  refine WL.nil ?_
  refine W.cut (fun e1 w1 => e1 8 = .bool (decide (c.toNat = 107 ∨ c.toNat = 112)) ∧ e1 0 = .agg (pgV p cv ev_).toArray ∧ e1 2 = .int .i64 x ∧ e1 3 = .pointer (some ⟨b3, 0, none⟩) ∧ e1 7 = bv c ∧ w1 = w3) ?_ ?_
  · -- both ways
    refine W.cond rfl (fun c8 => ?_) (fun c8 => ?_)
    · try simp only [decide_eq_true_eq, decide_eq_false_iff_not, Bool.not_eq_true', Bool.not_eq_false', Bool.and_eq_true, Bool.or_eq_true, Bool.and_eq_false_iff, Bool.or_eq_false_iff] at c8
      refine W.skip ?_
      first | exact ⟨congrArg Value.bool (decide_eq_decide.2 (by omega)), rfl, rfl, rfl, rfl, rfl⟩
    · try simp only [decide_eq_true_eq, decide_eq_false_iff_not, Bool.not_eq_true', Bool.not_eq_false', Bool.and_eq_true, Bool.or_eq_true, Bool.and_eq_false_iff, Bool.or_eq_false_iff] at c8
      refine W.region ?_
      refine WL.c rfl (o_eq rfl rfl ?_)
      refine WL.c rfl (o_ash (show _ = Value.bool _ from rfl) ?_)
      refine WL.nil ?_
      first | exact ⟨congrArg Value.bool (decide_eq_decide.2 (by omega)), rfl, rfl, rfl, rfl, rfl⟩
  rintro e w ⟨h8, h0, h2, h3, h7, hw1⟩
  refine W.cond h8 (fun c8 => ?_) (fun c8 => ?_)
  · try simp only [decide_eq_true_eq, decide_eq_false_iff_not, Bool.not_eq_true', Bool.not_eq_false', Bool.and_eq_true, Bool.or_eq_true, Bool.and_eq_false_iff, Bool.or_eq_false_iff] at c8
    refine W.seq ?_
    subst hw1
    refine W.region ?_
    refine WL.c rfl (o_mvh h2 ?_)
    refine WL.c rfl (o_call Tryd.call39 (lc rfl (lc rfl (lc rfl ln))) ((brought_spec x (-1) (63) _ hx_ (by omega) (by omega) (by omega)).mono ?_))
    rintro v12 w12 ⟨⟨q, rfl, hq0, hq1⟩, rfl⟩
    refine WL.c rfl (o_ash (show _ = Value.int _ _ from rfl) ?_)
    refine WL.nil ?_
    refine W.ret ?_
    refine ret1v rfl (show _ = Value.int _ _ from rfl) ?_
    refine ⟨_, rfl, ?_, hx⟩
    unfold madN
    repeat (first | rw [if_neg (by omega)] | rw [if_pos (by omega)])
    all_goals first | rfl | omega | (split <;> omega) | (refine ⟨?_, ?_⟩ <;> first | omega | (split <;> omega)) | (simp; omega)
  · try simp only [decide_eq_true_eq, decide_eq_false_iff_not, Bool.not_eq_true', Bool.not_eq_false', Bool.and_eq_true, Bool.or_eq_true, Bool.and_eq_false_iff, Bool.or_eq_false_iff] at c8
    refine W.seq ?_
    subst hw1
    refine W.region ?_
    refine WL.c rfl (o_eq h7 rfl ?_)
    refine WL.c rfl (o_ash (show _ = Value.bool _ from rfl) ?_)
    refine WL.nil ?_
    refine W.cond rfl (fun c13 => ?_) (fun c13 => ?_)
    · try simp only [decide_eq_true_eq, decide_eq_false_iff_not, Bool.not_eq_true', Bool.not_eq_false', Bool.and_eq_true, Bool.or_eq_true, Bool.and_eq_false_iff, Bool.or_eq_false_iff] at c13
      refine W.seq ?_
      refine W.region ?_
      refine WL.c rfl (o_mvh h2 ?_)
      refine WL.c rfl (o_call Tryd.call39 (lc rfl (lc rfl (lc rfl ln))) ((brought_spec x (0) (61) _ hx_ (by omega) (by omega) (by omega)).mono ?_))
      rintro v16 w16 ⟨⟨q, rfl, hq0, hq1⟩, rfl⟩
      refine WL.c rfl (o_ash (show _ = Value.int _ _ from rfl) ?_)
      refine WL.nil ?_
      refine W.ret ?_
      refine ret1v rfl (show _ = Value.int _ _ from rfl) ?_
      refine ⟨_, rfl, ?_, hx⟩
      unfold madN
      repeat (first | rw [if_neg (by omega)] | rw [if_pos (by omega)])
      all_goals first | rfl | omega | (split <;> omega) | (refine ⟨?_, ?_⟩ <;> first | omega | (split <;> omega)) | (simp; omega)
    · try simp only [decide_eq_true_eq, decide_eq_false_iff_not, Bool.not_eq_true', Bool.not_eq_false', Bool.and_eq_true, Bool.or_eq_true, Bool.and_eq_false_iff, Bool.or_eq_false_iff] at c13
      refine W.seq ?_
      refine W.region ?_
      refine WL.c rfl (o_eq h7 rfl ?_)
      refine WL.c rfl (o_ash (show _ = Value.bool _ from rfl) ?_)
      refine WL.nil ?_
      refine W.cond rfl (fun c17 => ?_) (fun c17 => ?_)
      · try simp only [decide_eq_true_eq, decide_eq_false_iff_not, Bool.not_eq_true', Bool.not_eq_false', Bool.and_eq_true, Bool.or_eq_true, Bool.and_eq_false_iff, Bool.or_eq_false_iff] at c17
        refine W.seq ?_
        refine W.region ?_
        refine WL.c rfl (o_mvh h2 ?_)
        refine WL.c rfl (o_call Tryd.call39 (lc rfl (lc rfl (lc rfl ln))) ((brought_spec x (0) (3) _ hx_ (by omega) (by omega) (by omega)).mono ?_))
        rintro v20 w20 ⟨⟨q, rfl, hq0, hq1⟩, rfl⟩
        refine WL.c rfl (o_cvN TI3 TI109 (show _ = Value.int .i64 q from rfl) (by omega) (by omega) ?_)
        refine WL.c rfl (o_shl (show _ = Value.int .i64 1 from rfl) (show _ = Value.int .u64 _ from rfl) (by omega) ?_)
        refine WL.c rfl (o_ash (show _ = Value.int _ _ from rfl) ?_)
        refine WL.nil ?_
        refine W.ret ?_
        refine ret1v rfl (show _ = Value.int _ _ from rfl) ?_
        refine ⟨_, rfl, ?_, hx⟩
        unfold madN
        repeat (first | rw [if_neg (by omega)] | rw [if_pos (by omega)])
        have hq : q = 0 ∨ q = 1 ∨ q = 2 ∨ q = 3 := by omega
        rcases hq with rfl | rfl | rfl | rfl <;> decide
      · try simp only [decide_eq_true_eq, decide_eq_false_iff_not, Bool.not_eq_true', Bool.not_eq_false', Bool.and_eq_true, Bool.or_eq_true, Bool.and_eq_false_iff, Bool.or_eq_false_iff] at c17
        refine W.seq ?_
        refine W.region ?_
        refine WL.c rfl (o_eq h7 rfl ?_)
        refine WL.c rfl (o_ash (show _ = Value.bool _ from rfl) ?_)
        refine WL.nil ?_
        refine W.cond rfl (fun c23 => ?_) (fun c23 => ?_)
        · try simp only [decide_eq_true_eq, decide_eq_false_iff_not, Bool.not_eq_true', Bool.not_eq_false', Bool.and_eq_true, Bool.or_eq_true, Bool.and_eq_false_iff, Bool.or_eq_false_iff] at c23
          refine W.seq ?_
          refine W.region ?_
          refine WL.c rfl (o_ash (show _ = Value.int _ _ from rfl) ?_)
          refine WL.nil ?_
          refine W.ret ?_
          refine ret1v rfl (show _ = Value.int _ _ from rfl) ?_
          refine ⟨_, rfl, ?_, hx⟩
          unfold madN
          repeat (first | rw [if_neg (by omega)] | rw [if_pos (by omega)])
          all_goals first | rfl | omega | (split <;> omega) | (refine ⟨?_, ?_⟩ <;> first | omega | (split <;> omega)) | (simp; omega)
        · try simp only [decide_eq_true_eq, decide_eq_false_iff_not, Bool.not_eq_true', Bool.not_eq_false', Bool.and_eq_true, Bool.or_eq_true, Bool.and_eq_false_iff, Bool.or_eq_false_iff] at c23
          refine W.seq ?_
          refine W.region ?_
          refine WL.c rfl (o_eq h7 rfl ?_)
          refine WL.c rfl (o_ash (show _ = Value.bool _ from rfl) ?_)
          refine WL.nil ?_
          refine W.cond rfl (fun c25 => ?_) (fun c25 => ?_)
          · try simp only [decide_eq_true_eq, decide_eq_false_iff_not, Bool.not_eq_true', Bool.not_eq_false', Bool.and_eq_true, Bool.or_eq_true, Bool.and_eq_false_iff, Bool.or_eq_false_iff] at c25
            refine W.seq ?_
            refine W.region ?_
            refine WL.c rfl (o_mvh h2 ?_)
            refine WL.c rfl (o_call Tryd.call39 (lc rfl (lc rfl (lc rfl ln))) ((brought_spec x (4) (400) _ hx_ (by omega) (by omega) (by omega)).mono ?_))
            rintro v28 w28 ⟨⟨q, rfl, hq0, hq1⟩, rfl⟩
            refine WL.c rfl (o_ash (show _ = Value.int _ _ from rfl) ?_)
            refine WL.nil ?_
            refine W.ret ?_
            refine ret1v rfl (show _ = Value.int _ _ from rfl) ?_
            refine ⟨_, rfl, ?_, hx⟩
            unfold madN
            repeat (first | rw [if_neg (by omega)] | rw [if_pos (by omega)])
            all_goals first | rfl | omega | (split <;> omega) | (refine ⟨?_, ?_⟩ <;> first | omega | (split <;> omega)) | (simp; omega)
          · try simp only [decide_eq_true_eq, decide_eq_false_iff_not, Bool.not_eq_true', Bool.not_eq_false', Bool.and_eq_true, Bool.or_eq_true, Bool.and_eq_false_iff, Bool.or_eq_false_iff] at c25
            refine W.seq ?_
            refine W.region ?_
            refine WL.c rfl (o_eq h7 rfl ?_)
            refine WL.c rfl (o_ash (show _ = Value.bool _ from rfl) ?_)
            refine WL.nil ?_
            refine W.cond rfl (fun c29 => ?_) (fun c29 => ?_)
            · try simp only [decide_eq_true_eq, decide_eq_false_iff_not, Bool.not_eq_true', Bool.not_eq_false', Bool.and_eq_true, Bool.or_eq_true, Bool.and_eq_false_iff, Bool.or_eq_false_iff] at c29
              refine W.seq ?_
              refine W.region ?_
              refine WL.c rfl (o_mvh h2 ?_)
              refine WL.c rfl (o_call Tryd.call39 (lc rfl (lc rfl (lc rfl ln))) ((brought_spec x (1) (1048576) _ hx_ (by omega) (by omega) (by omega)).mono ?_))
              rintro v32 w32 ⟨⟨q, rfl, hq0, hq1⟩, rfl⟩
              refine WL.c rfl (o_ash (show _ = Value.int _ _ from rfl) ?_)
              refine WL.nil ?_
              refine W.ret ?_
              refine ret1v rfl (show _ = Value.int _ _ from rfl) ?_
              refine ⟨_, rfl, ?_, hx⟩
              unfold madN
              repeat (first | rw [if_neg (by omega)] | rw [if_pos (by omega)])
              all_goals first | rfl | omega | (split <;> omega) | (refine ⟨?_, ?_⟩ <;> first | omega | (split <;> omega)) | (simp; omega)
            · try simp only [decide_eq_true_eq, decide_eq_false_iff_not, Bool.not_eq_true', Bool.not_eq_false', Bool.and_eq_true, Bool.or_eq_true, Bool.and_eq_false_iff, Bool.or_eq_false_iff] at c29
              refine W.seq ?_
              refine W.region ?_
              refine WL.c rfl (o_eq h7 rfl ?_)
              refine WL.c rfl (o_ash (show _ = Value.bool _ from rfl) ?_)
              refine WL.nil ?_
              refine W.cond rfl (fun c33 => ?_) (fun c33 => ?_)
              · try simp only [decide_eq_true_eq, decide_eq_false_iff_not, Bool.not_eq_true', Bool.not_eq_false', Bool.and_eq_true, Bool.or_eq_true, Bool.and_eq_false_iff, Bool.or_eq_false_iff] at c33
                refine W.seq ?_
                refine W.region ?_
                refine WL.c rfl (o_mvh h2 ?_)
                refine WL.c rfl (o_call Tryd.call39 (lc rfl (lc rfl (lc rfl ln))) ((brought_spec x (1) (64) _ hx_ (by omega) (by omega) (by omega)).mono ?_))
                rintro v36 w36 ⟨⟨q, rfl, hq0, hq1⟩, rfl⟩
                refine WL.c rfl (o_ash (show _ = Value.int _ _ from rfl) ?_)
                refine WL.nil ?_
                refine W.ret ?_
                refine ret1v rfl (show _ = Value.int _ _ from rfl) ?_
                refine ⟨_, rfl, ?_, hx⟩
                unfold madN
                repeat (first | rw [if_neg (by omega)] | rw [if_pos (by omega)])
                all_goals first | rfl | omega | (split <;> omega) | (refine ⟨?_, ?_⟩ <;> first | omega | (split <;> omega)) | (simp; omega)
              · try simp only [decide_eq_true_eq, decide_eq_false_iff_not, Bool.not_eq_true', Bool.not_eq_false', Bool.and_eq_true, Bool.or_eq_true, Bool.and_eq_false_iff, Bool.or_eq_false_iff] at c33
                refine W.seq ?_
                refine W.region ?_
                refine WL.c rfl (o_eq h7 rfl ?_)
                refine WL.c rfl (o_ash (show _ = Value.bool _ from rfl) ?_)
                refine WL.nil ?_
                refine W.cond rfl (fun c37 => ?_) (fun c37 => ?_)
                · try simp only [decide_eq_true_eq, decide_eq_false_iff_not, Bool.not_eq_true', Bool.not_eq_false', Bool.and_eq_true, Bool.or_eq_true, Bool.and_eq_false_iff, Bool.or_eq_false_iff] at c37
                  refine W.seq ?_
                  refine W.region ?_
                  refine WL.c rfl (o_mvh h2 ?_)
                  refine WL.c rfl (o_call Tryd.call39 (lc rfl (lc rfl (lc rfl ln))) ((brought_spec x (0) (255) _ hx_ (by omega) (by omega) (by omega)).mono ?_))
                  rintro v40 w40 ⟨⟨q, rfl, hq0, hq1⟩, rfl⟩
                  refine WL.c rfl (o_ash (show _ = Value.int _ _ from rfl) ?_)
                  refine WL.nil ?_
                  refine W.ret ?_
                  refine ret1v rfl (show _ = Value.int _ _ from rfl) ?_
                  refine ⟨_, rfl, ?_, hx⟩
                  unfold madN
                  repeat (first | rw [if_neg (by omega)] | rw [if_pos (by omega)])
                  all_goals first | rfl | omega | (split <;> omega) | (refine ⟨?_, ?_⟩ <;> first | omega | (split <;> omega)) | (simp; omega)
                · try simp only [decide_eq_true_eq, decide_eq_false_iff_not, Bool.not_eq_true', Bool.not_eq_false', Bool.and_eq_true, Bool.or_eq_true, Bool.and_eq_false_iff, Bool.or_eq_false_iff] at c37
                  refine W.seq ?_
                  refine W.region ?_
                  refine WL.c rfl (o_eq h7 rfl ?_)
                  refine WL.c rfl (o_ash (show _ = Value.bool _ from rfl) ?_)
                  refine WL.nil ?_
                  refine W.cond rfl (fun c41 => ?_) (fun c41 => ?_)
                  · try simp only [decide_eq_true_eq, decide_eq_false_iff_not, Bool.not_eq_true', Bool.not_eq_false', Bool.and_eq_true, Bool.or_eq_true, Bool.and_eq_false_iff, Bool.or_eq_false_iff] at c41
                    refine W.seq ?_
                    refine W.region ?_
                    refine WL.c rfl (o_mvh h2 ?_)
                    refine WL.c rfl (o_call Tryd.call39 (lc rfl (lc rfl (lc rfl ln))) ((brought_spec x (0) (300) _ hx_ (by omega) (by omega) (by omega)).mono ?_))
                    rintro v44 w44 ⟨⟨q, rfl, hq0, hq1⟩, rfl⟩
                    refine WL.c rfl (o_ash (show _ = Value.int _ _ from rfl) ?_)
                    refine WL.nil ?_
                    refine W.ret ?_
                    refine ret1v rfl (show _ = Value.int _ _ from rfl) ?_
                    refine ⟨_, rfl, ?_, hx⟩
                    unfold madN
                    repeat (first | rw [if_neg (by omega)] | rw [if_pos (by omega)])
                    all_goals first | rfl | omega | (split <;> omega) | (refine ⟨?_, ?_⟩ <;> first | omega | (split <;> omega)) | (simp; omega)
                  · try simp only [decide_eq_true_eq, decide_eq_false_iff_not, Bool.not_eq_true', Bool.not_eq_false', Bool.and_eq_true, Bool.or_eq_true, Bool.and_eq_false_iff, Bool.or_eq_false_iff] at c41
                    refine W.seq ?_
                    refine W.region ?_
                    refine WL.c rfl (o_eq h7 rfl ?_)
                    refine WL.c rfl (o_ash (show _ = Value.bool _ from rfl) ?_)
                    refine WL.nil ?_
                    refine W.cond rfl (fun c45 => ?_) (fun c45 => ?_)
                    · try simp only [decide_eq_true_eq, decide_eq_false_iff_not, Bool.not_eq_true', Bool.not_eq_false', Bool.and_eq_true, Bool.or_eq_true, Bool.and_eq_false_iff, Bool.or_eq_false_iff] at c45
                      refine W.seq ?_
                      refine W.region ?_
                      refine WL.c rfl (o_mvh h2 ?_)
                      refine WL.c rfl (o_call Tryd.call39 (lc rfl (lc rfl (lc rfl ln))) ((brought_spec x (-1) (16777215) _ hx_ (by omega) (by omega) (by omega)).mono ?_))
                      rintro v48 w48 ⟨⟨q, rfl, hq0, hq1⟩, rfl⟩
                      refine WL.c rfl (o_ash (show _ = Value.int _ _ from rfl) ?_)
                      refine WL.nil ?_
                      refine W.ret ?_
                      refine ret1v rfl (show _ = Value.int _ _ from rfl) ?_
                      refine ⟨_, rfl, ?_, hx⟩
                      unfold madN
                      repeat (first | rw [if_neg (by omega)] | rw [if_pos (by omega)])
                      all_goals first | rfl | omega | (split <;> omega) | (refine ⟨?_, ?_⟩ <;> first | omega | (split <;> omega)) | (simp; omega)
                    · try simp only [decide_eq_true_eq, decide_eq_false_iff_not, Bool.not_eq_true', Bool.not_eq_false', Bool.and_eq_true, Bool.or_eq_true, Bool.and_eq_false_iff, Bool.or_eq_false_iff] at c45
                      refine W.seq ?_
                      refine W.region ?_
                      refine WL.c rfl (o_eq h7 rfl ?_)
                      refine WL.c rfl (o_ash (show _ = Value.bool _ from rfl) ?_)
                      refine WL.nil ?_
                      refine W.cond rfl (fun c49 => ?_) (fun c49 => ?_)
                      · try simp only [decide_eq_true_eq, decide_eq_false_iff_not, Bool.not_eq_true', Bool.not_eq_false', Bool.and_eq_true, Bool.or_eq_true, Bool.and_eq_false_iff, Bool.or_eq_false_iff] at c49
                        refine W.seq ?_
                        refine W.region ?_
                        refine WL.c rfl (o_mvh h2 ?_)
                        refine WL.c rfl (o_call Tryd.call39 (lc rfl (lc rfl (lc rfl ln))) ((brought_spec x (0) (300) _ hx_ (by omega) (by omega) (by omega)).mono ?_))
                        rintro v52 w52 ⟨⟨q, rfl, hq0, hq1⟩, rfl⟩
                        refine WL.c rfl (o_maxI rfl rfl ?_)
                        refine WL.c rfl (o_ash (show _ = Value.int _ _ from rfl) ?_)
                        refine WL.nil ?_
                        refine W.ret ?_
                        refine ret1v rfl (show _ = Value.int _ _ from rfl) ?_
                        refine ⟨_, rfl, ?_, hx⟩
                        unfold madN
                        repeat (first | rw [if_neg (by omega)] | rw [if_pos (by omega)])
                        all_goals first | rfl | omega | (split <;> omega) | (refine ⟨?_, ?_⟩ <;> first | omega | (split <;> omega)) | (simp; omega)
                      · try simp only [decide_eq_true_eq, decide_eq_false_iff_not, Bool.not_eq_true', Bool.not_eq_false', Bool.and_eq_true, Bool.or_eq_true, Bool.and_eq_false_iff, Bool.or_eq_false_iff] at c49
                        refine W.seq ?_
                        refine W.region ?_
                        refine WL.c rfl (o_eq h7 rfl ?_)
                        refine WL.c rfl (o_ash (show _ = Value.bool _ from rfl) ?_)
                        refine WL.nil ?_
                        refine W.cond rfl (fun c54 => ?_) (fun c54 => ?_)
                        · try simp only [decide_eq_true_eq, decide_eq_false_iff_not, Bool.not_eq_true', Bool.not_eq_false', Bool.and_eq_true, Bool.or_eq_true, Bool.and_eq_false_iff, Bool.or_eq_false_iff] at c54
                          refine W.seq ?_
                          refine W.region ?_
                          refine WL.c rfl (o_mvh h2 ?_)
                          refine WL.c rfl (o_call Tryd.call39 (lc rfl (lc rfl (lc rfl ln))) ((brought_spec x (1) (16777216) _ hx_ (by omega) (by omega) (by omega)).mono ?_))
                          rintro v57 w57 ⟨⟨q, rfl, hq0, hq1⟩, rfl⟩
                          refine WL.c rfl (o_ash (show _ = Value.int _ _ from rfl) ?_)
                          refine WL.nil ?_
                          refine W.ret ?_
                          refine ret1v rfl (show _ = Value.int _ _ from rfl) ?_
                          refine ⟨_, rfl, ?_, hx⟩
                          unfold madN
                          repeat (first | rw [if_neg (by omega)] | rw [if_pos (by omega)])
                          all_goals first | rfl | omega | (split <;> omega) | (refine ⟨?_, ?_⟩ <;> first | omega | (split <;> omega)) | (simp; omega)
                        · try simp only [decide_eq_true_eq, decide_eq_false_iff_not, Bool.not_eq_true', Bool.not_eq_false', Bool.and_eq_true, Bool.or_eq_true, Bool.and_eq_false_iff, Bool.or_eq_false_iff] at c54
                          refine W.seq ?_
                          refine W.region ?_
                          refine WL.c rfl (o_eq h7 rfl ?_)
                          refine WL.c rfl (o_ash (show _ = Value.bool _ from rfl) ?_)
                          refine WL.nil ?_
                          refine W.cond rfl (fun c58 => ?_) (fun c58 => ?_)
                          · try simp only [decide_eq_true_eq, decide_eq_false_iff_not, Bool.not_eq_true', Bool.not_eq_false', Bool.and_eq_true, Bool.or_eq_true, Bool.and_eq_false_iff, Bool.or_eq_false_iff] at c58
                            refine W.seq ?_
                            refine W.region ?_
                            refine WL.c rfl (o_mvh h2 ?_)
                            refine WL.c rfl (o_fa 1 TI26 rfl TI23 rfl h3 ?_)
                            refine WL.c rfl (o_ld TI23 rfl rfl (cell_of hC3 rfl) ?_)
                            refine WL.c rfl (o_lenR TI23 rfl (hp.code.ext hx) ?_)
                            refine WL.c rfl (o_subi rfl rfl (by omega) ?_)
                            refine WL.c rfl (o_call Tryd.call39 (lc rfl (lc rfl (lc rfl ln))) ((brought_spec x (0) (((p.code.length : Int) - 1)) _ hx_ (by omega) (by omega) (by omega)).mono ?_))
                            rintro v65 w65 ⟨⟨q, rfl, hq0, hq1⟩, rfl⟩
                            refine WL.c rfl (o_ash (show _ = Value.int _ _ from rfl) ?_)
                            refine WL.nil ?_
                            refine W.ret ?_
                            refine ret1v rfl (show _ = Value.int _ _ from rfl) ?_
                            refine ⟨_, rfl, ?_, hx⟩
                            unfold madN
                            repeat (first | rw [if_neg (by omega)] | rw [if_pos (by omega)])
                            all_goals first | rfl | omega | (split <;> omega) | (refine ⟨?_, ?_⟩ <;> first | omega | (split <;> omega)) | (simp; omega)
                          · try simp only [decide_eq_true_eq, decide_eq_false_iff_not, Bool.not_eq_true', Bool.not_eq_false', Bool.and_eq_true, Bool.or_eq_true, Bool.and_eq_false_iff, Bool.or_eq_false_iff] at c58
                            refine W.seq ?_
                            refine W.region ?_
                            refine WL.c rfl (o_eq h7 rfl ?_)
                            refine WL.c rfl (o_ash (show _ = Value.bool _ from rfl) ?_)
                            refine WL.nil ?_
                            refine W.cond rfl (fun c66 => ?_) (fun c66 => ?_)
                            · try simp only [decide_eq_true_eq, decide_eq_false_iff_not, Bool.not_eq_true', Bool.not_eq_false', Bool.and_eq_true, Bool.or_eq_true, Bool.and_eq_false_iff, Bool.or_eq_false_iff] at c66
                              refine W.seq ?_
                              refine W.region ?_
                              refine WL.c rfl (o_mvh h2 ?_)
                              refine WL.c rfl (o_fa 2 TI26 rfl TI24 rfl h3 ?_)
                              refine WL.c rfl (o_ld TI24 rfl rfl (cell_of hC3 rfl) ?_)
                              refine WL.c rfl (o_lenR TI24 rfl (hp.ent.ext hx) ?_)
                              refine WL.c rfl (o_subi rfl rfl (by omega) ?_)
                              refine WL.c rfl (o_call Tryd.call39 (lc rfl (lc rfl (lc rfl ln))) ((brought_spec x (0) (((p.ent.length : Int) - 1)) _ hx_ (by omega) (by omega) (by omega)).mono ?_))
                              rintro v73 w73 ⟨⟨q, rfl, hq0, hq1⟩, rfl⟩
                              refine WL.c rfl (o_ash (show _ = Value.int _ _ from rfl) ?_)
                              refine WL.nil ?_
                              refine W.ret ?_
                              refine ret1v rfl (show _ = Value.int _ _ from rfl) ?_
                              refine ⟨_, rfl, ?_, hx⟩
                              unfold madN
                              repeat (first | rw [if_neg (by omega)] | rw [if_pos (by omega)])
                              all_goals first | rfl | omega | (split <;> omega) | (refine ⟨?_, ?_⟩ <;> first | omega | (split <;> omega)) | (simp; omega)
                            · try simp only [decide_eq_true_eq, decide_eq_false_iff_not, Bool.not_eq_true', Bool.not_eq_false', Bool.and_eq_true, Bool.or_eq_true, Bool.and_eq_false_iff, Bool.or_eq_false_iff] at c66
                              refine W.skip ?_
                              refine W.seq ?_
                              refine W.region ?_
                              refine WL.c rfl (o_ash (show _ = Value.int _ _ from rfl) ?_)
                              refine WL.nil ?_
                              refine W.ret ?_
                              refine ret1v rfl (show _ = Value.int _ _ from rfl) ?_
                              refine ⟨_, rfl, ?_, hx⟩
                              unfold madN
                              repeat (first | rw [if_neg (by omega)] | rw [if_pos (by omega)])
                              all_goals first | rfl | omega | (split <;> omega) | (refine ⟨?_, ?_⟩ <;> first | omega | (split <;> omega)) | (simp; omega)
end Go.Proofs.YthlbhnefldaoiaaDoor

set_option linter.unusedSimpArgs false
set_option linter.unusedVariables false
set_option maxRecDepth 100000
namespace Go.Proofs.YthlbhnefldaoiaaDoor
open Go Go.Vc Go.RowKit Go.Proofs

def okOp (enc : Bool) (op : Int) : Prop := if enc then op = 9 ∨ op = 19 ∨ op = 20 ∨ (33 ≤ op ∧ op ≤ 47) else 1 ≤ op ∧ op ≤ 20
theorem okOp_fm {enc : Bool} {op : Int} (h : okOp enc op) : ∃ nm l0 l1 l2, fmOf enc op = some (nm, [l0, l1, l2]) := by
  have hs : ∃ f, fmOf enc op = some f := by
    unfold okOp at h
    unfold fmOf
    cases enc with
    | true =>
      simp only [if_true] at h
      by_cases h1 : op = 9 ∨ op = 19 ∨ op = 20
      · rw [if_pos h1]; exact ⟨_, List.getElem?_eq_getElem (show op.toNat < 21 by omega)⟩
      · rw [if_neg h1, if_pos ⟨rfl, by omega⟩]; exact ⟨_, List.getElem?_eq_getElem (show op.toNat - 33 < 15 by omega)⟩
    | false =>
      simp only [Bool.false_eq_true, if_false] at h
      by_cases h1 : op = 9 ∨ op = 19 ∨ op = 20
      · rw [if_pos h1]; exact ⟨_, List.getElem?_eq_getElem (show op.toNat < 21 by omega)⟩
      · rw [if_neg h1, if_neg (by rintro ⟨h, -⟩; cases h), if_pos ⟨rfl, h⟩]; exact ⟨_, List.getElem?_eq_getElem (show op.toNat < 21 by omega)⟩
  obtain ⟨⟨nm, ls⟩, hf⟩ := hs
  obtain ⟨h3, -⟩ := fmOf_three hf
  match ls, h3 with
  | [l0, l1, l2], _ => exact ⟨nm, l0, l1, l2, hf⟩
def armNm (f : List UInt8 × List UInt8) : Prop := f.1 = [117, 110, 105, 111, 110] ∨ f.1 = [99, 104, 111, 105, 99, 101]
theorem fm_un {enc : Bool} {op : Int} {f : List UInt8 × List UInt8} (h : fmOf enc op = some f) : armNm f ↔ op = 8 ∨ op = 41 := by
  have key : ∀ (k : Fin 48) (enc : Bool), (fmOf enc ((k.val : Nat) : Int)).all (fun f => decide (f.1 = [117, 110, 105, 111, 110] ∨ f.1 = [99, 104, 111, 105, 99, 101]) == decide (k.val = 8 ∨ k.val = 41)) = true := by decide +kernel
  obtain ⟨h1, h2⟩ := fmOf_op h
  obtain ⟨k, rfl⟩ : ∃ k : Nat, op = (k : Int) := ⟨op.toNat, by omega⟩
  have := key ⟨k, by omega⟩ enc
  rw [h] at this
  simp only [Option.all_some, beq_iff_eq, decide_eq_decide] at this
  unfold armNm
  rw [this]
  omega
structure FitI (nc ne : Nat) (x : Ins) (f : List UInt8 × List UInt8) : Prop where
  fa : fitP nc ne (f.2.getD 0 0) x.a
  fb : fitP nc ne (f.2.getD 1 0) x.b
  fc : fitP nc ne (f.2.getD 2 0) x.c
  more : moreP [] 0 x f.1
/-- an instruction of Made's first loop -/
def GoodI (enc : Bool) (nc ne : Nat) (x : Ins) : Prop := ∃ f, fmOf enc x.op = some f ∧ ((armNm f ∧ x.a = 0 ∧ x.b = 0 ∧ x.c = 0 ∧ f.2 = [97, 32, 32]) ∨ (¬ armNm f ∧ FitI nc ne x f))
theorem moreP_any {L : List Ins} {i : Nat} {x : Ins} {f : List UInt8 × List UInt8} (h : moreP [] 0 x f.1) (hn : ¬ armNm f) : moreP L i x f.1 := by
  unfold armNm at hn
  unfold moreP at h ⊢
  split
  · rename_i h1; rwa [if_pos h1] at h
  · rename_i h1; rw [if_neg h1] at h
    split
    · rename_i h2; rwa [if_pos h2] at h
    · rename_i h2; rw [if_neg h2] at h
      split
      · rename_i h3; rwa [if_pos h3] at h
      · first | trivial | (rw [if_neg hn]; trivial)
theorem GoodI.ok {p : Pg} {i : Nat} (h : GoodI p.enc p.code.length p.ent.length (p.code.getD i in0)) (hn : ¬ ((p.code.getD i in0).op = 8 ∨ (p.code.getD i in0).op = 41)) : OkI p i := by
  obtain ⟨f, hf, h | ⟨h1, h2⟩⟩ := h
  · exact absurd ((fm_un hf).1 h.1) hn
  · exact ⟨f, hf, h2.fa, h2.fb, h2.fc, moreP_any h2.more h1⟩
/-- .. a union, with its arms counted -/
theorem GoodI.arms {enc : Bool} {nc ne : Nat} {x : Ins} (h : GoodI enc nc ne x) (hu : x.op = 8 ∨ x.op = 41) {p : Pg} {i : Nat} (he : p.enc = enc) {k : Nat} (hx : p.code.getD i in0 = { x with a := (k : Int) }) (h1 : 1 ≤ k ∧ k ≤ 64) (ha : ArmsP p.code i k) : OkI p i := by
  obtain ⟨f, hf, ⟨g1, g2, g3, g4, g5⟩ | ⟨g1, -⟩⟩ := h
  · refine ⟨f, ?_, ?_, ?_, ?_, ?_⟩
    · rw [hx, he]; exact hf
    · rw [hx, g5]; show fitP _ _ 97 (k : Int); simp [fitP]; omega
    · rw [hx, g5]; show fitP _ _ 32 x.b; simp [fitP, g3]
    · rw [hx, g5]; show fitP _ _ 32 x.c; simp [fitP, g4]
    · rw [hx]
      unfold moreP
      unfold armNm at g1
      rw [if_neg (by rcases g1 with h | h <;> rw [h] <;> decide), if_neg (by rcases g1 with h | h <;> rw [h] <;> decide), if_neg (by rcases g1 with h | h <;> rw [h] <;> decide), if_pos g1]
      exact ha
  · exact absurd ((fm_un hf).2 hu) g1
theorem ret_ok {p : Pg} {i : Nat} (h : p.code.getD i in0 = ret0I) : OkI p i := by
  unfold OkI
  rw [h]
  refine ⟨([114, 101, 116], [32, 32, 32]), by cases p.enc <;> rfl, fitP_blank, fitP_blank, fitP_blank, by unfold moreP; rw [if_neg (by decide), if_neg (by decide), if_neg (by decide), if_neg (by decide)]; trivial⟩
/-- what Made's loop lays: of the operands made, those of a part brought together -/
def partI (nm : List UInt8) (x : Ins) : Ins := if nm = [112, 97, 114, 116] ∧ (x.a = -1 ∨ x.b = -1) then { x with a := -1, b := -1 } else x
theorem made_good {enc : Bool} {nc ne : Nat} {op A B C : Int} {nm : List UInt8} {l0 l1 l2 : UInt8} (hf : fmOf enc op = some (nm, [l0, l1, l2])) (hA : madN nc ne l0.toNat A) (hB : madN nc ne l1.toNat B) (hC : madN nc ne l2.toNat C) : GoodI enc nc ne (partI nm ⟨op, A, B, C⟩) := by
  have hm := fmOf_mem hf
  have ho : (partI nm ⟨op, A, B, C⟩).op = op := by unfold partI; split <;> rfl
  refine ⟨(nm, [l0, l1, l2]), by rw [ho]; exact hf, ?_⟩
  clear hf ho
  unfold armNm
  simp only [dTab, cTab, List.tail_cons, List.cons_append, List.nil_append, List.mem_cons, List.not_mem_nil, or_false, Prod.mk.injEq, List.cons.injEq, and_true] at hm
  rcases hm with h | h | h | h | h | h | h | h | h | h | h | h | h | h | h | h | h | h | h | h | h | h | h | h | h | h | h | h | h | h | h | h | h | h | h <;>
  · obtain ⟨rfl, rfl, rfl, rfl⟩ := h
    simp [madN] at hA hB hC
    first
    | (left; simp [partI, hA, hB, hC]; done)
    | (right
       refine ⟨by decide, ?_⟩
       unfold partI
       first
       | (rw [if_neg (by decide)]
          refine ⟨?_, ?_, ?_, ?_⟩ <;> first | (simp [fitP]; done) | (simp [fitP]; omega) | (simp [moreP]; done) | (simp [moreP]; omega) | (subst hB; simp [moreP]; omega))
       | (rw [if_neg (by simp)]
          refine ⟨?_, ?_, ?_, ?_⟩ <;> first | (simp [fitP]; done) | (simp [fitP]; omega) | (simp [moreP]; done) | (simp [moreP]; omega) | (subst hB; simp [moreP]; omega))
       | (split
          · refine ⟨?_, ?_, ?_, ?_⟩ <;> first | (simp [fitP]; done) | (simp [fitP]; omega) | (simp [moreP]; done) | (simp [moreP]; omega)
          · rename_i hn
            refine ⟨?_, ?_, ?_, ?_⟩ <;> first | (simp [fitP]; done) | (simp [fitP]; omega) | (simp [moreP]; done) | (simp [moreP]; omega) | (simp at hn; simp [moreP]; omega)))
theorem inss_setI : ∀ (L : List Ins) (i : Nat) (x : Ins), i < L.length → (inss L).take (i * 4) ++ (insV x) ++ (inss L).drop (i * 4 + 4) = inss (L.set i x)
  | [], i, x, h => absurd h (Nat.not_lt_zero i)
  | y :: L, 0, x, _ => by simp [inss, insV]
  | y :: L, i + 1, x, h => by
    have := inss_setI L i x (by simpa using h)
    have e1 : inss (y :: L) = insV y ++ inss L := by rw [inss, List.flatMap_cons]; rfl
    have e2 : inss ((y :: L).set (i + 1) x) = insV y ++ inss (L.set i x) := by rw [List.set_cons_succ, inss, List.flatMap_cons]; rfl
    rw [e1, e2, ← this, List.take_append, List.drop_append, insV_len, show (i + 1) * 4 - 4 = i * 4 by omega, show (i + 1) * 4 + 4 - 4 = i * 4 + 4 by omega, List.take_of_length_le (by rw [insV_len]; omega), List.drop_of_length_le (by rw [insV_len]; omega)]
    simp [List.append_assoc]
theorem inss_setA : ∀ (L : List Ins) (i : Nat) (h : i < L.length) (v : Int), (inss L).set (i * 4 + 1) (.int .i64 v) = inss (L.set i { L[i] with a := v })
  | [], i, h, v => absurd h (Nat.not_lt_zero i)
  | x :: L, 0, _, v => by simp [inss, insV]
  | x :: L, i + 1, h, v => by
    have := inss_setA L i (by simpa using h) v
    rw [inss, List.flatMap_cons, ← inss, List.set_append, if_neg (by rw [insV_len]; omega), insV_len, show (i + 1) * 4 + 1 - 4 = i * 4 + 1 by omega, this]
    rfl


theorem getD_set {L : List Ins} {i j : Nat} {y : Ins} (h : j ≠ i) : (L.set i y).getD j in0 = L.getD j in0 := by
  rw [List.getD_eq_getElem?_getD, List.getD_eq_getElem?_getD, List.getElem?_set_ne (by omega)]
theorem getD_setI {L : List Ins} {i : Nat} {y : Ins} (h : i < L.length) : (L.set i y).getD i in0 = y := by
  rw [List.getD_eq_getElem?_getD, List.getElem?_set_self h]; rfl
theorem ArmsP.set {L : List Ins} {i : Nat} {y : Ins} {n : Int} : ArmsP (L.set i y) i n ↔ ArmsP L i n := by
  have key : ∀ (y : Ins) (L : List Ins), ArmsP L i n → ArmsP (L.set i y) i n := fun y L h => ⟨by rw [List.length_set]; exact h.room, fun k h1 h2 => by rw [getD_set (by omega)]; exact h.arm k h1 h2, fun j k h1 h2 h3 => by rw [getD_set (by omega), getD_set (by omega)]; exact h.tags j k h1 h2 h3⟩
  refine ⟨fun h => ?_, key y L⟩
  by_cases hi : i < L.length
  · have := key (L.getD i in0) _ h
    rw [List.set_set] at this
    have e : L.set i (L.getD i in0) = L := by
      apply List.ext_getElem?
      intro j
      by_cases hj : j = i
      · subst hj; rw [List.getElem?_set_self hi, List.getD_eq_getElem?_getD, List.getElem?_eq_getElem hi]; rfl
      · rw [List.getElem?_set_ne (by omega)]
    rwa [e] at this
  · rwa [List.set_eq_of_length_le (by omega)] at h
theorem ArmsP.zero {L : List Ins} {i : Nat} (h : i < L.length) : ArmsP L i 0 := ⟨by omega, fun k h1 h2 => by omega, fun j k h1 h2 h3 => by omega⟩
theorem OkI.ent {e : Bool} {L : List Ins} {E E' : List Int} {j : Nat} (h : OkI ⟨e, L, E⟩ j) (hl : E.length = E'.length) : OkI ⟨e, L, E'⟩ j := by
  obtain ⟨f, h1, h2, h3, h4, h5⟩ := h
  refine ⟨f, h1, ?_, ?_, ?_, h5⟩
  · show fitP L.length E'.length _ _; rw [← hl]; exact h2
  · show fitP L.length E'.length _ _; rw [← hl]; exact h3
  · show fitP L.length E'.length _ _; rw [← hl]; exact h4
theorem OkI.set {e : Bool} {L : List Ins} {E : List Int} {i j : Nat} {y : Ins} (h : OkI ⟨e, L, E⟩ j) (hj : j ≠ i) (h9 : (L.getD i in0).op ≠ 9) : OkI ⟨e, L.set i y, E⟩ j := by
  obtain ⟨f, h1, h2, h3, h4, h5⟩ := h
  have eg : (L.set i y).getD j in0 = L.getD j in0 := getD_set hj
  refine ⟨f, ?_, ?_, ?_, ?_, ?_⟩
  · show fmOf e ((L.set i y).getD j in0).op = _; rw [eg]; exact h1
  · show fitP (L.set i y).length _ _ ((L.set i y).getD j in0).a; rw [eg, List.length_set]; exact h2
  · show fitP (L.set i y).length _ _ ((L.set i y).getD j in0).b; rw [eg, List.length_set]; exact h3
  · show fitP (L.set i y).length _ _ ((L.set i y).getD j in0).c; rw [eg, List.length_set]; exact h4
  · show moreP (L.set i y) j ((L.set i y).getD j in0) f.1
    rw [eg]
    replace h5 : moreP L j (L.getD j in0) f.1 := h5
    unfold moreP at h5 ⊢
    split
    · rename_i g; rwa [if_pos g] at h5
    · rename_i g; rw [if_neg g] at h5
      split
      · rename_i g2; rwa [if_pos g2] at h5
      · rename_i g2; rw [if_neg g2] at h5
        split
        · rename_i g3; rwa [if_pos g3] at h5
        · rename_i g3; rw [if_neg g3] at h5
          split
          · rename_i g4
            rw [if_pos g4] at h5
            have hk : ∀ k : Nat, 1 ≤ k → (k : Int) ≤ (L.getD j in0).a → (L.set i y).getD (j + k) in0 = L.getD (j + k) in0 := fun k k1 k2 => by
              refine getD_set (fun he => h9 ?_)
              rw [← he]; exact h5.arm k k1 k2
            exact ⟨by rw [List.length_set]; exact h5.room, fun k k1 k2 => by rw [hk k k1 k2]; exact h5.arm k k1 k2, fun a b a1 a2 a3 => by rw [hk a a1 (by omega), hk b (by omega) a3]; exact h5.tags a b a1 a2 a3⟩
          · trivial

end Go.Proofs.YthlbhnefldaoiaaDoor

set_option linter.unusedSimpArgs false
set_option linter.unusedVariables false
namespace Go.Vc
open Go Go.RowKit Go.ChangeShapes Go.WideShapes

theorem addr_add (a : Addr) (m k : Nat) : (a.add m).add k = a.add (m + k) := by
  unfold Addr.add
  by_cases hm : m = 0 <;> by_cases hk : k = 0 <;> simp [hm, hk, Nat.add_assoc]

theorem list_of {α : Type} (p : Nat → α → Prop) : ∀ n, (∀ i, i < n → ∃ o, p i o) → ∃ os : List α, os.length = n ∧ ∀ i (h : i < os.length), p i os[i]
  | 0, _ => ⟨[], rfl, fun i h => by simp at h⟩
  | n + 1, h => by
    obtain ⟨os, h1, h2⟩ := list_of p n (fun i hi => h i (by omega))
    obtain ⟨o, ho⟩ := h n (by omega)
    refine ⟨os ++ [o], by simp [h1], fun i hi => ?_⟩
    by_cases e : i < os.length
    · rw [List.getElem_append_left e]; exact h2 i e
    · simp at hi
      have e2 : i = n := by omega
      subst e2
      rw [List.getElem_append_right (by omega)]
      simpa [h1] using ho
theorem flatMap_get {α : Type} {cells : α → List Value} {s : Nat} (hlen : ∀ o, (cells o).length = s) : ∀ (os : List α) (idx : Nat) (v : Value), (os.flatMap cells)[idx]? = some v → ∃ i j, ∃ h : i < os.length, idx = i * s + j ∧ (cells os[i])[j]? = some v
  | [], idx, v, h => by simp at h
  | o :: os, idx, v, h => by
    rw [List.flatMap_cons] at h
    by_cases e : idx < s
    · rw [List.getElem?_append_left (by rw [hlen]; exact e)] at h
      exact ⟨0, idx, by simp, by omega, h⟩
    · rw [List.getElem?_append_right (by rw [hlen]; omega), hlen] at h
      obtain ⟨i, j, hi, h1, h2⟩ := flatMap_get hlen os (idx - s) v h
      refine ⟨i + 1, j, by simp; omega, ?_, by simpa using h2⟩
      rw [Nat.add_mul]; omega
/-- its weights are within reach -/
def Small {H : Type} (P : Program) (t : TypeId) (d : DataW H) : Prop := ∀ n ∈ d.weights P t, n ≤ reachBytes
theorem Small.top {H : Type} {P : Program} {ts : List TypeId} {ds : List (DataW H)} {j : Nat} {t : TypeId} {d : DataW H} (h : (DataW.weightsEach P ts ds).all (· ≤ reachBytes) = true) (ht : ts[j]? = some t) (hd : ds[j]? = some d) : Small P t d := fun n hn => by
  have := List.all_eq_true.1 h _ (DataW.weights_mem_each ht hd n hn)
  simpa using this
theorem Small.size {H : Type} {P : Program} {t e : TypeId} {elems spare : List (DataW H)} (h : Small P t (.slice elems spare)) (hu : P.underlying t = some (.slice e)) : (elems.length + spare.length) * P.bytesOf e ≤ reachBytes :=
  h _ (by simp only [DataW.weights, hu]; exact List.mem_cons_self ..)
theorem Small.part {H : Type} {P : Program} {t u : TypeId} {fs : Array Field} {parts : List (DataW H)} {i : Nat} {d : DataW H} (h : Small P t (.agg parts)) (hu : P.underlying t = some (.struct fs)) (hf : (fs.toList.map (·.type))[i]? = some u) (hd : parts[i]? = some d) : Small P u d := fun n hn =>
  h n (by simp only [DataW.weights, hu]; exact DataW.weights_mem_each hf hd n hn)
section
variable {H : Type} {enc : TypeId × Value → H} {P : Program} {W : World} {held : Bool}
theorem open_struct_len {t : TypeId} {fs : Array Field} {s : Nat} (hu : P.underlying t = some (.struct fs)) (hs : P.cellsOf t = s) {fuel : Nat} {cs : List Value} {x : DataW H × List MemPlace} (h : DataW.trod enc P W 0 (fun _ => true) held fuel t cs = some x) : cs.length = s := by
  obtain ⟨xs, n, -, -, h1, -⟩ := DataW.trod_struct hu h
  rw [h1, hs]
/-- bytes -/
theorem open_bytes {t e : TypeId} (hu : P.underlying t = some (.slice e)) (he : P.underlying e = some (.int .u8)) (hs : P.cellsOf e = 1) (hb : P.bytesOf e = 1) {fuel : Nat} {v : Value} {x : DataW H × List MemPlace}
    (h : DataW.trod enc P W 0 (fun _ => true) held fuel t [v] = some x) (hz : Small P t x.1) : ∃ xs : List UInt8, xs.length ≤ 140737488351232 ∧ Sl W 1 v xs.length (xs.map bv) := by
  rcases open_ints hu he hs h with ⟨hcs, hd⟩ | ⟨a, l, c, zs, hcs, -, hl, hm, hzl, hd, hcell, hwz⟩
  · simp only [List.cons.injEq, and_true] at hcs
    subst hcs
    exact ⟨[], by decide, Sl.nil _ _⟩
  · simp only [List.cons.injEq, and_true] at hcs
    subst hcs
    obtain ⟨xs, h1, h2, h3, h4⟩ := by_row (w := W) (.inr ⟨_, rfl, hl, hm, hzl, hcell, hwz⟩)
    subst hd
    have hr := hz.size hu
    rw [hb] at hr
    simp only [lits, List.length_map, List.length_take, List.length_drop, reachBytes] at hr
    exact ⟨xs, by omega, h4⟩
end
end Go.Vc

set_option linter.unusedSimpArgs false
set_option linter.unusedVariables false
set_option maxRecDepth 100000
namespace Go.Proofs.YthlbhnefldaoiaaDoor
open Go Go.Vc Go.RowKit Go.Proofs
section
variable {H : Type} {enc : TypeId × Value → H} {P : Program} {W : World} {held : Bool}
theorem open_rowsN {α : Type} {t e : TypeId} (s : Nat) (cells : α → List Value) (p : α → Prop) (hu : P.underlying t = some (.slice e)) (hs : P.cellsOf e = s) (hs0 : 0 < s) (hlen : ∀ o, (cells o).length = s)
    (hc : ∀ (n : Nat) (cs : List Value) (y : DataW H × List MemPlace), DataW.trod enc P W 0 (fun _ => true) held n e cs = some y → ∃ o, cs = cells o ∧ p o)
    {fuel : Nat} {v : Value} {x : DataW H × List MemPlace} (h : DataW.trod enc P W 0 (fun _ => true) held fuel t [v] = some x) :
    ∃ os : List α, os.length ≤ maxLen ∧ Sl W s v os.length (os.flatMap cells) ∧ ∀ o ∈ os, p o := by
  rcases DataW.trod_slice hu h with ⟨hcs, hd⟩ | ⟨a, len, cap, elems, rest, n, -, hcs, hx, -, hl, hm, hle, hel, -, -⟩
  · simp only [List.cons.injEq, and_true] at hcs
    subst hcs
    exact ⟨[], Nat.zero_le _, Sl.nil W s, fun o h => by cases h⟩
  · simp only [List.cons.injEq, and_true] at hcs
    subst hcs
    subst hx
    have key : ∀ i, i < len → ∃ o : α, (∀ j v, (cells o)[j]? = some v → W.cell? (a.add (i * s + j)) = some v) ∧ p o := by
      intro i hi
      have he := hel i hi
      rw [List.getElem?_eq_getElem (by omega), hs, Option.bind_eq_some_iff] at he
      obtain ⟨cs, h1, h2⟩ := he
      obtain ⟨-, h4, h5⟩ := World.cells?_some h1
      obtain ⟨o, ho, hp⟩ := hc n cs _ h2
      subst ho
      refine ⟨o, fun j v hj => ?_, hp⟩
      have hjs : j < s := by have := (List.getElem?_eq_some_iff.1 hj).1; rw [hlen] at this; exact this
      have := h5 j hjs
      rw [← hj, ← this, addr_add]
    obtain ⟨os, ho1, ho2⟩ := list_of _ len key
    refine ⟨os, by omega, ⟨?_, ?_⟩, fun o ho => ?_⟩
    · clear ho2 ho1
      induction os with
      | nil => simp
      | cons o os ih => rw [List.flatMap_cons, List.length_append, hlen, ih, List.length_cons, Nat.add_mul]; omega
    · by_cases h0 : len = 0
      · subst h0; exact .inl ⟨ho1, _, _, rfl⟩
      · obtain ⟨b, off, spot⟩ := a
        have h00 := (ho2 0 (by omega)).1 0 ((cells (os[0]'(by omega)))[0]'(by rw [hlen]; exact hs0)) (List.getElem?_eq_getElem _)
        have hsp : spot = none := by simpa [Addr.add] using World.cell?_spot h00
        subst hsp
        refine .inr ⟨b, off, cap, by rw [ho1], by omega, fun idx u hu => ?_⟩
        obtain ⟨i, j, hi, h1, h2⟩ := flatMap_get hlen os idx u hu
        have h3 := (ho2 i hi).1 j u h2
        rw [h1, ← h3, add_none]
    · obtain ⟨i, hi, rfl⟩ := List.getElem_of_mem ho
      exact (ho2 i hi).2
theorem open_fieldN {t u : TypeId} {fs : Array Field} {f : Field} (i off s : Nat) (hu : P.underlying t = some (.struct fs)) (hf : fs[i]? = some f) (ht : f.type = u) (ho : f.offset = off) (hs : P.cellsOf u = s) {fuel : Nat} {cs : List Value} {x : DataW H × List MemPlace}
    (h : DataW.trod enc P W 0 (fun _ => true) held fuel t cs = some x) : ∃ n y, DataW.trod enc P W 0 (fun _ => true) held n u ((cs.drop off).take s) = some y := by
  subst ht ho hs
  obtain ⟨xs, n, -, hx, -, hl, hall⟩ := DataW.trod_struct hu h
  have hi : i < fs.size := (Array.getElem?_eq_some_iff.1 hf).1
  have h1 := hall i f hf
  rw [List.getElem?_eq_getElem (by omega)] at h1
  exact ⟨n, _, h1⟩
theorem three_cells {cs : List Value} (h : cs.length = 3) : ∃ a b c, cs = [a, b, c] := by
  match cs, h with
  | [a, b, c], _ => exact ⟨a, b, c, rfl⟩

theorem fm_one {α : Type} {f : α → Value} : ∀ l : List α, (l.flatMap fun x => [f x]) = l.map f
  | [] => rfl
  | x :: l => by rw [List.flatMap_cons, fm_one l]; rfl
theorem open_u8 {n : Nat} {cs : List Value} {y : DataW H × List MemPlace} (h : DataW.trod enc Tryd.prog W 0 (fun _ => true) held n 5 cs = some y) : ∃ c : UInt8, cs = [bv c] ∧ True := by
  obtain ⟨k, hk, -, wk⟩ := DataW.trod_int Tryd.underlying5 h
  simp [Lit.wf, IntKind.min, IntKind.max, IntKind.signed, IntKind.bits] at wk
  refine ⟨UInt8.ofNat k.toNat, ?_, trivial⟩
  rw [hk]
  have h1 : (UInt8.ofNat k.toNat).toNat = k.toNat := by simp; omega
  unfold bv
  rw [h1, Int.toNat_of_nonneg (by omega)]
theorem open_bytes {fuel : Nat} {v : Value} {x : DataW H × List MemPlace} (h : DataW.trod enc Tryd.prog W 0 (fun _ => true) held fuel 34 [v] = some x) : ∃ R : List UInt8, By W v R ∧ R.length ≤ 9223372036854775807 := by
  obtain ⟨R, h1, h2, -⟩ := open_rowsN 1 (fun c : UInt8 => [bv c]) (fun _ => True) Tryd.underlying34 (by kernel_rfl) (by decide) (fun _ => rfl) (fun n cs y hy => open_u8 hy) h
  rw [fm_one] at h2
  exact ⟨R, h2, by rw [maxLen_eq] at h1; omega⟩
theorem open_i64 {n : Nat} {cs : List Value} {y : DataW H × List MemPlace} (h : DataW.trod enc Tryd.prog W 0 (fun _ => true) held n 3 cs = some y) : ∃ c : Int, cs = [.int .i64 c] ∧ (-9223372036854775808 ≤ c ∧ c ≤ 9223372036854775807) := by
  obtain ⟨k, hk, -, wk⟩ := DataW.trod_int Tryd.underlying3 h
  simp [Lit.wf, IntKind.min, IntKind.max, IntKind.signed, IntKind.bits] at wk
  exact ⟨k, hk, by omega⟩
def bI (c : Int) : Prop := -9223372036854775808 ≤ c ∧ c ≤ 9223372036854775807
structure BIns (x : Ins) : Prop where
  op : bI x.op
  a : bI x.a
  b : bI x.b
  c : bI x.c
theorem four_cells {cs : List Value} (h : cs.length = 4) : ∃ a b c d, cs = [a, b, c, d] := by
  match cs, h with
  | [a, b, c, d], _ => exact ⟨a, b, c, d, rfl⟩
theorem open_instr {n : Nat} {cs : List Value} {y : DataW H × List MemPlace} (h : DataW.trod enc Tryd.prog W 0 (fun _ => true) held n 28 cs = some y) : ∃ x : Ins, cs = insV x ∧ BIns x := by
  have hl := open_struct_len (s := 4) Tryd.underlying28 (by kernel_rfl) h
  obtain ⟨a, b, c, d, rfl⟩ := four_cells hl
  obtain ⟨n0, y0, h0⟩ := open_fieldN 0 0 1 Tryd.underlying28 rfl rfl rfl (by kernel_rfl) h
  obtain ⟨n1, y1, h1⟩ := open_fieldN 1 1 1 Tryd.underlying28 rfl rfl rfl (by kernel_rfl) h
  obtain ⟨n2, y2, h2⟩ := open_fieldN 2 2 1 Tryd.underlying28 rfl rfl rfl (by kernel_rfl) h
  obtain ⟨n3, y3, h3⟩ := open_fieldN 3 3 1 Tryd.underlying28 rfl rfl rfl (by kernel_rfl) h
  obtain ⟨k0, e0, b0⟩ := open_i64 h0
  obtain ⟨k1, e1, b1⟩ := open_i64 h1
  obtain ⟨k2, e2, b2⟩ := open_i64 h2
  obtain ⟨k3, e3, b3⟩ := open_i64 h3
  simp only [List.drop_zero, List.drop_succ_cons, List.take_succ_cons, List.take_zero, List.cons.injEq, and_true] at e0 e1 e2 e3
  exact ⟨⟨k0, k1, k2, k3⟩, by rw [e0, e1, e2, e3]; rfl, ⟨b0, b1, b2, b3⟩⟩
theorem open_instrs {fuel : Nat} {v : Value} {x : DataW H × List MemPlace} (h : DataW.trod enc Tryd.prog W 0 (fun _ => true) held fuel 23 [v] = some x) : ∃ R : List Ins, Sl W 4 v R.length (inss R) ∧ R.length ≤ 9223372036854775807 ∧ ∀ x ∈ R, BIns x := by
  obtain ⟨R, h1, h2, h3⟩ := open_rowsN 4 insV BIns Tryd.underlying23 (by kernel_rfl) (by decide) (fun _ => rfl) (fun n cs y hy => open_instr hy) h
  exact ⟨R, h2, by rw [maxLen_eq] at h1; omega, h3⟩
theorem open_intl {fuel : Nat} {v : Value} {x : DataW H × List MemPlace} (h : DataW.trod enc Tryd.prog W 0 (fun _ => true) held fuel 24 [v] = some x) : ∃ R : List Int, Sl W 1 v R.length (zs R) ∧ R.length ≤ 9223372036854775807 ∧ ∀ x ∈ R, bI x := by
  obtain ⟨R, h1, h2, h3⟩ := open_rowsN 1 (fun c : Int => [Value.int .i64 c]) bI Tryd.underlying24 (by kernel_rfl) (by decide) (fun _ => rfl) (fun n cs y hy => open_i64 hy) h
  rw [fm_one] at h2
  exact ⟨R, h2, by rw [maxLen_eq] at h1; omega, h3⟩
/-- a program that is handed in -/
structure BPg (p : Pg) : Prop where
  lc : p.code.length ≤ 9223372036854775807
  le : p.ent.length ≤ 9223372036854775807
  ins : ∀ x ∈ p.code, BIns x
  ent : ∀ x ∈ p.ent, bI x
theorem open_pg {n : Nat} {cs : List Value} {y : DataW H × List MemPlace} (h : DataW.trod enc Tryd.prog W 0 (fun _ => true) held n 26 cs = some y) : ∃ p cv ev_, cs = pgV p cv ev_ ∧ PgR W p cv ev_ ∧ BPg p := by
  have hl := open_struct_len (s := 3) Tryd.underlying26 (by kernel_rfl) h
  obtain ⟨a, b, c, rfl⟩ := three_cells hl
  obtain ⟨n0, y0, h0⟩ := open_fieldN 0 0 1 Tryd.underlying26 rfl rfl rfl (by kernel_rfl) h
  obtain ⟨n1, y1, h1⟩ := open_fieldN 1 1 1 Tryd.underlying26 rfl rfl rfl (by kernel_rfl) h
  obtain ⟨n2, y2, h2⟩ := open_fieldN 2 2 1 Tryd.underlying26 rfl rfl rfl (by kernel_rfl) h
  obtain ⟨k0, e0, -⟩ := DataW.trod_bool Tryd.underlying4 h0
  simp only [List.drop_zero, List.drop_succ_cons, List.take_succ_cons, List.take_zero] at h1 h2 e0
  obtain ⟨L, g1, g2, g3⟩ := open_instrs h1
  obtain ⟨E, g4, g5, g6⟩ := open_intl h2
  simp only [List.cons.injEq, and_true] at e0
  exact ⟨⟨k0, L, E⟩, b, c, by rw [e0]; rfl, ⟨g1, g4⟩, ⟨g2, g5, g3, g6⟩⟩
end

end Go.Proofs.YthlbhnefldaoiaaDoor

set_option linter.unusedSimpArgs false
set_option linter.unusedVariables false
set_option maxRecDepth 100000
namespace Go.Proofs.YthlbhnefldaoiaaDoor
open Go Go.Vc Go.RowKit Go.Proofs

theorem madR {w : World} {b1 b2 : Nat} {t1 t2 : TypeId} {cv ev_ : Value} {e : Bool} {L : List Ins} {n m : Nat} (hl : L.length = n + 1) (h1 : w.ownsRow b1 t1 4 cv (n + 1) (inss L)) (h2 : w.ownsRow b2 t2 1 ev_ m (zs (List.replicate m 0))) : PgR w ⟨e, L, List.replicate m 0⟩ cv ev_ := by
  refine ⟨?_, ?_⟩
  · show Sl w 4 cv L.length (inss L)
    rw [hl]; exact Sl.own h1
  · show Sl w 1 ev_ (List.replicate m (0 : Int)).length (zs (List.replicate m (0 : Int)))
    rw [List.length_replicate]; exact Sl.own h2
theorem madC {w : World} {base g N c k : Nat} {t : TypeId} {L : List Ins} (h : w.ownsRow base t 4 (.slice (some ⟨g, 0, none⟩) N c) N (inss L)) (hl : L.length = N) (hk : k < N) : Cells w g (0 + k * 4) (insV (L.getD k in0)) := by
  have h1 := Sl.own h
  have e : L.getD k in0 = L[k]'(by omega) := by rw [List.getD_eq_getElem?_getD, List.getElem?_eq_getElem (by omega)]; rfl
  rw [e]
  subst hl
  exact ins_at h1 hk
theorem set_self {L : List Ins} {i : Nat} (hi : i < L.length) : L.set i (L.getD i in0) = L := by
  apply List.ext_getElem?
  intro j
  by_cases hj : j = i
  · subst hj; rw [List.getElem?_set_self hi, List.getD_eq_getElem?_getD, List.getElem?_eq_getElem hi]; rfl
  · rw [List.getElem?_set_ne (by omega)]
theorem madA {L : List Ins} {i : Nat} {x : Ins} {a v : Int} (hi : i < L.length) : (inss (L.set i { x with a := a })).set (i * 4 + 1) (.int .i64 v) = inss (L.set i { x with a := v }) := by
  rw [inss_setA _ i (by rw [List.length_set]; exact hi), List.set_set, List.getElem_set_self]

set_option maxHeartbeats 64000000 in
theorem made_spec (p : Pg) (cv ev_ : Value) (most : Nat) (w0 : World) (hp : PgR w0 p cv ev_) (hb : BPg p) (hmost : most ≤ 1000) : Ca Tryd.prog 17 #[.agg (pgV p cv ev_).toArray, .int .i64 (most : Int)] w0 (fun r w' => ∃ q cu eu, r = .agg (pgV q cu eu).toArray ∧ OkP q ∧ 0 < q.code.length ∧ q.code.length ≤ most + 1 ∧ 0 < q.ent.length ∧ w'.ownsRow w0.heap.size 28 4 cu q.code.length (inss q.code) ∧ w'.ownsRow w0.heap.size 3 1 eu q.ent.length (zs q.ent) ∧ Ext w0 w') := by
  obtain ⟨H0, hH0⟩ : ∃ H, H = w0.heap.size := ⟨_, rfl⟩
  rw [← hH0]
  have hpo := hp.one.2.2
  have hlc := hb.lc
  have hle := hb.le
  obtain ⟨n, hn⟩ : ∃ n : Nat, n = min p.code.length most := ⟨_, rfl⟩
  have hn2 : (if (most : Int) < (p.code.length : Int) then (most : Int) else (p.code.length : Int)) = (n : Int) := by split <;> omega
  obtain ⟨m0, hm0⟩ : ∃ m0 : Nat, m0 = min p.ent.length 20 := ⟨_, rfl⟩
  have hm2 : (if (20 : Int) < (p.ent.length : Int) then (20 : Int) else (p.ent.length : Int)) = (m0 : Int) := by split <;> omega
  obtain ⟨m, hm⟩ : ∃ m : Nat, m = m0 + 1 := ⟨_, rfl⟩
  have hn1 : n ≤ 1000 ∧ n ≤ p.code.length ∧ n ≤ most := by omega
  have hm1 : 1 ≤ m ∧ m ≤ 21 := by omega
  refine Ca.of Tryd.func17 Tryd.ntmps17 rfl rfl ?_
  refine W.seq ?_
  refine W.region ?_
  refine WL.c rfl (o_boxB rfl ?_)
  intro w2 hC2 hx2 hs2
  obtain ⟨b2, hb2⟩ : ∃ b, b = w0.heap.size := ⟨_, rfl⟩
  rw [← hb2] at hC2 ⊢
  replace hC2 : w2.heap[b2]? = some (.cells (pgV p cv ev_).toArray 26 (0, 0)) := hC2
  have hx : Ext w0 w2 := hx2
  refine WL.c rfl (o_alB TI26 ?_)
  intro w4 hC4 hx4 hs4
  obtain ⟨b4, hb4⟩ : ∃ b, b = w2.heap.size := ⟨_, rfl⟩
  rw [← hb4] at hC4 ⊢
  replace hC4 : w4.heap[b4]? = some (.cells ([.bool false, .slice none 0 0, .slice none 0 0]).toArray 26 (0, 0)) := hC4
  have hg4 : w0.heap.size ≤ b4 := by have := hx.size; omega
  have hl2 := (Array.getElem?_eq_some_iff.1 hC2).1
  have hb24 : b2 < b4 := by omega
  replace hx := hx.tr hx4
  replace hC2 := hx4.blk hC2 (fun h => h)
  refine WL.nil ?_
  refine W.seq ?_
  refine W.region ?_
  refine WL.c rfl (o_fa 0 TI26 rfl TI4 rfl rfl ?_)
  refine WL.c rfl (o_ld TI4 rfl rfl (cell_of hC2 rfl) ?_)
  refine WL.c rfl (o_bldC (cs := [_, (.slice none 0 0), (.slice none 0 0)]) TI26 (Sizes.cons TI4 (Sizes.cons TI23 (Sizes.cons TI24 Sizes.nil))) rfl (lcp (show _ = Value.bool _ from rfl) lnp) rfl rfl ?_)
  refine WL.c rfl (o_alB TI26 ?_)
  intro wa hCa hxa hsa
  refine WL.u (o_stA TI26 rfl (show _ = Value.agg ([.bool p.enc, .slice none 0 0, .slice none 0 0]).toArray from rfl) rfl rfl hCa rfl ?_)
  intro wb5 hC5 hob hsb
  have hxb := Ext.own hxa (Nat.le_refl _) hob
  obtain ⟨b5, hb5⟩ : ∃ b, b = w4.heap.size := ⟨_, rfl⟩
  rw [← hb5] at hC5 ⊢
  clear hCa hxa hsa hob hsb
  have hl4 := (Array.getElem?_eq_some_iff.1 hC4).1
  have hb45 : b4 < b5 := by omega
  replace hx := hx.tr hxb
  replace hC2 := hxb.blk hC2 (fun h => h)
  replace hC4 := hxb.blk hC4 (fun h => h)
  clear hxb
  refine WL.nil ?_
  refine W.seq ?_
  refine W.seq ?_
  refine W.region ?_
  refine WL.cut (fun e1 w1 => e1 40 = .bool (decide (0 < p.code.length ∧ p.code.length ≤ most ∧ 0 < p.ent.length ∧ (chk p).1 = 0)) ∧ e1 1 = .int .i64 (most : Int) ∧ e1 2 = .pointer (some ⟨b2, 0, none⟩) ∧ e1 4 = .pointer (some ⟨b4, 0, none⟩) ∧ e1 5 = .pointer (some ⟨b5, 0, none⟩) ∧ w1.heap[b2]? = some (.cells (pgV p cv ev_).toArray 26 (0, 0)) ∧ w1.heap[b4]? = some (.cells ([.bool false, .slice none 0 0, .slice none 0 0]).toArray 26 (0, 0)) ∧ w1.heap[b5]? = some (.cells #[.bool p.enc, .slice none 0 0, .slice none 0 0] 26 (0, 0)) ∧ Ext w0 w1) ?_ ?_
  · -- region 2
    refine WL.c rfl (o_fa 1 TI26 rfl TI23 rfl rfl ?_)
    refine WL.c rfl (o_ld TI23 rfl rfl (cell_of hC2 rfl) ?_)
    refine WL.c rfl (o_lenR TI23 rfl (hp.code.ext hx) ?_)
    refine WL.c rfl (o_gt rfl rfl ?_)
    refine WL.c rfl (o_mvh (show _ = Value.bool _ from rfl) ?_)
    refine WL.sp 4 rfl (fun g22 => ?_) (fun g22 => ?_)
    · skip
      refine WL.g rfl (g22) rfl (o_fa 1 TI26 rfl TI23 rfl rfl ?_)
      refine WL.g rfl (g22) rfl (o_ld TI23 rfl rfl (cell_of hC2 rfl) ?_)
      refine WL.g rfl (g22) rfl (o_lenR TI23 rfl (hp.code.ext hx) ?_)
      refine WL.g rfl (g22) rfl (o_mvh (show _ = Value.int _ _ from rfl) ?_)
      refine WL.g rfl (g22) rfl (o_le rfl rfl ?_)
      refine WL.c rfl (o_pickA rfl rfl ?_)
      refine WL.c rfl (o_mvh (show _ = Value.bool _ from rfl) ?_)
      refine WL.sp 11 rfl (fun g29 => ?_) (fun g29 => ?_)
      · skip
        refine WL.g rfl (g29) rfl (o_fa 2 TI26 rfl TI24 rfl rfl ?_)
        refine WL.g rfl (g29) rfl (o_ld TI24 rfl rfl (cell_of hC2 rfl) ?_)
        refine WL.g rfl (g29) rfl (o_lenR TI24 rfl (hp.ent.ext hx) ?_)
        refine WL.g rfl (g29) rfl (o_gt rfl rfl ?_)
        refine WL.c rfl (o_pickA rfl rfl ?_)
        refine WL.c rfl (o_mvh (show _ = Value.bool _ from rfl) ?_)
        refine WL.sp 17 rfl (fun g35 => ?_) (fun g35 => ?_)
        · skip
          refine WL.g rfl (g35) rfl (o_ldA TI26 rfl rfl (show Cells _ b2 0 (pgV p cv ev_) from Cells.of hC2 0 _ (by simp)) rfl ?_)
          refine WL.g rfl (g35) rfl (o_call Tryd.call35 (lc rfl ln) ((rcheck_spec p cv ev_ _ (hp.ext hx) (by have h9 := g29; simp at h9; omega) (by omega)).mono ?_))
          rintro v37 w37 ⟨rfl, hx37⟩
          replace hx := hx.tr hx37
          replace hC2 := hx37.blk hC2 (fun h => h)
          replace hC4 := hx37.blk hC4 (fun h => h)
          replace hC5 := hx37.blk hC5 (fun h => h)
          refine WL.g rfl (g35) rfl (o_fldT TI32 rfl rfl rfl TI30 rfl rfl rfl ?_)
          refine WL.g rfl (g35) rfl (o_eq rfl rfl ?_)
          refine WL.c rfl (o_pickA rfl rfl ?_)
          exact WL.nil (⟨congrArg Value.bool (by rw [Bool.eq_iff_iff, decide_eq_true_iff]; first | (simp_all; done) | (simp_all; omega)), rfl, rfl, rfl, rfl, hC2, hC4, hC5, hx⟩)
        · skip
          refine WL.s rfl (g35) rfl ?_
          refine WL.s rfl (g35) rfl ?_
          refine WL.s rfl (g35) rfl ?_
          refine WL.s rfl (g35) rfl ?_
          refine WL.c rfl (o_pickF rfl (g35) ?_)
          exact WL.nil (⟨congrArg Value.bool (by rw [Bool.eq_iff_iff, decide_eq_true_iff]; first | (simp_all; done) | (simp_all; omega)), rfl, rfl, rfl, rfl, hC2, hC4, hC5, hx⟩)
      · skip
        refine WL.s rfl (g29) rfl ?_
        refine WL.s rfl (g29) rfl ?_
        refine WL.s rfl (g29) rfl ?_
        refine WL.s rfl (g29) rfl ?_
        refine WL.c rfl (o_pickF rfl (g29) ?_)
        refine WL.c rfl (o_mvh (show _ = Value.bool _ from rfl) ?_)
        refine WL.s rfl (rfl) rfl ?_
        refine WL.s rfl (rfl) rfl ?_
        refine WL.s rfl (rfl) rfl ?_
        refine WL.s rfl (rfl) rfl ?_
        refine WL.c rfl (o_pickF rfl (rfl) ?_)
        exact WL.nil (⟨congrArg Value.bool (by rw [Bool.eq_iff_iff, decide_eq_true_iff]; first | (simp_all; done) | (simp_all; omega)), rfl, rfl, rfl, rfl, hC2, hC4, hC5, hx⟩)
    · skip
      refine WL.s rfl (g22) rfl ?_
      refine WL.s rfl (g22) rfl ?_
      refine WL.s rfl (g22) rfl ?_
      refine WL.s rfl (g22) rfl ?_
      refine WL.s rfl (g22) rfl ?_
      refine WL.c rfl (o_pickF rfl (g22) ?_)
      refine WL.c rfl (o_mvh (show _ = Value.bool _ from rfl) ?_)
      refine WL.s rfl (rfl) rfl ?_
      refine WL.s rfl (rfl) rfl ?_
      refine WL.s rfl (rfl) rfl ?_
      refine WL.s rfl (rfl) rfl ?_
      refine WL.c rfl (o_pickF rfl (rfl) ?_)
      refine WL.c rfl (o_mvh (show _ = Value.bool _ from rfl) ?_)
      refine WL.s rfl (rfl) rfl ?_
      refine WL.s rfl (rfl) rfl ?_
      refine WL.s rfl (rfl) rfl ?_
      refine WL.s rfl (rfl) rfl ?_
      refine WL.c rfl (o_pickF rfl (rfl) ?_)
      exact WL.nil (⟨congrArg Value.bool (by rw [Bool.eq_iff_iff, decide_eq_true_iff]; first | (simp_all; done) | (simp_all; omega)), rfl, rfl, rfl, rfl, hC2, hC4, hC5, hx⟩)
  rintro e w ⟨h40, h1, h2, h4, h5, hC2, hC4, hC5, hx⟩
  refine W.cond h40 (fun c40 => ?_) (fun c40 => ?_)
  · try simp only [decide_eq_true_eq, decide_eq_false_iff_not, Bool.not_eq_true', Bool.not_eq_false', Bool.and_eq_true, Bool.or_eq_true, Bool.and_eq_false_iff, Bool.or_eq_false_iff] at c40
    obtain ⟨hc1, hc2, he1, hz⟩ := c40
    have hok := chk_zero.1 hz
    have hne1 := hok.read.ne
    refine W.seq ?_
    refine W.region ?_
    refine WL.c rfl (o_fa 1 TI26 rfl TI23 rfl h5 ?_)
    refine WL.c rfl (o_ld TI23 rfl rfl (cell_of hC5 rfl) ?_)
    refine WL.c rfl (o_fa 1 TI26 rfl TI23 rfl h2 ?_)
    refine WL.c rfl (o_ld TI23 rfl rfl (cell_of hC2 rfl) ?_)
    refine WL.c rfl (o_apO (w0.heap.size) TI23 TI28 rfl rfl (World.ownsRow_nil _ _ _ _) (hp.code.ext hx) rfl (by decide) (one_inss _) (by rw [maxLen_eq]; omega) (by omega) hx.size ?_)
    intro v45 w45 hr45 ho45 _hb _hk
    rw [Nat.zero_add, List.nil_append] at hr45
    have hx45 : Ext w w45 := ho45.mono (fun j _ h => by cases h)
    replace hx := hx.tr hx45
    replace hC2 := hx45.blk hC2 (fun h => h)
    replace hC4 := hx45.blk hC4 (fun h => h)
    replace hC5 := hx45.blk hC5 (fun h => h)
    refine WL.c rfl (o_fa 1 TI26 rfl TI23 rfl h5 ?_)
    refine WL.u (o_stB TI23 rfl (show _ = v45 from rfl) (own_one hr45) hC5 (show 1 < 3 by decide) ?_)
    intro w46 hB5 ho46 hs46
    replace hC2 := ho46.blk hC2 (by omega)
    replace hC4 := ho46.blk hC4 (by omega)
    replace hx := hx.trans' ho46 (fun _ h => h) (fun q hq he => by omega)
    replace hr45 := own_only hr45 ho46 (fun q hq he => by subst he; exact own_off hr45 hC5 (by decide) hq)
    clear hC5
    have hC5 : w46.heap[b5]? = some (.cells #[.bool p.enc, v45, .slice none 0 0] 26 (0, 0)) := hB5
    clear hB5
    refine WL.nil ?_
    refine W.seq ?_
    refine W.region ?_
    refine WL.c rfl (o_fa 2 TI26 rfl TI24 rfl h5 ?_)
    refine WL.c rfl (o_ld TI24 rfl rfl (cell_of hC5 rfl) ?_)
    refine WL.c rfl (o_fa 2 TI26 rfl TI24 rfl h2 ?_)
    refine WL.c rfl (o_ld TI24 rfl rfl (cell_of hC2 rfl) ?_)
    refine WL.c rfl (o_apO (w0.heap.size) TI24 TI3 rfl rfl (World.ownsRow_nil _ _ _ _) (hp.ent.ext hx) rfl (by decide) (one_zs _) (by rw [maxLen_eq]; omega) (by omega) hx.size ?_)
    intro v51 w51 hr51 ho51 _hb _hk
    rw [Nat.zero_add, List.nil_append] at hr51
    have hx51 : Ext w46 w51 := ho51.mono (fun j _ h => by cases h)
    replace hr45 := own_ext hr45 hx51
    replace hx := hx.tr hx51
    replace hC2 := hx51.blk hC2 (fun h => h)
    replace hC4 := hx51.blk hC4 (fun h => h)
    replace hC5 := hx51.blk hC5 (fun h => h)
    refine WL.c rfl (o_fa 2 TI26 rfl TI24 rfl h5 ?_)
    refine WL.u (o_stB TI24 rfl (show _ = v51 from rfl) (own_one hr51) hC5 (show 2 < 3 by decide) ?_)
    intro w52 hB5 ho52 hs52
    replace hC2 := ho52.blk hC2 (by omega)
    replace hC4 := ho52.blk hC4 (by omega)
    replace hx := hx.trans' ho52 (fun _ h => h) (fun q hq he => by omega)
    replace hr45 := own_only hr45 ho52 (fun q hq he => by subst he; exact own_off hr45 hC5 (by decide) hq)
    replace hr51 := own_only hr51 ho52 (fun q hq he => by subst he; exact own_off hr51 hC5 (by decide) hq)
    clear hC5
    have hC5 : w52.heap[b5]? = some (.cells #[.bool p.enc, v45, v51] 26 (0, 0)) := hB5
    clear hB5
    refine WL.nil ?_
    refine W.seq ?_
    refine W.region ?_
    refine WL.c rfl (o_ldA TI26 rfl h5 (show Cells _ b5 0 (pgV p v45 v51) from Cells.of hC5 0 _ (by simp [pgV])) rfl ?_)
    refine WL.u (o_stA TI26 h4 rfl rfl (by first | rfl | (simp [pgV, own_one hr45, own_one hr51]; rfl)) hC4 rfl ?_)
    intro w4s hB4 ho4 hs4s
    replace hx := hx.trans' ho4 (fun _ h => h) (fun q hq he => by omega)
    refine WL.nil ?_
    refine W.ret ?_
    refine retC rfl TI26 rfl h4 (cells_all (by assumption)) rfl ?_
    exact ⟨p, v45, v51, rfl, hok, hc1, by omega, he1, own_mono (own_only hr45 ho4 (fun q hq he => by subst he; exact own_off hr45 hC4 (by decide) hq)) (by omega), own_mono (own_only hr51 ho4 (fun q hq he => by subst he; exact own_off hr51 hC4 (by decide) hq)) (by omega), hx⟩
  · try simp only [decide_eq_true_eq, decide_eq_false_iff_not, Bool.not_eq_true', Bool.not_eq_false', Bool.and_eq_true, Bool.or_eq_true, Bool.and_eq_false_iff, Bool.or_eq_false_iff] at c40
    refine W.skip ?_
    refine W.seq ?_
    refine W.region ?_
    refine WL.c rfl (o_fa 1 TI26 rfl TI23 rfl h2 ?_)
    refine WL.c rfl (o_ld TI23 rfl rfl (cell_of hC2 rfl) ?_)
    refine WL.c rfl (o_lenR TI23 rfl (hp.code.ext hx) ?_)
    refine WL.c rfl (o_mvh h1 ?_)
    refine WL.c rfl (o_minI rfl rfl ?_)
    rw [hn2]
    refine WL.c rfl (o_ash (show _ = Value.int _ _ from rfl) ?_)
    refine WL.nil ?_
    refine W.seq ?_
    refine W.region ?_
    refine WL.c rfl (o_mvh (show _ = Value.int _ _ from rfl) ?_)
    refine WL.c rfl (o_addi rfl rfl (by omega) ?_)
    refine WL.c rfl (o_mk (n := n + 1) TI23 TI28 (show _ = Value.int .i64 ((n + 1 : Nat) : Int) from rfl) (show _ = Value.int .i64 ((n + 1 : Nat) : Int) from rfl) (by omega) (by omega) ?_)
    have hL := own_mono (own_made4 (w := w) (el := 28) (n := n + 1) (by omega)) hx.size
    have hxa : Ext w (w.alloc (.cells (madeCells (Value.agg #[.int .i64 0, .int .i64 0, .int .i64 0, .int .i64 0]).cells ((n + 1) * 4)) 28)) := Only.alloc _ _
    obtain ⟨gc, hgc⟩ : ∃ g, g = w.heap.size := ⟨_, rfl⟩
    rw [← hgc] at hL ⊢
    generalize w.alloc (.cells (madeCells (Value.agg #[.int .i64 0, .int .i64 0, .int .i64 0, .int .i64 0]).cells ((n + 1) * 4)) 28) = w61 at hL hxa ⊢
    replace hx := hx.tr hxa
    replace hC2 := hxa.blk hC2 (fun h => h)
    replace hC4 := hxa.blk hC4 (fun h => h)
    replace hC5 := hxa.blk hC5 (fun h => h)
    refine WL.c rfl (o_fa 1 TI26 rfl TI23 rfl h5 ?_)
    refine WL.u (o_stB TI23 rfl (show _ = Value.slice (some ⟨gc, 0, none⟩) (n + 1) (n + 1) from rfl) rfl hC5 (show 1 < 3 by decide) ?_)
    intro w62 hB5 ho62 hs62
    replace hC2 := ho62.blk hC2 (by omega)
    replace hC4 := ho62.blk hC4 (by omega)
    replace hx := hx.trans' ho62 (fun _ h => h) (fun q hq he => by omega)
    replace hL := own_only hL ho62 (fun q hq he => by subst he; exact own_off hL hC5 (by decide) hq)
    clear hC5
    have hC5 : w62.heap[b5]? = some (.cells #[.bool p.enc, Value.slice (some ⟨gc, 0, none⟩) (n + 1) (n + 1), .slice none 0 0] 26 (0, 0)) := hB5
    clear hB5
    refine WL.nil ?_
    refine W.seq ?_
    refine W.region ?_
    refine WL.c rfl (o_fa 2 TI26 rfl TI24 rfl h2 ?_)
    refine WL.c rfl (o_ld TI24 rfl rfl (cell_of hC2 rfl) ?_)
    refine WL.c rfl (o_lenR TI24 rfl (hp.ent.ext hx) ?_)
    refine WL.c rfl (o_minI rfl rfl ?_)
    rw [hm2]
    refine WL.c rfl (o_addi rfl rfl (by omega) ?_)
    refine WL.c rfl (o_mk (n := m) TI24 TI3 (show Value.int .i64 ((m0 : Int) + 1) = Value.int .i64 (m : Int) from by rw [hm]; rfl) (show Value.int .i64 ((m0 : Int) + 1) = Value.int .i64 (m : Int) from by rw [hm]; rfl) (by omega) (by omega) ?_)
    have hE := own_mono (own_made1 (w := w62) (el := 3) (l := m) (n := m) (z := .int .i64 0) rfl (Nat.le_refl _) (by omega)) hx.size
    rw [show List.replicate m (Value.int .i64 0) = zs (List.replicate m 0) from by rw [zs, List.map_replicate]] at hE
    have hxa : Ext w62 (w62.alloc (.cells (madeCells (Value.int .i64 0).cells (m * 1)) 3)) := Only.alloc _ _
    obtain ⟨ge, hge⟩ : ∃ g, g = w62.heap.size := ⟨_, rfl⟩
    rw [← hge] at hE ⊢
    generalize w62.alloc (.cells (madeCells (Value.int .i64 0).cells (m * 1)) 3) = w68 at hE hxa ⊢
    replace hx := hx.tr hxa
    replace hL := own_ext hL hxa
    replace hC2 := hxa.blk hC2 (fun h => h)
    replace hC4 := hxa.blk hC4 (fun h => h)
    replace hC5 := hxa.blk hC5 (fun h => h)
    refine WL.c rfl (o_fa 2 TI26 rfl TI24 rfl h5 ?_)
    refine WL.u (o_stB TI24 rfl (show _ = Value.slice (some ⟨ge, 0, none⟩) m m from rfl) rfl hC5 (show 2 < 3 by decide) ?_)
    intro w69 hB5 ho69 hs69
    replace hC2 := ho69.blk hC2 (by omega)
    replace hC4 := ho69.blk hC4 (by omega)
    replace hx := hx.trans' ho69 (fun _ h => h) (fun q hq he => by omega)
    replace hL := own_only hL ho69 (fun q hq he => by subst he; exact own_off hL hC5 (by decide) hq)
    replace hE := own_only hE ho69 (fun q hq he => by subst he; exact own_off hE hC5 (by decide) hq)
    clear hC5
    have hC5 : w69.heap[b5]? = some (.cells #[.bool p.enc, Value.slice (some ⟨gc, 0, none⟩) (n + 1) (n + 1), Value.slice (some ⟨ge, 0, none⟩) m m] 26 (0, 0)) := hB5
    clear hB5
    refine WL.nil ?_
    refine W.seq ?_
    refine W.seq ?_
    refine W.region ?_
    refine WL.c rfl (o_ash (show _ = Value.int _ _ from rfl) ?_)
    refine WL.nil ?_
    refine W.block ?_
    refine W.loop (fun e w => ∃ (i : Nat) (L : List Ins), i ≤ n ∧ L.length = n + 1 ∧ (∀ j, j < i → GoodI p.enc (n + 1) m (L.getD j in0)) ∧ e 2 = .pointer (some ⟨b2, 0, none⟩) ∧ e 4 = .pointer (some ⟨b4, 0, none⟩) ∧ e 5 = .pointer (some ⟨b5, 0, none⟩) ∧ e 6 = .int .i64 (n : Int) ∧ e 7 = .int .i64 (i : Int) ∧ w.ownsRow w0.heap.size 28 4 (Value.slice (some ⟨gc, 0, none⟩) (n + 1) (n + 1)) (n + 1) (inss (L)) ∧ w.ownsRow w0.heap.size 3 1 (Value.slice (some ⟨ge, 0, none⟩) m m) m (zs (List.replicate m 0)) ∧ w.heap[b2]? = some (.cells (pgV p cv ev_).toArray 26 (0, 0)) ∧ w.heap[b4]? = some (.cells ([.bool false, .slice none 0 0, .slice none 0 0]).toArray 26 (0, 0)) ∧ w.heap[b5]? = some (.cells #[.bool p.enc, Value.slice (some ⟨gc, 0, none⟩) (n + 1) (n + 1), Value.slice (some ⟨ge, 0, none⟩) m m] 26 (0, 0)) ∧ Ext w0 w) (fun e w => n - (intOf (e 7)).toNat) ?_ ?_
    · exact ⟨0, List.replicate (n + 1) in0, Nat.zero_le _, List.length_replicate .., fun j h => absurd h (Nat.not_lt_zero j), h2, h4, h5, rfl, rfl, hL, hE, hC2, hC4, hC5, hx⟩
    rintro e w ⟨i, L, hi, hLl, hG, h2, h4, h5, h6, h7, hL, hE, hC2, hC4, hC5, hx⟩
    have hm7 := h7
    refine W.seq ?_
    refine W.seq ?_
    refine W.region ?_
    refine WL.c rfl (o_mvh h7 ?_)
    refine WL.c rfl (o_mvh h6 ?_)
    refine WL.c rfl (o_lt rfl rfl ?_)
    refine WL.nil ?_
    refine W.cond rfl (fun c72 => ?_) (fun c72 => ?_)
    · try simp only [decide_eq_true_eq, decide_eq_false_iff_not, Bool.not_eq_true', Bool.not_eq_false', Bool.and_eq_true, Bool.or_eq_true, Bool.and_eq_false_iff, Bool.or_eq_false_iff] at c72
      have hi1 : i < n := by omega
      have hk1 : i < p.code.length := by omega
      obtain ⟨sb, so, sc, hve, hsc⟩ := Sl.ins hp.code hk1
      obtain ⟨x0, hx0⟩ : ∃ x, x = p.code[i] := ⟨_, rfl⟩
      rw [← hx0] at hsc
      have hB0 := hb.ins x0 (hx0 ▸ List.getElem_mem _)
      refine W.skip ?_
      refine W.seq ?_
      refine W.block ?_
      refine W.seq ?_
      refine W.region ?_
      refine WL.c rfl (o_fa 1 TI26 rfl TI23 rfl h2 ?_)
      refine WL.c rfl (o_ld TI23 rfl rfl (cell_of hC2 rfl) ?_)
      refine WL.c rfl (o_mvh h7 ?_)
      refine WL.c rfl (o_ixB (i := i) TI23 TI28 (show _ = Value.slice (some ⟨sb, so, none⟩) p.code.length sc from hve) (show _ = Value.int .i64 (i : Int) from rfl) hk1 ?_)
      refine WL.c rfl (o_fa 0 TI28 rfl TI3 rfl rfl ?_)
      refine WL.c rfl (o_ld TI3 rfl rfl (show _ = some (Value.int .i64 x0.op) from (Cells.only hsc hx (fun h => h)) 0 _ rfl) ?_)
      refine WL.c rfl (o_call Tryd.call39 (lc rfl (lc rfl (lc rfl ln))) ((brought_spec x0.op 1 20 _ hB0.op (by decide) (by decide) (by decide)).mono ?_))
      rintro v81 w81 ⟨⟨q1, rfl, hq1, hq2⟩, hw81⟩
      obtain rfl := hw81.symm
      refine WL.c rfl (o_ash (show _ = Value.int _ _ from rfl) ?_)
      refine WL.nil ?_
      refine W.seq ?_
      refine W.seq ?_
      refine W.region ?_
      refine WL.cut (fun e1 w1 => e1 91 = .bool (decide (p.enc = true ∧ q1 ≠ 9 ∧ q1 < 19)) ∧ e1 2 = .pointer (some ⟨b2, 0, none⟩) ∧ e1 4 = .pointer (some ⟨b4, 0, none⟩) ∧ e1 5 = .pointer (some ⟨b5, 0, none⟩) ∧ e1 6 = .int .i64 (n : Int) ∧ e1 7 = .int .i64 (i : Int) ∧ e1 8 = .int .i64 q1 ∧ w1 = w) ?_ ?_
      · -- region 13
        refine WL.c rfl (o_fa 0 TI26 rfl TI4 rfl h2 ?_)
        refine WL.c rfl (o_ld TI4 rfl rfl (cell_of hC2 rfl) ?_)
        refine WL.c rfl (o_mvh (show _ = Value.bool _ from rfl) ?_)
        refine WL.sp 2 rfl (fun g84 => ?_) (fun g84 => ?_)
        · skip
          refine WL.g rfl (g84) rfl (o_mvh (show _ = Value.int _ _ from rfl) ?_)
          refine WL.g rfl (g84) rfl (o_ne rfl rfl ?_)
          refine WL.c rfl (o_pickA rfl rfl ?_)
          refine WL.c rfl (o_mvh (show _ = Value.bool _ from rfl) ?_)
          refine WL.sp 6 rfl (fun g88 => ?_) (fun g88 => ?_)
          · skip
            refine WL.g rfl (g88) rfl (o_mvh (show _ = Value.int _ _ from rfl) ?_)
            refine WL.g rfl (g88) rfl (o_lt rfl rfl ?_)
            refine WL.c rfl (o_pickA rfl rfl ?_)
            exact WL.nil (⟨congrArg Value.bool (by rw [Bool.eq_iff_iff, decide_eq_true_iff]; first | (simp_all; done) | (simp_all; omega)), h2, h4, h5, h6, h7, rfl, rfl⟩)
          · skip
            refine WL.s rfl (g88) rfl ?_
            refine WL.s rfl (g88) rfl ?_
            refine WL.c rfl (o_pickF rfl (g88) ?_)
            exact WL.nil (⟨congrArg Value.bool (by rw [Bool.eq_iff_iff, decide_eq_true_iff]; first | (simp_all; done) | (simp_all; omega)), h2, h4, h5, h6, h7, rfl, rfl⟩)
        · skip
          refine WL.s rfl (g84) rfl ?_
          refine WL.s rfl (g84) rfl ?_
          refine WL.c rfl (o_pickF rfl (g84) ?_)
          refine WL.c rfl (o_mvh (show _ = Value.bool _ from rfl) ?_)
          refine WL.s rfl (rfl) rfl ?_
          refine WL.s rfl (rfl) rfl ?_
          refine WL.c rfl (o_pickF rfl (rfl) ?_)
          exact WL.nil (⟨congrArg Value.bool (by rw [Bool.eq_iff_iff, decide_eq_true_iff]; first | (simp_all; done) | (simp_all; omega)), h2, h4, h5, h6, h7, rfl, rfl⟩)
      rintro e w ⟨h91, h2, h4, h5, h6, h7, h8, hw1⟩
      subst hw1
      refine W.cut (fun e1 w1 => ∃ op, okOp p.enc op ∧ e1 2 = .pointer (some ⟨b2, 0, none⟩) ∧ e1 4 = .pointer (some ⟨b4, 0, none⟩) ∧ e1 5 = .pointer (some ⟨b5, 0, none⟩) ∧ e1 6 = .int .i64 (n : Int) ∧ e1 7 = .int .i64 (i : Int) ∧ e1 8 = .int .i64 op ∧ w1 = w) ?_ ?_
      · -- both ways
        refine W.cond h91 (fun c91 => ?_) (fun c91 => ?_)
        · try simp only [decide_eq_true_eq, decide_eq_false_iff_not, Bool.not_eq_true', Bool.not_eq_false', Bool.and_eq_true, Bool.or_eq_true, Bool.and_eq_false_iff, Bool.or_eq_false_iff] at c91
          refine W.region ?_
          refine WL.c rfl (o_fa 1 TI26 rfl TI23 rfl h2 ?_)
          refine WL.c rfl (o_ld TI23 rfl rfl (cell_of hC2 rfl) ?_)
          refine WL.c rfl (o_mvh h7 ?_)
          refine WL.c rfl (o_ixB (i := i) TI23 TI28 (show _ = Value.slice (some ⟨sb, so, none⟩) p.code.length sc from hve) (show _ = Value.int .i64 (i : Int) from rfl) hk1 ?_)
          refine WL.c rfl (o_fa 0 TI28 rfl TI3 rfl rfl ?_)
          refine WL.c rfl (o_ld TI3 rfl rfl (show _ = some (Value.int .i64 x0.op) from (Cells.only hsc hx (fun h => h)) 0 _ rfl) ?_)
          refine WL.c rfl (o_call Tryd.call39 (lc rfl (lc rfl (lc rfl ln))) ((brought_spec x0.op 33 47 _ hB0.op (by decide) (by decide) (by decide)).mono ?_))
          rintro v98 w98 ⟨⟨q3, rfl, hq3, hq4⟩, hw98⟩
          obtain rfl := hw98.symm
          refine WL.c rfl (o_ash (show _ = Value.int _ _ from rfl) ?_)
          refine WL.nil ?_
          first | exact ⟨q3, by unfold okOp; rw [if_pos c91.1]; omega, h2, h4, h5, h6, h7, rfl, rfl⟩ | exact ⟨q1, by unfold okOp; split <;> first | (simp_all; done) | (simp_all; omega), h2, h4, h5, h6, h7, h8, rfl⟩
        · try simp only [decide_eq_true_eq, decide_eq_false_iff_not, Bool.not_eq_true', Bool.not_eq_false', Bool.and_eq_true, Bool.or_eq_true, Bool.and_eq_false_iff, Bool.or_eq_false_iff] at c91
          refine W.skip ?_
          first | exact ⟨q3, by unfold okOp; rw [if_pos c91.1]; omega, h2, h4, h5, h6, h7, rfl, rfl⟩ | exact ⟨q1, by unfold okOp; split <;> first | (simp_all; done) | (simp_all; omega), h2, h4, h5, h6, h7, h8, rfl⟩
      rintro e w ⟨op, hop, h2, h4, h5, h6, h7, h8, hw1⟩
      refine W.seq ?_
      subst hw1
      obtain ⟨nm, l0, l1, l2, hfm⟩ := okOp_fm hop
      refine W.region ?_
      refine WL.c rfl (o_mvh h8 ?_)
      refine WL.c rfl (o_fa 0 TI26 rfl TI4 rfl h2 ?_)
      refine WL.c rfl (o_ld TI4 rfl rfl (cell_of hC2 rfl) ?_)
      refine WL.c rfl (o_call Tryd.call40 (lc rfl (lc rfl ln)) ((rof_spec op p.enc _).mono ?_))
      rw [fmT_some hfm]
      rintro v103 w103 ⟨rfl, hx103⟩
      replace hx := hx.tr hx103
      replace hL := own_ext hL hx103
      replace hE := own_ext hE hx103
      replace hC2 := hx103.blk hC2 (fun h => h)
      replace hC4 := hx103.blk hC4 (fun h => h)
      replace hC5 := hx103.blk hC5 (fun h => h)
      refine WL.c rfl (o_mvh (by first | exact (show _ = Value.tuple _ from rfl) | exact rfl) ?_)
      refine WL.c rfl (o_ext rfl rfl ?_)
      refine WL.c rfl (o_ext rfl rfl ?_)
      refine WL.c rfl (o_alB TI82 ?_)
      intro wa hCa hxa hsa
      refine WL.u (o_stA TI82 rfl (show _ = Value.agg ([st nm, st [l0, l1, l2]]).toArray from rfl) rfl rfl hCa rfl ?_)
      intro wb9 hC9 hob hsb
      have hxb := Ext.own hxa (Nat.le_refl _) hob
      obtain ⟨b9, hb9⟩ : ∃ b, b = w103.heap.size := ⟨_, rfl⟩
      rw [← hb9] at hC9 ⊢
      clear hCa hxa hsa hob hsb
      replace hx := hx.tr hxb
      replace hL := own_ext hL hxb
      replace hE := own_ext hE hxb
      replace hC2 := hxb.blk hC2 (fun h => h)
      replace hC4 := hxb.blk hC4 (fun h => h)
      replace hC5 := hxb.blk hC5 (fun h => h)
      clear hxb
      refine WL.c rfl (o_ash (show _ = Value.bool _ from rfl) ?_)
      refine WL.nil ?_
      refine W.seq ?_
      obtain ⟨wd, hwd⟩ : ∃ wd, wd = World.drew wb9 := ⟨_, rfl⟩
      have hxd : Ext wb9 wd := hwd ▸ Only.drew wb9
      replace hx := hx.tr hxd
      replace hL := own_ext hL hxd
      replace hE := own_ext hE hxd
      replace hC2 := hxd.blk hC2 (fun h => h)
      replace hC4 := hxd.blk hC4 (fun h => h)
      replace hC5 := hxd.blk hC5 (fun h => h)
      replace hC9 := hxd.blk hC9 (fun h => h)
      have hLo : ∀ q, (Value.slice (some ⟨gc, 0, none⟩) (n + 1) (n + 1)).ownBlock = some q → ¬ wd.heap.size ≤ q := fun q hq h => by have := (hL.lt q hq).2; omega
      have hz16 := hx.size
      refine W.drawT 36 (Ext) [(2, fun v _ => v = (Value.pointer (some ⟨b2, 0, none⟩))), (4, fun v _ => v = (Value.pointer (some ⟨b4, 0, none⟩))), (5, fun v _ => v = (Value.pointer (some ⟨b5, 0, none⟩))), (6, fun v _ => v = (Value.int .i64 (n : Int))), (7, fun v _ => v = (Value.int .i64 (i : Int))), (8, fun v _ => v = (Value.int .i64 op)), (9, fun v _ => v = (Value.pointer (some ⟨b9, 0, none⟩)))] rfl (by kernel_rfl) (Only.refl No) (fun _ _ _ h k => h.trans k) ⟨Mono.eq, Mono.eq, Mono.eq, Mono.eq, Mono.eq, Mono.eq, Mono.eq, trivial⟩ ⟨h2, h4, h5, h6, h7, h8, rfl, trivial⟩ ?_
      refine WD.p rfl (fun e w hR hh => by obtain ⟨h8, -⟩ := hh; exact SG.n (o_mvh h8 ⟨rfl, Only.refl No _⟩)) ?_
      refine WD.p rfl (fun e w hR hh => by obtain ⟨h5, -⟩ := hh; rw [← hwd] at hR; have hc9 := hR.blk hC5 (fun h => h); exact SG.n (o_ldA TI26 rfl h5 (show Cells _ b5 0 (pgV ⟨p.enc, L, List.replicate m 0⟩ (Value.slice (some ⟨gc, 0, none⟩) (n + 1) (n + 1)) (Value.slice (some ⟨ge, 0, none⟩) m m)) from Cells.of hc9 0 _ (by simp [pgV])) rfl ⟨rfl, Only.refl No _⟩)) ?_
      refine WD.p rfl (fun e w hR hh => by obtain ⟨h9, -⟩ := hh; exact SG.n (o_fa 1 TI82 rfl TI9 rfl h9 ⟨rfl, Only.refl No _⟩)) ?_
      refine WD.p rfl (fun e w hR hh => by obtain ⟨h108, -⟩ := hh; rw [← hwd] at hR; have hc9 := hR.blk hC9 (fun h => h); exact SG.n (o_ld TI9 rfl h108 (cell_of hc9 rfl) ⟨rfl, Only.refl No _⟩)) ?_
      refine WD.p rfl (fun e w hR hh => by obtain ⟨h109, -⟩ := hh; exact SG.n (o_idT (i := 0) TI9 h109 rfl (by simp) ⟨rfl, Only.refl No _⟩)) ?_
      refine WD.p rfl (fun e w hR hh => by obtain ⟨h2, -⟩ := hh; exact SG.n (o_fa 1 TI26 rfl TI23 rfl h2 ⟨rfl, Only.refl No _⟩)) ?_
      refine WD.p rfl (fun e w hR hh => by obtain ⟨h111, -⟩ := hh; rw [← hwd] at hR; have hc9 := hR.blk hC2 (fun h => h); exact SG.n (o_ld TI23 rfl h111 (cell_of hc9 rfl) ⟨rfl, Only.refl No _⟩)) ?_
      refine WD.p rfl (fun e w hR hh => by obtain ⟨h7, -⟩ := hh; exact SG.n (o_mvh h7 ⟨rfl, Only.refl No _⟩)) ?_
      refine WD.p rfl (fun e w hR hh => by obtain ⟨h113, h112, -⟩ := hh; exact SG.n (o_ixB (i := i) TI23 TI28 (h112.trans hve) h113 hk1 ⟨rfl, Only.refl No _⟩)) ?_
      refine WD.p rfl (fun e w hR hh => by obtain ⟨h114, -⟩ := hh; exact SG.n (o_fa 1 TI28 rfl TI3 rfl h114 ⟨rfl, Only.refl No _⟩)) ?_
      refine WD.p rfl (fun e w hR hh => by obtain ⟨h115, -⟩ := hh; rw [← hwd] at hR; exact SG.n (o_ld TI3 rfl h115 (show _ = some (Value.int .i64 x0.a) from (Cells.only hsc (hx.tr hR) (fun h => h)) 1 _ rfl) ⟨rfl, Only.refl No _⟩)) ?_
      refine WD.q (fun v w => ∃ q, v = .int .i64 q ∧ madN (n + 1) m l0.toNat q) (fun v w w2 hR hh => hh) rfl (fun e w hR hh => by obtain ⟨h116, h110, h107, -⟩ := hh; rw [← hwd] at hR; exact SG.n (o_call Tryd.call41 (lc h107 (lc h110 (lc h116 ln))) ((made1_spec ⟨p.enc, L, List.replicate m 0⟩ (Value.slice (some ⟨gc, 0, none⟩) (n + 1) (n + 1)) (Value.slice (some ⟨ge, 0, none⟩) m m) l0 x0.a _ (madR hLl (own_ext hL hR) (own_ext hE hR)) hB0.a (by show 1 ≤ L.length ∧ L.length ≤ 1000000; omega) (by show 1 ≤ (List.replicate m (0 : Int)).length ∧ (List.replicate m (0 : Int)).length ≤ 1000000; rw [List.length_replicate]; omega)).mono (fun v w' hh => by obtain ⟨q, h1, h2, h3⟩ := hh; exact ⟨⟨q, h1, by have h4 : madN L.length (List.replicate m (0 : Int)).length l0.toNat q := h2; rw [hLl, List.length_replicate] at h4; exact h4⟩, h3⟩)))) ?_
      refine WD.p rfl (fun e w hR hh => by obtain ⟨h5, -⟩ := hh; rw [← hwd] at hR; have hc9 := hR.blk hC5 (fun h => h); exact SG.n (o_ldA TI26 rfl h5 (show Cells _ b5 0 (pgV ⟨p.enc, L, List.replicate m 0⟩ (Value.slice (some ⟨gc, 0, none⟩) (n + 1) (n + 1)) (Value.slice (some ⟨ge, 0, none⟩) m m)) from Cells.of hc9 0 _ (by simp [pgV])) rfl ⟨rfl, Only.refl No _⟩)) ?_
      refine WD.p rfl (fun e w hR hh => by obtain ⟨h9, -⟩ := hh; exact SG.n (o_fa 1 TI82 rfl TI9 rfl h9 ⟨rfl, Only.refl No _⟩)) ?_
      refine WD.p rfl (fun e w hR hh => by obtain ⟨h119, -⟩ := hh; rw [← hwd] at hR; have hc9 := hR.blk hC9 (fun h => h); exact SG.n (o_ld TI9 rfl h119 (cell_of hc9 rfl) ⟨rfl, Only.refl No _⟩)) ?_
      refine WD.p rfl (fun e w hR hh => by obtain ⟨h120, -⟩ := hh; exact SG.n (o_idT (i := 1) TI9 h120 rfl (by simp) ⟨rfl, Only.refl No _⟩)) ?_
      refine WD.p rfl (fun e w hR hh => by obtain ⟨h2, -⟩ := hh; exact SG.n (o_fa 1 TI26 rfl TI23 rfl h2 ⟨rfl, Only.refl No _⟩)) ?_
      refine WD.p rfl (fun e w hR hh => by obtain ⟨h122, -⟩ := hh; rw [← hwd] at hR; have hc9 := hR.blk hC2 (fun h => h); exact SG.n (o_ld TI23 rfl h122 (cell_of hc9 rfl) ⟨rfl, Only.refl No _⟩)) ?_
      refine WD.p rfl (fun e w hR hh => by obtain ⟨h7, -⟩ := hh; exact SG.n (o_mvh h7 ⟨rfl, Only.refl No _⟩)) ?_
      refine WD.p rfl (fun e w hR hh => by obtain ⟨h124, h123, -⟩ := hh; exact SG.n (o_ixB (i := i) TI23 TI28 (h123.trans hve) h124 hk1 ⟨rfl, Only.refl No _⟩)) ?_
      refine WD.p rfl (fun e w hR hh => by obtain ⟨h125, -⟩ := hh; exact SG.n (o_fa 2 TI28 rfl TI3 rfl h125 ⟨rfl, Only.refl No _⟩)) ?_
      refine WD.p rfl (fun e w hR hh => by obtain ⟨h126, -⟩ := hh; rw [← hwd] at hR; exact SG.n (o_ld TI3 rfl h126 (show _ = some (Value.int .i64 x0.b) from (Cells.only hsc (hx.tr hR) (fun h => h)) 2 _ rfl) ⟨rfl, Only.refl No _⟩)) ?_
      refine WD.q (fun v w => ∃ q, v = .int .i64 q ∧ madN (n + 1) m l1.toNat q) (fun v w w2 hR hh => hh) rfl (fun e w hR hh => by obtain ⟨h127, h121, h118, -⟩ := hh; rw [← hwd] at hR; exact SG.n (o_call Tryd.call41 (lc h118 (lc h121 (lc h127 ln))) ((made1_spec ⟨p.enc, L, List.replicate m 0⟩ (Value.slice (some ⟨gc, 0, none⟩) (n + 1) (n + 1)) (Value.slice (some ⟨ge, 0, none⟩) m m) l1 x0.b _ (madR hLl (own_ext hL hR) (own_ext hE hR)) hB0.b (by show 1 ≤ L.length ∧ L.length ≤ 1000000; omega) (by show 1 ≤ (List.replicate m (0 : Int)).length ∧ (List.replicate m (0 : Int)).length ≤ 1000000; rw [List.length_replicate]; omega)).mono (fun v w' hh => by obtain ⟨q, h1, h2, h3⟩ := hh; exact ⟨⟨q, h1, by have h4 : madN L.length (List.replicate m (0 : Int)).length l1.toNat q := h2; rw [hLl, List.length_replicate] at h4; exact h4⟩, h3⟩)))) ?_
      refine WD.p rfl (fun e w hR hh => by obtain ⟨h5, -⟩ := hh; rw [← hwd] at hR; have hc9 := hR.blk hC5 (fun h => h); exact SG.n (o_ldA TI26 rfl h5 (show Cells _ b5 0 (pgV ⟨p.enc, L, List.replicate m 0⟩ (Value.slice (some ⟨gc, 0, none⟩) (n + 1) (n + 1)) (Value.slice (some ⟨ge, 0, none⟩) m m)) from Cells.of hc9 0 _ (by simp [pgV])) rfl ⟨rfl, Only.refl No _⟩)) ?_
      refine WD.p rfl (fun e w hR hh => by obtain ⟨h9, -⟩ := hh; exact SG.n (o_fa 1 TI82 rfl TI9 rfl h9 ⟨rfl, Only.refl No _⟩)) ?_
      refine WD.p rfl (fun e w hR hh => by obtain ⟨h130, -⟩ := hh; rw [← hwd] at hR; have hc9 := hR.blk hC9 (fun h => h); exact SG.n (o_ld TI9 rfl h130 (cell_of hc9 rfl) ⟨rfl, Only.refl No _⟩)) ?_
      refine WD.p rfl (fun e w hR hh => by obtain ⟨h131, -⟩ := hh; exact SG.n (o_idT (i := 2) TI9 h131 rfl (by simp) ⟨rfl, Only.refl No _⟩)) ?_
      refine WD.p rfl (fun e w hR hh => by obtain ⟨h2, -⟩ := hh; exact SG.n (o_fa 1 TI26 rfl TI23 rfl h2 ⟨rfl, Only.refl No _⟩)) ?_
      refine WD.p rfl (fun e w hR hh => by obtain ⟨h133, -⟩ := hh; rw [← hwd] at hR; have hc9 := hR.blk hC2 (fun h => h); exact SG.n (o_ld TI23 rfl h133 (cell_of hc9 rfl) ⟨rfl, Only.refl No _⟩)) ?_
      refine WD.p rfl (fun e w hR hh => by obtain ⟨h7, -⟩ := hh; exact SG.n (o_mvh h7 ⟨rfl, Only.refl No _⟩)) ?_
      refine WD.p rfl (fun e w hR hh => by obtain ⟨h135, h134, -⟩ := hh; exact SG.n (o_ixB (i := i) TI23 TI28 (h134.trans hve) h135 hk1 ⟨rfl, Only.refl No _⟩)) ?_
      refine WD.p rfl (fun e w hR hh => by obtain ⟨h136, -⟩ := hh; exact SG.n (o_fa 3 TI28 rfl TI3 rfl h136 ⟨rfl, Only.refl No _⟩)) ?_
      refine WD.p rfl (fun e w hR hh => by obtain ⟨h137, -⟩ := hh; rw [← hwd] at hR; exact SG.n (o_ld TI3 rfl h137 (show _ = some (Value.int .i64 x0.c) from (Cells.only hsc (hx.tr hR) (fun h => h)) 3 _ rfl) ⟨rfl, Only.refl No _⟩)) ?_
      refine WD.q (fun v w => ∃ q, v = .int .i64 q ∧ madN (n + 1) m l2.toNat q) (fun v w w2 hR hh => hh) rfl (fun e w hR hh => by obtain ⟨h138, h132, h129, -⟩ := hh; rw [← hwd] at hR; exact SG.n (o_call Tryd.call41 (lc h129 (lc h132 (lc h138 ln))) ((made1_spec ⟨p.enc, L, List.replicate m 0⟩ (Value.slice (some ⟨gc, 0, none⟩) (n + 1) (n + 1)) (Value.slice (some ⟨ge, 0, none⟩) m m) l2 x0.c _ (madR hLl (own_ext hL hR) (own_ext hE hR)) hB0.c (by show 1 ≤ L.length ∧ L.length ≤ 1000000; omega) (by show 1 ≤ (List.replicate m (0 : Int)).length ∧ (List.replicate m (0 : Int)).length ≤ 1000000; rw [List.length_replicate]; omega)).mono (fun v w' hh => by obtain ⟨q, h1, h2, h3⟩ := hh; exact ⟨⟨q, h1, by have h4 : madN L.length (List.replicate m (0 : Int)).length l2.toNat q := h2; rw [hLl, List.length_replicate] at h4; exact h4⟩, h3⟩)))) ?_
      refine WD.q (fun v w => ∃ A B C, v = .agg (insV ⟨op, A, B, C⟩).toArray ∧ madN (n + 1) m l0.toNat A ∧ madN (n + 1) m l1.toNat B ∧ madN (n + 1) m l2.toNat C) (fun v w w2 hR hh => hh) rfl (fun e w hR hh => by obtain ⟨h139, h128, h117, h106, -⟩ := hh; obtain ⟨A, h117v, hA⟩ := h117; obtain ⟨B, h128v, hB⟩ := h128; obtain ⟨C, h139v, hC⟩ := h139; exact SG.n (o_bldC (cs := [.int .i64 op, .int .i64 A, .int .i64 B, .int .i64 C]) TI28 (Sizes.cons TI3 (Sizes.cons TI3 (Sizes.cons TI3 (Sizes.cons TI3 Sizes.nil)))) rfl (lcp h106 (lcp h117v (lcp h128v (lcp h139v lnp)))) rfl rfl ⟨⟨A, B, C, rfl, hA, hB, hC⟩, Only.refl No _⟩)) ?_
      refine WD.q (fun v w => ∃ b, v = .pointer (some ⟨b, 0, none⟩) ∧ wd.heap.size ≤ b ∧ w.heap[b]? = some (.cells #[.int .i64 0, .int .i64 0, .int .i64 0, .int .i64 0] 28 (0, 0))) (fun v w w2 hR hh => by obtain ⟨b, h1, h2, h3⟩ := hh; exact ⟨b, h1, h2, hR.blk h3 (fun h => h)⟩) rfl (fun e w hR hh => by skip; rw [← hwd] at hR; exact SG.n (o_al TI28 ⟨⟨_, rfl, hR.size, heap_alloc_new _ _⟩, Only.alloc w _⟩)) ?_
      rintro e w hR ⟨h11, h140, h139, h138, h137, h136, h135, h134, h133, h132, h131, h130, h129, h128, h127, h126, h125, h124, h123, h122, h121, h120, h119, h118, h117, h116, h115, h114, h113, h112, h111, h110, h109, h108, h107, h106, h2, h4, h5, h6, h7, h8, h9, -⟩
      rw [← hwd] at hR
      obtain ⟨A, B, C, h140v, hA, hB, hC⟩ := h140
      obtain ⟨b11, h11, hb11, hC11⟩ := h11
      have hl5 := (Array.getElem?_eq_some_iff.1 hC5).1
      have hb511 : b5 < b11 := by omega
      replace hx := hx.tr hR
      replace hL := own_ext hL hR
      replace hE := own_ext hE hR
      replace hC2 := hR.blk hC2 (fun h => h)
      replace hC4 := hR.blk hC4 (fun h => h)
      replace hC5 := hR.blk hC5 (fun h => h)
      replace hC9 := hR.blk hC9 (fun h => h)
      refine WL.u (o_stA TI28 h11 (show _ = Value.agg (insV ⟨op, A, B, C⟩).toArray from h140v) rfl rfl hC11 rfl ?_)
      intro w11s hB11 ho11 hs11
      replace hx := hx.trans' ho11 (fun _ h => h) (fun q hq he => by have := hx.size; omega)
      replace hC2 := ho11.blk hC2 (by omega)
      replace hC4 := ho11.blk hC4 (by omega)
      replace hC5 := ho11.blk hC5 (by omega)
      replace hC9 := ho11.blk hC9 (fun h => by rw [h, hC11] at hC9; cases hC9)
      replace hL := own_only hL ho11 (fun q hq he => by subst he; exact hLo q hq hb11)
      replace hE := own_only hE ho11 (fun q hq he => by subst he; exact own_off hE hC11 (by decide) hq)
      clear hC11
      have hC11 := hB11
      clear hB11
      refine WL.nil ?_
      refine W.seq ?_
      refine W.seq ?_
      refine W.region ?_
      refine WL.cut (fun e1 w1 => e1 153 = .bool (decide (nm = [112, 97, 114, 116] ∧ (A = -1 ∨ B = -1))) ∧ e1 2 = .pointer (some ⟨b2, 0, none⟩) ∧ e1 4 = .pointer (some ⟨b4, 0, none⟩) ∧ e1 5 = .pointer (some ⟨b5, 0, none⟩) ∧ e1 6 = .int .i64 (n : Int) ∧ e1 7 = .int .i64 (i : Int) ∧ e1 11 = .pointer (some ⟨b11, 0, none⟩) ∧ w1 = w11s) ?_ ?_
      · -- region 17
        refine WL.c rfl (o_fa 0 TI82 rfl TI9 rfl h9 ?_)
        refine WL.c rfl (o_ld TI9 rfl rfl (cell_of hC9 rfl) ?_)
        refine WL.c rfl (o_eqT rfl rfl ?_)
        refine WL.c rfl (o_mvh (show _ = Value.bool _ from rfl) ?_)
        refine WL.sp 3 rfl (fun g144 => ?_) (fun g144 => ?_)
        · skip
          refine WL.g rfl (g144) rfl (o_fa 1 TI28 rfl TI3 rfl h11 ?_)
          refine WL.g rfl (g144) rfl (o_ld TI3 rfl rfl (cell_of hC11 rfl) ?_)
          refine WL.g rfl (g144) rfl (o_eq rfl rfl ?_)
          refine WL.g rfl (g144) rfl (o_mvh (show _ = Value.bool _ from rfl) ?_)
          refine WL.sp 7 rfl (fun g148 => ?_) (fun g148 => ?_)
          · skip
            refine WL.s rfl (g148) rfl ?_
            refine WL.s rfl (g148) rfl ?_
            refine WL.s rfl (g148) rfl ?_
            refine WL.g rfl (g144) rfl (o_pickT rfl (g148) ?_)
            refine WL.c rfl (o_pickA rfl rfl ?_)
            exact WL.nil (⟨congrArg Value.bool (by rw [Bool.eq_iff_iff, decide_eq_true_iff]; first | (simp_all; done) | (simp_all; omega)), h2, h4, h5, h6, h7, h11, rfl⟩)
          · skip
            refine WL.g rfl (g148) rfl (o_fa 2 TI28 rfl TI3 rfl h11 ?_)
            refine WL.g rfl (g148) rfl (o_ld TI3 rfl rfl (cell_of hC11 rfl) ?_)
            refine WL.g rfl (g148) rfl (o_eq rfl rfl ?_)
            refine WL.g rfl (g144) rfl (o_pickO rfl rfl ?_)
            refine WL.c rfl (o_pickA rfl rfl ?_)
            exact WL.nil (⟨congrArg Value.bool (by rw [Bool.eq_iff_iff, decide_eq_true_iff]; first | (simp_all; done) | (simp_all; omega)), h2, h4, h5, h6, h7, h11, rfl⟩)
        · skip
          refine WL.s rfl (g144) rfl ?_
          refine WL.s rfl (g144) rfl ?_
          refine WL.s rfl (g144) rfl ?_
          refine WL.s rfl (g144) rfl ?_
          refine WL.z rfl rfl ?_
          refine WL.z rfl rfl ?_
          refine WL.z rfl rfl ?_
          refine WL.s rfl (g144) rfl ?_
          refine WL.c rfl (o_pickF rfl (g144) ?_)
          exact WL.nil (⟨congrArg Value.bool (by rw [Bool.eq_iff_iff, decide_eq_true_iff]; first | (simp_all; done) | (simp_all; omega)), h2, h4, h5, h6, h7, h11, rfl⟩)
      rintro e w ⟨h153, h2, h4, h5, h6, h7, h11, hw1⟩
      subst hw1
      refine W.cut (fun e1 w1 => ∃ y1, y1 = partI nm (⟨op, A, B, C⟩ : Ins) ∧ w1.heap[b11]? = some (.cells (insV y1).toArray 28 (0, 0)) ∧ e1 2 = .pointer (some ⟨b2, 0, none⟩) ∧ e1 4 = .pointer (some ⟨b4, 0, none⟩) ∧ e1 5 = .pointer (some ⟨b5, 0, none⟩) ∧ e1 6 = .int .i64 (n : Int) ∧ e1 7 = .int .i64 (i : Int) ∧ e1 11 = .pointer (some ⟨b11, 0, none⟩) ∧ w1.ownsRow w0.heap.size 28 4 (Value.slice (some ⟨gc, 0, none⟩) (n + 1) (n + 1)) (n + 1) (inss (L)) ∧ w1.ownsRow w0.heap.size 3 1 (Value.slice (some ⟨ge, 0, none⟩) m m) m (zs (List.replicate m 0)) ∧ w1.heap[b2]? = some (.cells (pgV p cv ev_).toArray 26 (0, 0)) ∧ w1.heap[b4]? = some (.cells ([.bool false, .slice none 0 0, .slice none 0 0]).toArray 26 (0, 0)) ∧ w1.heap[b5]? = some (.cells #[.bool p.enc, Value.slice (some ⟨gc, 0, none⟩) (n + 1) (n + 1), Value.slice (some ⟨ge, 0, none⟩) m m] 26 (0, 0)) ∧ Ext w0 w1) ?_ ?_
      · -- both ways
        refine W.cond h153 (fun c153 => ?_) (fun c153 => ?_)
        · try simp only [decide_eq_true_eq, decide_eq_false_iff_not, Bool.not_eq_true', Bool.not_eq_false', Bool.and_eq_true, Bool.or_eq_true, Bool.and_eq_false_iff, Bool.or_eq_false_iff] at c153
          refine W.seq ?_
          refine W.region ?_
          refine WL.c rfl (o_fa 1 TI28 rfl TI3 rfl h11 ?_)
          refine WL.u (o_stB TI3 rfl (show _ = Value.int .i64 (-1) from rfl) rfl hC11 (show 1 < 4 by decide) ?_)
          intro w154 hB11 ho11 hs11
          replace hx := hx.trans' ho11 (fun _ h => h) (fun q hq he => by omega)
          replace hC2 := ho11.blk hC2 (by omega)
          replace hC4 := ho11.blk hC4 (by omega)
          replace hC5 := ho11.blk hC5 (by omega)
          replace hL := own_only hL ho11 (fun q hq he => by subst he; exact hLo q hq hb11)
          replace hE := own_only hE ho11 (fun q hq he => by subst he; exact own_off hE hC11 (by decide) hq)
          clear hC11
          have hC11 : w154.heap[b11]? = some (.cells #[.int .i64 op, .int .i64 (-1), .int .i64 B, .int .i64 C] 28 (0, 0)) := hB11
          clear hB11
          refine WL.nil ?_
          refine W.region ?_
          refine WL.c rfl (o_fa 2 TI28 rfl TI3 rfl h11 ?_)
          refine WL.u (o_stB TI3 rfl (show _ = Value.int .i64 (-1) from rfl) rfl hC11 (show 2 < 4 by decide) ?_)
          intro w155 hB11 ho11 hs11
          replace hx := hx.trans' ho11 (fun _ h => h) (fun q hq he => by omega)
          replace hC2 := ho11.blk hC2 (by omega)
          replace hC4 := ho11.blk hC4 (by omega)
          replace hC5 := ho11.blk hC5 (by omega)
          replace hL := own_only hL ho11 (fun q hq he => by subst he; exact hLo q hq hb11)
          replace hE := own_only hE ho11 (fun q hq he => by subst he; exact own_off hE hC11 (by decide) hq)
          clear hC11
          have hC11 : w155.heap[b11]? = some (.cells (insV ⟨op, -1, -1, C⟩).toArray 28 (0, 0)) := hB11
          clear hB11
          refine WL.nil ?_
          first | exact ⟨⟨op, -1, -1, C⟩, by unfold partI; rw [if_pos c153], hC11, h2, h4, h5, h6, h7, h11, hL, hE, hC2, hC4, hC5, hx⟩ | exact ⟨⟨op, A, B, C⟩, by unfold partI; rw [if_neg c153], hC11, h2, h4, h5, h6, h7, h11, hL, hE, hC2, hC4, hC5, hx⟩
        · try simp only [decide_eq_true_eq, decide_eq_false_iff_not, Bool.not_eq_true', Bool.not_eq_false', Bool.and_eq_true, Bool.or_eq_true, Bool.and_eq_false_iff, Bool.or_eq_false_iff] at c153
          refine W.skip ?_
          first | exact ⟨⟨op, -1, -1, C⟩, by unfold partI; rw [if_pos c153], hC11, h2, h4, h5, h6, h7, h11, hL, hE, hC2, hC4, hC5, hx⟩ | exact ⟨⟨op, A, B, C⟩, by unfold partI; rw [if_neg c153], hC11, h2, h4, h5, h6, h7, h11, hL, hE, hC2, hC4, hC5, hx⟩
      rintro e w ⟨y, hyd, hC11, h2, h4, h5, h6, h7, h11, hL, hE, hC2, hC4, hC5, hx⟩
      have hy : GoodI p.enc (n + 1) m y := hyd ▸ made_good hfm hA hB hC
      refine W.region ?_
      refine WL.c rfl (o_fa 1 TI26 rfl TI23 rfl h5 ?_)
      refine WL.c rfl (o_ld TI23 rfl rfl (cell_of hC5 rfl) ?_)
      refine WL.c rfl (o_mvh h7 ?_)
      refine WL.c rfl (o_ldA TI28 rfl h11 (show Cells _ b11 0 (insV y) from Cells.of hC11 0 _ (by simp)) rfl ?_)
      refine WL.c rfl (o_ixB (i := i) TI23 TI28 (show _ = Value.slice (some ⟨gc, 0, none⟩) (n + 1) (n + 1) from rfl) (show _ = Value.int .i64 (i : Int) from rfl) (by omega) ?_)
      refine WL.u (o_stRA TI28 (show _ = Value.pointer (some ⟨gc, 0 + i * 4, none⟩) from rfl) (show 0 + i * 4 = i * 4 by omega) (show _ = Value.agg (insV y).toArray from rfl) rfl rfl hL rfl (by omega) ?_)
      intro w160 hr160 ho160 hs160
      replace hE := own_only hE ho160 (fun q hq hF => own_row_off hL hE (by decide) q hq hF)
      replace hC2 := ho160.blk hC2 (own_off hL hC2 (by decide))
      replace hC4 := ho160.blk hC4 (own_off hL hC4 (by decide))
      replace hC5 := ho160.blk hC5 (own_off hL hC5 (by decide))
      replace hx := hx.trans' ho160 (fun _ h => h) (fun q hq hF => by have := (hL.lt q hF).1; omega)
      rw [inss_setI L i y (by omega)] at hr160
      clear hL
      have hL := hr160
      clear hr160
      refine WL.nil ?_
      refine W.region ?_
      refine WL.c rfl (o_mvh h7 ?_)
      refine WL.c rfl (o_addi rfl rfl (by omega) ?_)
      refine WL.c rfl (o_ash (show _ = Value.int _ _ from rfl) ?_)
      refine WL.nil ?_
      refine ⟨⟨i + 1, L.set i y, by omega, by rw [List.length_set]; exact hLl, fun j hj => ?_, h2, h4, h5, h6, rfl, hL, hE, hC2, hC4, hC5, hx⟩, ?_⟩
      · by_cases hji : j = i
        · subst hji; rw [getD_setI (by omega)]; exact hy
        · rw [getD_set hji]; exact hG j (by omega)
      · show n - ((i : Int) + 1).toNat < _
        rw [hm7]; simp [intOf]; omega
    · try simp only [decide_eq_true_eq, decide_eq_false_iff_not, Bool.not_eq_true', Bool.not_eq_false', Bool.and_eq_true, Bool.or_eq_true, Bool.and_eq_false_iff, Bool.or_eq_false_iff] at c72
      obtain rfl : n = i := by omega
      refine W.exit ?_
      refine W.seq ?_
      refine W.region ?_
      refine WL.c rfl (o_fa 1 TI26 rfl TI23 rfl h5 ?_)
      refine WL.c rfl (o_ld TI23 rfl rfl (cell_of hC5 rfl) ?_)
      refine WL.c rfl (o_mvh h6 ?_)
      refine WL.c rfl (o_bldC (cs := [(.int .i64 20), (.int .i64 0), (.int .i64 0), (.int .i64 0)]) TI28 (Sizes.cons TI3 (Sizes.cons TI3 (Sizes.cons TI3 (Sizes.cons TI3 Sizes.nil)))) rfl (lcp (show _ = Value.int _ _ from rfl) lnp) rfl rfl ?_)
      refine WL.c rfl (o_ixB (i := n) TI23 TI28 (show _ = Value.slice (some ⟨gc, 0, none⟩) (n + 1) (n + 1) from rfl) (show _ = Value.int .i64 (n : Int) from rfl) (by omega) ?_)
      refine WL.u (o_stRA TI28 (show _ = Value.pointer (some ⟨gc, 0 + n * 4, none⟩) from rfl) (show 0 + n * 4 = n * 4 by omega) (show _ = Value.agg (insV ret0I).toArray from rfl) rfl rfl hL rfl (by omega) ?_)
      intro w165 hr165 ho165 hs165
      replace hE := own_only hE ho165 (fun q hq hF => own_row_off hL hE (by decide) q hq hF)
      replace hC2 := ho165.blk hC2 (own_off hL hC2 (by decide))
      replace hC4 := ho165.blk hC4 (own_off hL hC4 (by decide))
      replace hC5 := ho165.blk hC5 (own_off hL hC5 (by decide))
      replace hx := hx.trans' ho165 (fun _ h => h) (fun q hq hF => by have := (hL.lt q hF).1; omega)
      rw [inss_setI L n ret0I (by omega)] at hr165
      clear hL
      have hL := hr165
      clear hr165
      have hLn : (L.set n ret0I).getD n in0 = ret0I := getD_setI (by omega)
      have hGn : ∀ j, j < n → GoodI p.enc (n + 1) m ((L.set n ret0I).getD j in0) := fun j hj => by rw [getD_set (by omega)]; exact hG j hj
      have hLl2 : (L.set n ret0I).length = n + 1 := by rw [List.length_set]; exact hLl
      generalize L.set n ret0I = L2 at hL hLn hGn hLl2
      refine WL.nil ?_
      refine W.seq ?_
      refine W.seq ?_
      refine W.region ?_
      refine WL.c rfl (o_ash (show _ = Value.int _ _ from rfl) ?_)
      refine WL.nil ?_
      refine W.block ?_
      refine W.loop (fun e w => ∃ (i : Nat) (L : List Ins), i ≤ n ∧ L.length = n + 1 ∧ L.getD n in0 = ret0I ∧ (∀ j, j < i → OkI ⟨p.enc, L, List.replicate m 0⟩ j) ∧ (∀ j, i ≤ j → j < n → GoodI p.enc (n + 1) m (L.getD j in0)) ∧ e 2 = .pointer (some ⟨b2, 0, none⟩) ∧ e 4 = .pointer (some ⟨b4, 0, none⟩) ∧ e 5 = .pointer (some ⟨b5, 0, none⟩) ∧ e 6 = .int .i64 (n : Int) ∧ e 12 = .int .i64 (i : Int) ∧ w.ownsRow w0.heap.size 28 4 (Value.slice (some ⟨gc, 0, none⟩) (n + 1) (n + 1)) (n + 1) (inss (L)) ∧ w.ownsRow w0.heap.size 3 1 (Value.slice (some ⟨ge, 0, none⟩) m m) m (zs (List.replicate m 0)) ∧ w.heap[b2]? = some (.cells (pgV p cv ev_).toArray 26 (0, 0)) ∧ w.heap[b4]? = some (.cells ([.bool false, .slice none 0 0, .slice none 0 0]).toArray 26 (0, 0)) ∧ w.heap[b5]? = some (.cells #[.bool p.enc, Value.slice (some ⟨gc, 0, none⟩) (n + 1) (n + 1), Value.slice (some ⟨ge, 0, none⟩) m m] 26 (0, 0)) ∧ Ext w0 w) (fun e w => n - (intOf (e 12)).toNat) ?_ ?_
      · exact ⟨0, L2, Nat.zero_le _, hLl2, hLn, fun j h => absurd h (Nat.not_lt_zero j), fun j _ hj => hGn j hj, h2, h4, h5, h6, rfl, hL, hE, hC2, hC4, hC5, hx⟩
      rintro e w ⟨i, L, hi, hLl, hLn, hO, hG, h2, h4, h5, h6, h12, hL, hE, hC2, hC4, hC5, hx⟩
      have hm12 := h12
      refine W.seq ?_
      refine W.seq ?_
      refine W.region ?_
      refine WL.c rfl (o_mvh h12 ?_)
      refine WL.c rfl (o_mvh h6 ?_)
      refine WL.c rfl (o_lt rfl rfl ?_)
      refine WL.nil ?_
      refine W.cond rfl (fun c168 => ?_) (fun c168 => ?_)
      · try simp only [decide_eq_true_eq, decide_eq_false_iff_not, Bool.not_eq_true', Bool.not_eq_false', Bool.and_eq_true, Bool.or_eq_true, Bool.and_eq_false_iff, Bool.or_eq_false_iff] at c168
        have hi1 : i < n := by omega
        obtain ⟨x, hxd⟩ : ∃ x, x = L.getD i in0 := ⟨_, rfl⟩
        have hGx : GoodI p.enc (n + 1) m x := hxd ▸ hG i (Nat.le_refl _) hi1
        refine W.skip ?_
        refine W.seq ?_
        refine W.block ?_
        refine W.seq ?_
        refine W.seq ?_
        refine W.region ?_
        refine WL.cut (fun e1 w1 => e1 186 = .bool (decide (¬ (x.op = 8 ∨ x.op = 41))) ∧ e1 2 = .pointer (some ⟨b2, 0, none⟩) ∧ e1 4 = .pointer (some ⟨b4, 0, none⟩) ∧ e1 5 = .pointer (some ⟨b5, 0, none⟩) ∧ e1 6 = .int .i64 (n : Int) ∧ e1 12 = .int .i64 (i : Int) ∧ w1 = w) ?_ ?_
        · -- region 25
          refine WL.c rfl (o_fa 1 TI26 rfl TI23 rfl h5 ?_)
          refine WL.c rfl (o_ld TI23 rfl rfl (cell_of hC5 rfl) ?_)
          refine WL.c rfl (o_mvh h12 ?_)
          refine WL.c rfl (o_ixB (i := i) TI23 TI28 (show _ = Value.slice (some ⟨gc, 0, none⟩) (n + 1) (n + 1) from rfl) (show _ = Value.int .i64 (i : Int) from rfl) (by omega) ?_)
          refine WL.c rfl (o_fa 0 TI28 rfl TI3 rfl rfl ?_)
          refine WL.c rfl (o_ld TI3 rfl rfl (show _ = some (Value.int .i64 x.op) from by rw [hxd]; exact madC hL hLl (by omega) 0 _ rfl) ?_)
          refine WL.c rfl (o_ne rfl rfl ?_)
          refine WL.c rfl (o_mvh (show _ = Value.bool _ from rfl) ?_)
          refine WL.sp 7 rfl (fun g178 => ?_) (fun g178 => ?_)
          · skip
            refine WL.g rfl (g178) rfl (o_fa 1 TI26 rfl TI23 rfl h5 ?_)
            refine WL.g rfl (g178) rfl (o_ld TI23 rfl rfl (cell_of hC5 rfl) ?_)
            refine WL.g rfl (g178) rfl (o_mvh h12 ?_)
            refine WL.g rfl (g178) rfl (o_ixB (i := i) TI23 TI28 (show _ = Value.slice (some ⟨gc, 0, none⟩) (n + 1) (n + 1) from rfl) (show _ = Value.int .i64 (i : Int) from rfl) (by omega) ?_)
            refine WL.g rfl (g178) rfl (o_fa 0 TI28 rfl TI3 rfl rfl ?_)
            refine WL.g rfl (g178) rfl (o_ld TI3 rfl rfl (show _ = some (Value.int .i64 x.op) from by rw [hxd]; exact madC hL hLl (by omega) 0 _ rfl) ?_)
            refine WL.g rfl (g178) rfl (o_ne rfl rfl ?_)
            refine WL.c rfl (o_pickA rfl rfl ?_)
            exact WL.nil (⟨congrArg Value.bool (by rw [Bool.eq_iff_iff, decide_eq_true_iff]; first | (simp_all; done) | (simp_all; omega)), h2, h4, h5, h6, h12, rfl⟩)
          · skip
            refine WL.s rfl (g178) rfl ?_
            refine WL.s rfl (g178) rfl ?_
            refine WL.s rfl (g178) rfl ?_
            refine WL.s rfl (g178) rfl ?_
            refine WL.s rfl (g178) rfl ?_
            refine WL.s rfl (g178) rfl ?_
            refine WL.s rfl (g178) rfl ?_
            refine WL.c rfl (o_pickF rfl (g178) ?_)
            exact WL.nil (⟨congrArg Value.bool (by rw [Bool.eq_iff_iff, decide_eq_true_iff]; first | (simp_all; done) | (simp_all; omega)), h2, h4, h5, h6, h12, rfl⟩)
        rintro e w ⟨h186, h2, h4, h5, h6, h12, hw1⟩
        subst hw1
        refine W.cond h186 (fun c186 => ?_) (fun c186 => ?_)
        · try simp only [decide_eq_true_eq, decide_eq_false_iff_not, Bool.not_eq_true', Bool.not_eq_false', Bool.and_eq_true, Bool.or_eq_true, Bool.and_eq_false_iff, Bool.or_eq_false_iff] at c186
          obtain ⟨Lf, hLfd⟩ : ∃ X, X = L := ⟨_, rfl⟩
          have hO2 : ∀ j, j < i + 1 → OkI ⟨p.enc, Lf, List.replicate m 0⟩ j := fun j hj => by
            rw [hLfd]
            by_cases hji : j = i
            · subst hji
              refine GoodI.ok ?_ (by show ¬ ((L.getD j in0).op = 8 ∨ (L.getD j in0).op = 41); rw [← hxd]; exact c186)
              show GoodI p.enc L.length (List.replicate m (0 : Int)).length (L.getD j in0)
              rw [hLl, List.length_replicate, ← hxd]; exact hGx
            · exact hO j (by omega)
          have hG2 : ∀ j, i + 1 ≤ j → j < n → GoodI p.enc (n + 1) m (Lf.getD j in0) := fun j h1 h2 => by rw [hLfd]; exact hG j (by omega) h2
          have hLf2 : Lf.length = n + 1 := by rw [hLfd]; exact hLl
          have hLfn : Lf.getD n in0 = ret0I := by rw [hLfd]; exact hLn
          rw [← hLfd] at hL
          refine W.exit ?_
          refine W.region ?_
          refine WL.c rfl (o_mvh h12 ?_)
          refine WL.c rfl (o_addi rfl rfl (by omega) ?_)
          refine WL.c rfl (o_ash (show _ = Value.int _ _ from rfl) ?_)
          refine WL.nil ?_
          refine ⟨⟨i + 1, Lf, by omega, hLf2, hLfn, hO2, hG2, h2, h4, h5, h6, rfl, hL, hE, hC2, hC4, hC5, hx⟩, ?_⟩
          show n - ((i : Int) + 1).toNat < _
          rw [hm12]; simp [intOf]; omega
        · try simp only [decide_eq_true_eq, decide_eq_false_iff_not, Bool.not_eq_true', Bool.not_eq_false', Bool.and_eq_true, Bool.or_eq_true, Bool.and_eq_false_iff, Bool.or_eq_false_iff] at c186
          have hu : x.op = 8 ∨ x.op = 41 := by rcases Classical.em (x.op = 8 ∨ x.op = 41) with h | h; exact h; exact absurd h (by first | exact c186 | simpa using c186)
          have h9 : (L.getD i in0).op ≠ 9 := by rw [← hxd]; omega
          refine W.skip ?_
          refine W.seq ?_
          refine W.region ?_
          refine WL.c rfl (o_ash (show _ = Value.int _ _ from rfl) ?_)
          refine WL.nil ?_
          refine W.seq ?_
          refine W.block ?_
          refine W.loop (fun e w => ∃ (k : Nat) (a : Int), k ≤ 64 ∧ ArmsP L i (k : Int) ∧ e 2 = .pointer (some ⟨b2, 0, none⟩) ∧ e 4 = .pointer (some ⟨b4, 0, none⟩) ∧ e 5 = .pointer (some ⟨b5, 0, none⟩) ∧ e 6 = .int .i64 (n : Int) ∧ e 12 = .int .i64 (i : Int) ∧ e 13 = .int .i64 (k : Int) ∧ w.ownsRow w0.heap.size 28 4 (Value.slice (some ⟨gc, 0, none⟩) (n + 1) (n + 1)) (n + 1) (inss (L.set i { x with a := a })) ∧ w.ownsRow w0.heap.size 3 1 (Value.slice (some ⟨ge, 0, none⟩) m m) m (zs (List.replicate m 0)) ∧ w.heap[b2]? = some (.cells (pgV p cv ev_).toArray 26 (0, 0)) ∧ w.heap[b4]? = some (.cells ([.bool false, .slice none 0 0, .slice none 0 0]).toArray 26 (0, 0)) ∧ w.heap[b5]? = some (.cells #[.bool p.enc, Value.slice (some ⟨gc, 0, none⟩) (n + 1) (n + 1), Value.slice (some ⟨ge, 0, none⟩) m m] 26 (0, 0)) ∧ Ext w0 w) (fun e w => 64 - (intOf (e 13)).toNat) ?_ ?_
          · exact ⟨0, x.a, by omega, ArmsP.zero (by omega), h2, h4, h5, h6, h12, rfl, by show World.ownsRow _ _ _ _ _ _ (inss (L.set i x)); rw [hxd, set_self (by omega)]; exact hL, hE, hC2, hC4, hC5, hx⟩
          rintro e w ⟨k, a, hk64, hAr, h2, h4, h5, h6, h12, h13, hL, hE, hC2, hC4, hC5, hx⟩
          have hm13 := h13
          have hroom := hAr.room
          refine W.seq ?_
          refine W.seq ?_
          refine W.region ?_
          refine WL.cut (fun e1 w1 => e1 208 = .bool (decide (i + 1 + k < n ∧ k < 64 ∧ (L.getD (i + 1 + k) in0).op = 9)) ∧ e1 2 = .pointer (some ⟨b2, 0, none⟩) ∧ e1 4 = .pointer (some ⟨b4, 0, none⟩) ∧ e1 5 = .pointer (some ⟨b5, 0, none⟩) ∧ e1 6 = .int .i64 (n : Int) ∧ e1 12 = .int .i64 (i : Int) ∧ e1 13 = .int .i64 (k : Int) ∧ w1 = w) ?_ ?_
          · -- region 27
            refine WL.c rfl (o_mvh h12 ?_)
            refine WL.c rfl (o_addi rfl rfl (by omega) ?_)
            refine WL.c rfl (o_mvh h13 ?_)
            refine WL.c rfl (o_addi rfl rfl (by omega) ?_)
            refine WL.c rfl (o_mvh h6 ?_)
            refine WL.c rfl (o_lt rfl rfl ?_)
            refine WL.c rfl (o_mvh (show _ = Value.bool _ from rfl) ?_)
            refine WL.sp 6 rfl (fun g193 => ?_) (fun g193 => ?_)
            · skip
              refine WL.g rfl (g193) rfl (o_mvh h13 ?_)
              refine WL.g rfl (g193) rfl (o_lt rfl rfl ?_)
              refine WL.c rfl (o_pickA rfl rfl ?_)
              refine WL.c rfl (o_mvh (show _ = Value.bool _ from rfl) ?_)
              refine WL.sp 10 rfl (fun g197 => ?_) (fun g197 => ?_)
              · skip
                refine WL.g rfl (g197) rfl (o_fa 1 TI26 rfl TI23 rfl h5 ?_)
                refine WL.g rfl (g197) rfl (o_ld TI23 rfl rfl (cell_of hC5 rfl) ?_)
                refine WL.g rfl (g197) rfl (o_mvh h12 ?_)
                refine WL.g rfl (g197) rfl (o_addi rfl rfl (by omega) ?_)
                refine WL.g rfl (g197) rfl (o_mvh h13 ?_)
                refine WL.g rfl (g197) rfl (o_addi rfl rfl (by omega) ?_)
                refine WL.g rfl (g197) rfl (o_ixB (i := i + 1 + k) TI23 TI28 (show _ = Value.slice (some ⟨gc, 0, none⟩) (n + 1) (n + 1) from rfl) (show _ = Value.int .i64 ((i + 1 + k : Nat) : Int) from rfl) (by have h9 := g193; simp at h9; omega) ?_)
                refine WL.g rfl (g197) rfl (o_fa 0 TI28 rfl TI3 rfl rfl ?_)
                refine WL.g rfl (g197) rfl (o_ld TI3 rfl rfl (show _ = some (Value.int .i64 (L.getD (i + 1 + k) in0).op) from by have h9 := madC hL (by rw [List.length_set]; exact hLl) (k := i + 1 + k) (by have h9 := g193; simp at h9; omega); rw [getD_set (by omega)] at h9; exact h9 0 _ rfl) ?_)
                refine WL.g rfl (g197) rfl (o_eq rfl rfl ?_)
                refine WL.c rfl (o_pickA rfl rfl ?_)
                exact WL.nil (⟨congrArg Value.bool (by rw [Bool.eq_iff_iff, decide_eq_true_iff]; first | (simp_all; done) | (simp_all; omega)), h2, h4, h5, h6, h12, h13, rfl⟩)
              · skip
                refine WL.s rfl (g197) rfl ?_
                refine WL.s rfl (g197) rfl ?_
                refine WL.s rfl (g197) rfl ?_
                refine WL.s rfl (g197) rfl ?_
                refine WL.s rfl (g197) rfl ?_
                refine WL.s rfl (g197) rfl ?_
                refine WL.s rfl (g197) rfl ?_
                refine WL.s rfl (g197) rfl ?_
                refine WL.s rfl (g197) rfl ?_
                refine WL.s rfl (g197) rfl ?_
                refine WL.c rfl (o_pickF rfl (g197) ?_)
                exact WL.nil (⟨congrArg Value.bool (by rw [Bool.eq_iff_iff, decide_eq_true_iff]; first | (simp_all; done) | (simp_all; omega)), h2, h4, h5, h6, h12, h13, rfl⟩)
            · skip
              refine WL.s rfl (g193) rfl ?_
              refine WL.s rfl (g193) rfl ?_
              refine WL.c rfl (o_pickF rfl (g193) ?_)
              refine WL.c rfl (o_mvh (show _ = Value.bool _ from rfl) ?_)
              refine WL.s rfl (rfl) rfl ?_
              refine WL.s rfl (rfl) rfl ?_
              refine WL.s rfl (rfl) rfl ?_
              refine WL.s rfl (rfl) rfl ?_
              refine WL.s rfl (rfl) rfl ?_
              refine WL.s rfl (rfl) rfl ?_
              refine WL.s rfl (rfl) rfl ?_
              refine WL.s rfl (rfl) rfl ?_
              refine WL.s rfl (rfl) rfl ?_
              refine WL.s rfl (rfl) rfl ?_
              refine WL.c rfl (o_pickF rfl (rfl) ?_)
              exact WL.nil (⟨congrArg Value.bool (by rw [Bool.eq_iff_iff, decide_eq_true_iff]; first | (simp_all; done) | (simp_all; omega)), h2, h4, h5, h6, h12, h13, rfl⟩)
          rintro e w ⟨h208, h2, h4, h5, h6, h12, h13, hw1⟩
          subst hw1
          refine W.cond h208 (fun c208 => ?_) (fun c208 => ?_)
          · try simp only [decide_eq_true_eq, decide_eq_false_iff_not, Bool.not_eq_true', Bool.not_eq_false', Bool.and_eq_true, Bool.or_eq_true, Bool.and_eq_false_iff, Bool.or_eq_false_iff] at c208
            refine W.skip ?_
            refine W.block ?_
            refine W.seq ?_
            refine W.region ?_
            refine WL.c rfl (o_fa 1 TI26 rfl TI23 rfl h5 ?_)
            refine WL.c rfl (o_ld TI23 rfl rfl (cell_of hC5 rfl) ?_)
            refine WL.c rfl (o_mvh h12 ?_)
            refine WL.c rfl (o_mvh h13 ?_)
            refine WL.c rfl (o_addi rfl rfl (by omega) ?_)
            refine WL.c rfl (o_ixB (i := i) TI23 TI28 (show _ = Value.slice (some ⟨gc, 0, none⟩) (n + 1) (n + 1) from rfl) (show _ = Value.int .i64 (i : Int) from rfl) (by omega) ?_)
            refine WL.c rfl (o_fa 1 TI28 rfl TI3 rfl rfl ?_)
            refine WL.u (o_stRj TI3 (show _ = Value.pointer (some ⟨gc, 0 + i * 4 + 1, none⟩) from rfl) (show 0 + i * 4 + 1 = i * 4 + 1 by omega) (show _ = Value.int .i64 ((k : Int) + 1) from rfl) rfl hL rfl (by omega) ?_)
            intro w215 hr215 ho215 hs215
            replace hE := own_only hE ho215 (fun q hq hF => own_row_off hL hE (by decide) q hq hF)
            replace hC2 := ho215.blk hC2 (own_off hL hC2 (by decide))
            replace hC4 := ho215.blk hC4 (own_off hL hC4 (by decide))
            replace hC5 := ho215.blk hC5 (own_off hL hC5 (by decide))
            replace hx := hx.trans' ho215 (fun _ h => h) (fun q hq hF => by have := (hL.lt q hF).1; omega)
            rw [madA (by omega)] at hr215
            clear hL
            have hL := hr215
            clear hr215
            refine WL.nil ?_
            refine W.seq ?_
            refine W.seq ?_
            refine W.region ?_
            refine WL.c rfl (o_ldA TI26 rfl h5 (show Cells _ b5 0 (pgV ⟨p.enc, L.set i { x with a := ((k : Int) + 1) }, List.replicate m 0⟩ (Value.slice (some ⟨gc, 0, none⟩) (n + 1) (n + 1)) (Value.slice (some ⟨ge, 0, none⟩) m m)) from Cells.of hC5 0 _ (by simp [pgV])) rfl ?_)
            refine WL.c rfl (o_mvh h12 ?_)
            refine WL.c rfl (o_call Tryd.call42 (lc rfl (lc rfl ln)) ((rarms_spec ⟨p.enc, L.set i { x with a := ((k : Int) + 1) }, List.replicate m 0⟩ (Value.slice (some ⟨gc, 0, none⟩) (n + 1) (n + 1)) (Value.slice (some ⟨ge, 0, none⟩) m m) i _ (madR (by rw [List.length_set]; exact hLl) hL hE) (by show (L.set i { x with a := ((k : Int) + 1) }).length ≤ 1048576; rw [List.length_set]; omega) (by show i < (L.set i { x with a := ((k : Int) + 1) }).length; rw [List.length_set]; omega) (by show -1 ≤ ((L.set i { x with a := ((k : Int) + 1) })[i]'(by rw [List.length_set]; omega)).a ∧ ((L.set i { x with a := ((k : Int) + 1) })[i]'(by rw [List.length_set]; omega)).a ≤ 64; rw [List.getElem_set_self]; show -1 ≤ (k : Int) + 1 ∧ (k : Int) + 1 ≤ 64; omega)).mono ?_))
            rintro v218 w218 ⟨b, rfl, hbA, hx218⟩
            have hbA2 : b = true ↔ ArmsP L i ((k + 1 : Nat) : Int) := by
              rw [hbA]
              show ArmsP (L.set i { x with a := ((k : Int) + 1) }) i (((L.set i { x with a := ((k : Int) + 1) })[i]'(by rw [List.length_set]; omega)).a) ↔ _
              rw [List.getElem_set_self]
              exact ArmsP.set
            replace hx := hx.tr hx218
            replace hL := own_ext hL hx218
            replace hE := own_ext hE hx218
            replace hC2 := hx218.blk hC2 (fun h => h)
            replace hC4 := hx218.blk hC4 (fun h => h)
            replace hC5 := hx218.blk hC5 (fun h => h)
            refine WL.c rfl (o_not' rfl ?_)
            refine WL.nil ?_
            refine W.cond rfl (fun c219 => ?_) (fun c219 => ?_)
            · try simp only [decide_eq_true_eq, decide_eq_false_iff_not, Bool.not_eq_true', Bool.not_eq_false', Bool.and_eq_true, Bool.or_eq_true, Bool.and_eq_false_iff, Bool.or_eq_false_iff] at c219
              refine W.exit ?_
              refine W.seq ?_
              refine W.region ?_
              refine WL.c rfl (o_fa 1 TI26 rfl TI23 rfl h5 ?_)
              refine WL.c rfl (o_ld TI23 rfl rfl (cell_of hC5 rfl) ?_)
              refine WL.c rfl (o_mvh h12 ?_)
              refine WL.c rfl (o_mvh h13 ?_)
              refine WL.c rfl (o_ixB (i := i) TI23 TI28 (show _ = Value.slice (some ⟨gc, 0, none⟩) (n + 1) (n + 1) from rfl) (show _ = Value.int .i64 (i : Int) from rfl) (by omega) ?_)
              refine WL.c rfl (o_fa 1 TI28 rfl TI3 rfl rfl ?_)
              refine WL.u (o_stRj TI3 (show _ = Value.pointer (some ⟨gc, 0 + i * 4 + 1, none⟩) from rfl) (show 0 + i * 4 + 1 = i * 4 + 1 by omega) (show _ = Value.int .i64 ((k : Int)) from rfl) rfl hL rfl (by omega) ?_)
              intro w227 hr227 ho227 hs227
              replace hE := own_only hE ho227 (fun q hq hF => own_row_off hL hE (by decide) q hq hF)
              replace hC2 := ho227.blk hC2 (own_off hL hC2 (by decide))
              replace hC4 := ho227.blk hC4 (own_off hL hC4 (by decide))
              replace hC5 := ho227.blk hC5 (own_off hL hC5 (by decide))
              replace hx := hx.trans' ho227 (fun _ h => h) (fun q hq hF => by have := (hL.lt q hF).1; omega)
              rw [madA (by omega)] at hr227
              clear hL
              have hL := hr227
              clear hr227
              refine WL.nil ?_
              refine W.seq ?_
              refine W.region ?_
              refine WL.c rfl (o_mvh h13 ?_)
              refine WL.c rfl (o_eq rfl rfl ?_)
              refine WL.nil ?_
              refine W.cond rfl (fun c229 => ?_) (fun c229 => ?_)
              · try simp only [decide_eq_true_eq, decide_eq_false_iff_not, Bool.not_eq_true', Bool.not_eq_false', Bool.and_eq_true, Bool.or_eq_true, Bool.and_eq_false_iff, Bool.or_eq_false_iff] at c229
                have hk0 : k = 0 := by omega
                refine W.region ?_
                refine WL.c rfl (o_fa 1 TI26 rfl TI23 rfl h5 ?_)
                refine WL.c rfl (o_ld TI23 rfl rfl (cell_of hC5 rfl) ?_)
                refine WL.c rfl (o_mvh h12 ?_)
                refine WL.c rfl (o_bldC (cs := [(.int .i64 20), (.int .i64 0), (.int .i64 0), (.int .i64 0)]) TI28 (Sizes.cons TI3 (Sizes.cons TI3 (Sizes.cons TI3 (Sizes.cons TI3 Sizes.nil)))) rfl (lcp (show _ = Value.int _ _ from rfl) lnp) rfl rfl ?_)
                refine WL.c rfl (o_ixB (i := i) TI23 TI28 (show _ = Value.slice (some ⟨gc, 0, none⟩) (n + 1) (n + 1) from rfl) (show _ = Value.int .i64 (i : Int) from rfl) (by omega) ?_)
                refine WL.u (o_stRA TI28 (show _ = Value.pointer (some ⟨gc, 0 + i * 4, none⟩) from rfl) (show 0 + i * 4 = i * 4 by omega) (show _ = Value.agg (insV ret0I).toArray from rfl) rfl rfl hL rfl (by omega) ?_)
                intro w234 hr234 ho234 hs234
                replace hE := own_only hE ho234 (fun q hq hF => own_row_off hL hE (by decide) q hq hF)
                replace hC2 := ho234.blk hC2 (own_off hL hC2 (by decide))
                replace hC4 := ho234.blk hC4 (own_off hL hC4 (by decide))
                replace hC5 := ho234.blk hC5 (own_off hL hC5 (by decide))
                replace hx := hx.trans' ho234 (fun _ h => h) (fun q hq hF => by have := (hL.lt q hF).1; omega)
                rw [inss_setI _ i ret0I (by rw [List.length_set]; omega), List.set_set] at hr234
                clear hL
                have hL := hr234
                clear hr234
                obtain ⟨Lf, hLfd⟩ : ∃ X, X = L.set i ret0I := ⟨_, rfl⟩
                have hO2 : ∀ j, j < i + 1 → OkI ⟨p.enc, Lf, List.replicate m 0⟩ j := fun j hj => by
                  rw [hLfd]
                  by_cases hji : j = i
                  · subst hji; exact ret_ok (getD_setI (by omega))
                  · exact (hO j (by omega)).set hji h9
                have hG2 : ∀ j, i + 1 ≤ j → j < n → GoodI p.enc (n + 1) m (Lf.getD j in0) := fun j h1 h2 => by rw [hLfd, getD_set (by omega)]; exact hG j (by omega) h2
                have hLf2 : Lf.length = n + 1 := by rw [hLfd, List.length_set]; exact hLl
                have hLfn : Lf.getD n in0 = ret0I := by rw [hLfd, getD_set (by omega)]; exact hLn
                rw [← hLfd] at hL
                refine WL.nil ?_
                refine W.region ?_
                refine WL.c rfl (o_mvh h12 ?_)
                refine WL.c rfl (o_addi rfl rfl (by omega) ?_)
                refine WL.c rfl (o_ash (show _ = Value.int _ _ from rfl) ?_)
                refine WL.nil ?_
                refine ⟨⟨i + 1, Lf, by omega, hLf2, hLfn, hO2, hG2, h2, h4, h5, h6, rfl, hL, hE, hC2, hC4, hC5, hx⟩, ?_⟩
                show n - ((i : Int) + 1).toNat < _
                rw [hm12]; simp [intOf]; omega
              · try simp only [decide_eq_true_eq, decide_eq_false_iff_not, Bool.not_eq_true', Bool.not_eq_false', Bool.and_eq_true, Bool.or_eq_true, Bool.and_eq_false_iff, Bool.or_eq_false_iff] at c229
                have hk1 : 1 ≤ k := by omega
                obtain ⟨Lf, hLfd⟩ : ∃ X, X = L.set i { x with a := (k : Int) } := ⟨_, rfl⟩
                have hO2 : ∀ j, j < i + 1 → OkI ⟨p.enc, Lf, List.replicate m 0⟩ j := fun j hj => by
                  rw [hLfd]
                  by_cases hji : j = i
                  · subst hji; exact GoodI.arms hGx hu rfl (getD_setI (by omega)) ⟨hk1, hk64⟩ (ArmsP.set.2 hAr)
                  · exact (hO j (by omega)).set hji h9
                have hG2 : ∀ j, i + 1 ≤ j → j < n → GoodI p.enc (n + 1) m (Lf.getD j in0) := fun j h1 h2 => by rw [hLfd, getD_set (by omega)]; exact hG j (by omega) h2
                have hLf2 : Lf.length = n + 1 := by rw [hLfd, List.length_set]; exact hLl
                have hLfn : Lf.getD n in0 = ret0I := by rw [hLfd, getD_set (by omega)]; exact hLn
                rw [← hLfd] at hL
                refine W.skip ?_
                refine W.region ?_
                refine WL.c rfl (o_mvh h12 ?_)
                refine WL.c rfl (o_addi rfl rfl (by omega) ?_)
                refine WL.c rfl (o_ash (show _ = Value.int _ _ from rfl) ?_)
                refine WL.nil ?_
                refine ⟨⟨i + 1, Lf, by omega, hLf2, hLfn, hO2, hG2, h2, h4, h5, h6, rfl, hL, hE, hC2, hC4, hC5, hx⟩, ?_⟩
                show n - ((i : Int) + 1).toNat < _
                rw [hm12]; simp [intOf]; omega
            · try simp only [decide_eq_true_eq, decide_eq_false_iff_not, Bool.not_eq_true', Bool.not_eq_false', Bool.and_eq_true, Bool.or_eq_true, Bool.and_eq_false_iff, Bool.or_eq_false_iff] at c219
              refine W.skip ?_
              refine W.region ?_
              refine WL.c rfl (o_mvh h13 ?_)
              refine WL.c rfl (o_addi rfl rfl (by omega) ?_)
              refine WL.c rfl (o_ash (show _ = Value.int _ _ from rfl) ?_)
              refine WL.nil ?_
              refine ⟨⟨k + 1, (k : Int) + 1, by omega, hbA2.1 (by simpa using c219), h2, h4, h5, h6, h12, rfl, hL, hE, hC2, hC4, hC5, hx⟩, ?_⟩
              show 64 - ((k : Int) + 1).toNat < _
              rw [hm13]; simp [intOf]; omega
          · try simp only [decide_eq_true_eq, decide_eq_false_iff_not, Bool.not_eq_true', Bool.not_eq_false', Bool.and_eq_true, Bool.or_eq_true, Bool.and_eq_false_iff, Bool.or_eq_false_iff] at c208
            refine W.exit ?_
            refine W.seq ?_
            refine W.region ?_
            refine WL.c rfl (o_fa 1 TI26 rfl TI23 rfl h5 ?_)
            refine WL.c rfl (o_ld TI23 rfl rfl (cell_of hC5 rfl) ?_)
            refine WL.c rfl (o_mvh h12 ?_)
            refine WL.c rfl (o_mvh h13 ?_)
            refine WL.c rfl (o_ixB (i := i) TI23 TI28 (show _ = Value.slice (some ⟨gc, 0, none⟩) (n + 1) (n + 1) from rfl) (show _ = Value.int .i64 (i : Int) from rfl) (by omega) ?_)
            refine WL.c rfl (o_fa 1 TI28 rfl TI3 rfl rfl ?_)
            refine WL.u (o_stRj TI3 (show _ = Value.pointer (some ⟨gc, 0 + i * 4 + 1, none⟩) from rfl) (show 0 + i * 4 + 1 = i * 4 + 1 by omega) (show _ = Value.int .i64 ((k : Int)) from rfl) rfl hL rfl (by omega) ?_)
            intro w227 hr227 ho227 hs227
            replace hE := own_only hE ho227 (fun q hq hF => own_row_off hL hE (by decide) q hq hF)
            replace hC2 := ho227.blk hC2 (own_off hL hC2 (by decide))
            replace hC4 := ho227.blk hC4 (own_off hL hC4 (by decide))
            replace hC5 := ho227.blk hC5 (own_off hL hC5 (by decide))
            replace hx := hx.trans' ho227 (fun _ h => h) (fun q hq hF => by have := (hL.lt q hF).1; omega)
            rw [madA (by omega)] at hr227
            clear hL
            have hL := hr227
            clear hr227
            refine WL.nil ?_
            refine W.seq ?_
            refine W.region ?_
            refine WL.c rfl (o_mvh h13 ?_)
            refine WL.c rfl (o_eq rfl rfl ?_)
            refine WL.nil ?_
            refine W.cond rfl (fun c229 => ?_) (fun c229 => ?_)
            · try simp only [decide_eq_true_eq, decide_eq_false_iff_not, Bool.not_eq_true', Bool.not_eq_false', Bool.and_eq_true, Bool.or_eq_true, Bool.and_eq_false_iff, Bool.or_eq_false_iff] at c229
              have hk0 : k = 0 := by omega
              refine W.region ?_
              refine WL.c rfl (o_fa 1 TI26 rfl TI23 rfl h5 ?_)
              refine WL.c rfl (o_ld TI23 rfl rfl (cell_of hC5 rfl) ?_)
              refine WL.c rfl (o_mvh h12 ?_)
              refine WL.c rfl (o_bldC (cs := [(.int .i64 20), (.int .i64 0), (.int .i64 0), (.int .i64 0)]) TI28 (Sizes.cons TI3 (Sizes.cons TI3 (Sizes.cons TI3 (Sizes.cons TI3 Sizes.nil)))) rfl (lcp (show _ = Value.int _ _ from rfl) lnp) rfl rfl ?_)
              refine WL.c rfl (o_ixB (i := i) TI23 TI28 (show _ = Value.slice (some ⟨gc, 0, none⟩) (n + 1) (n + 1) from rfl) (show _ = Value.int .i64 (i : Int) from rfl) (by omega) ?_)
              refine WL.u (o_stRA TI28 (show _ = Value.pointer (some ⟨gc, 0 + i * 4, none⟩) from rfl) (show 0 + i * 4 = i * 4 by omega) (show _ = Value.agg (insV ret0I).toArray from rfl) rfl rfl hL rfl (by omega) ?_)
              intro w234 hr234 ho234 hs234
              replace hE := own_only hE ho234 (fun q hq hF => own_row_off hL hE (by decide) q hq hF)
              replace hC2 := ho234.blk hC2 (own_off hL hC2 (by decide))
              replace hC4 := ho234.blk hC4 (own_off hL hC4 (by decide))
              replace hC5 := ho234.blk hC5 (own_off hL hC5 (by decide))
              replace hx := hx.trans' ho234 (fun _ h => h) (fun q hq hF => by have := (hL.lt q hF).1; omega)
              rw [inss_setI _ i ret0I (by rw [List.length_set]; omega), List.set_set] at hr234
              clear hL
              have hL := hr234
              clear hr234
              obtain ⟨Lf, hLfd⟩ : ∃ X, X = L.set i ret0I := ⟨_, rfl⟩
              have hO2 : ∀ j, j < i + 1 → OkI ⟨p.enc, Lf, List.replicate m 0⟩ j := fun j hj => by
                rw [hLfd]
                by_cases hji : j = i
                · subst hji; exact ret_ok (getD_setI (by omega))
                · exact (hO j (by omega)).set hji h9
              have hG2 : ∀ j, i + 1 ≤ j → j < n → GoodI p.enc (n + 1) m (Lf.getD j in0) := fun j h1 h2 => by rw [hLfd, getD_set (by omega)]; exact hG j (by omega) h2
              have hLf2 : Lf.length = n + 1 := by rw [hLfd, List.length_set]; exact hLl
              have hLfn : Lf.getD n in0 = ret0I := by rw [hLfd, getD_set (by omega)]; exact hLn
              rw [← hLfd] at hL
              refine WL.nil ?_
              refine W.region ?_
              refine WL.c rfl (o_mvh h12 ?_)
              refine WL.c rfl (o_addi rfl rfl (by omega) ?_)
              refine WL.c rfl (o_ash (show _ = Value.int _ _ from rfl) ?_)
              refine WL.nil ?_
              refine ⟨⟨i + 1, Lf, by omega, hLf2, hLfn, hO2, hG2, h2, h4, h5, h6, rfl, hL, hE, hC2, hC4, hC5, hx⟩, ?_⟩
              show n - ((i : Int) + 1).toNat < _
              rw [hm12]; simp [intOf]; omega
            · try simp only [decide_eq_true_eq, decide_eq_false_iff_not, Bool.not_eq_true', Bool.not_eq_false', Bool.and_eq_true, Bool.or_eq_true, Bool.and_eq_false_iff, Bool.or_eq_false_iff] at c229
              have hk1 : 1 ≤ k := by omega
              obtain ⟨Lf, hLfd⟩ : ∃ X, X = L.set i { x with a := (k : Int) } := ⟨_, rfl⟩
              have hO2 : ∀ j, j < i + 1 → OkI ⟨p.enc, Lf, List.replicate m 0⟩ j := fun j hj => by
                rw [hLfd]
                by_cases hji : j = i
                · subst hji; exact GoodI.arms hGx hu rfl (getD_setI (by omega)) ⟨hk1, hk64⟩ (ArmsP.set.2 hAr)
                · exact (hO j (by omega)).set hji h9
              have hG2 : ∀ j, i + 1 ≤ j → j < n → GoodI p.enc (n + 1) m (Lf.getD j in0) := fun j h1 h2 => by rw [hLfd, getD_set (by omega)]; exact hG j (by omega) h2
              have hLf2 : Lf.length = n + 1 := by rw [hLfd, List.length_set]; exact hLl
              have hLfn : Lf.getD n in0 = ret0I := by rw [hLfd, getD_set (by omega)]; exact hLn
              rw [← hLfd] at hL
              refine W.skip ?_
              refine W.region ?_
              refine WL.c rfl (o_mvh h12 ?_)
              refine WL.c rfl (o_addi rfl rfl (by omega) ?_)
              refine WL.c rfl (o_ash (show _ = Value.int _ _ from rfl) ?_)
              refine WL.nil ?_
              refine ⟨⟨i + 1, Lf, by omega, hLf2, hLfn, hO2, hG2, h2, h4, h5, h6, rfl, hL, hE, hC2, hC4, hC5, hx⟩, ?_⟩
              show n - ((i : Int) + 1).toNat < _
              rw [hm12]; simp [intOf]; omega
      · try simp only [decide_eq_true_eq, decide_eq_false_iff_not, Bool.not_eq_true', Bool.not_eq_false', Bool.and_eq_true, Bool.or_eq_true, Bool.and_eq_false_iff, Bool.or_eq_false_iff] at c168
        obtain rfl : n = i := by omega
        refine W.exit ?_
        refine W.seq ?_
        refine W.seq ?_
        refine W.region ?_
        refine WL.c rfl (o_ash (show _ = Value.int _ _ from rfl) ?_)
        refine WL.nil ?_
        refine W.block ?_
        refine W.loop (fun e w => ∃ (t : Nat) (E : List Int), t ≤ m ∧ E.length = m ∧ (∀ e ∈ E, (0 : Int) ≤ e ∧ e ≤ (n : Int)) ∧ e 2 = .pointer (some ⟨b2, 0, none⟩) ∧ e 4 = .pointer (some ⟨b4, 0, none⟩) ∧ e 5 = .pointer (some ⟨b5, 0, none⟩) ∧ e 6 = .int .i64 (n : Int) ∧ e 14 = .int .i64 (t : Int) ∧ w.ownsRow w0.heap.size 28 4 (Value.slice (some ⟨gc, 0, none⟩) (n + 1) (n + 1)) (n + 1) (inss (L)) ∧ w.ownsRow w0.heap.size 3 1 (Value.slice (some ⟨ge, 0, none⟩) m m) m (zs (E)) ∧ w.heap[b2]? = some (.cells (pgV p cv ev_).toArray 26 (0, 0)) ∧ w.heap[b4]? = some (.cells ([.bool false, .slice none 0 0, .slice none 0 0]).toArray 26 (0, 0)) ∧ w.heap[b5]? = some (.cells #[.bool p.enc, Value.slice (some ⟨gc, 0, none⟩) (n + 1) (n + 1), Value.slice (some ⟨ge, 0, none⟩) m m] 26 (0, 0)) ∧ Ext w0 w) (fun e w => m - (intOf (e 14)).toNat) ?_ ?_
        · exact ⟨0, List.replicate m 0, Nat.zero_le _, List.length_replicate .., fun e he => by rw [List.eq_of_mem_replicate he]; omega, h2, h4, h5, h6, rfl, hL, hE, hC2, hC4, hC5, hx⟩
        rintro e w ⟨t, E, ht, hEl, hEb, h2, h4, h5, h6, h14, hL, hE, hC2, hC4, hC5, hx⟩
        have hm14 := h14
        refine W.seq ?_
        refine W.seq ?_
        refine W.region ?_
        refine WL.c rfl (o_mvh h14 ?_)
        refine WL.c rfl (o_fa 2 TI26 rfl TI24 rfl h5 ?_)
        refine WL.c rfl (o_ld TI24 rfl rfl (cell_of hC5 rfl) ?_)
        refine WL.c rfl (o_lenR TI24 rfl (show Sl _ 1 (Value.slice (some ⟨ge, 0, none⟩) m m) m (zs E) from Sl.own hE) ?_)
        refine WL.c rfl (o_lt rfl rfl ?_)
        refine WL.nil ?_
        refine W.cond rfl (fun c239 => ?_) (fun c239 => ?_)
        · try simp only [decide_eq_true_eq, decide_eq_false_iff_not, Bool.not_eq_true', Bool.not_eq_false', Bool.and_eq_true, Bool.or_eq_true, Bool.and_eq_false_iff, Bool.or_eq_false_iff] at c239
          have ht1 : t < m := by omega
          refine W.skip ?_
          refine W.seq ?_
          refine W.block ?_
          refine W.seq ?_
          refine W.region ?_
          refine WL.c rfl (o_mvh h14 ?_)
          refine WL.c rfl (o_fa 2 TI26 rfl TI24 rfl h2 ?_)
          refine WL.c rfl (o_ld TI24 rfl rfl (cell_of hC2 rfl) ?_)
          refine WL.c rfl (o_lenR TI24 rfl (hp.ent.ext hx) ?_)
          refine WL.c rfl (o_lt rfl rfl ?_)
          refine WL.nil ?_
          refine W.cut (fun e1 w1 => ∃ E2 : List Int, E2.length = m ∧ (∀ e ∈ E2, (0 : Int) ≤ e ∧ e ≤ (n : Int)) ∧ e1 2 = .pointer (some ⟨b2, 0, none⟩) ∧ e1 4 = .pointer (some ⟨b4, 0, none⟩) ∧ e1 5 = .pointer (some ⟨b5, 0, none⟩) ∧ e1 6 = .int .i64 (n : Int) ∧ e1 14 = .int .i64 (t : Int) ∧ w1.ownsRow w0.heap.size 28 4 (Value.slice (some ⟨gc, 0, none⟩) (n + 1) (n + 1)) (n + 1) (inss (L)) ∧ w1.ownsRow w0.heap.size 3 1 (Value.slice (some ⟨ge, 0, none⟩) m m) m (zs (E2)) ∧ w1.heap[b2]? = some (.cells (pgV p cv ev_).toArray 26 (0, 0)) ∧ w1.heap[b4]? = some (.cells ([.bool false, .slice none 0 0, .slice none 0 0]).toArray 26 (0, 0)) ∧ w1.heap[b5]? = some (.cells #[.bool p.enc, Value.slice (some ⟨gc, 0, none⟩) (n + 1) (n + 1), Value.slice (some ⟨ge, 0, none⟩) m m] 26 (0, 0)) ∧ Ext w0 w1) ?_ ?_
          · -- both ways
            refine W.cond rfl (fun c246 => ?_) (fun c246 => ?_)
            · try simp only [decide_eq_true_eq, decide_eq_false_iff_not, Bool.not_eq_true', Bool.not_eq_false', Bool.and_eq_true, Bool.or_eq_true, Bool.and_eq_false_iff, Bool.or_eq_false_iff] at c246
              have ht2 : t < p.ent.length := by omega
              obtain ⟨eb, eo, ec, hev9, hec⟩ : ∃ b o c, ev_ = .slice (some ⟨b, o, none⟩) p.ent.length c ∧ Cells w0 b o (zs p.ent) := by
                rcases hp.ent.val with ⟨h0, -⟩ | ⟨b, o, c, hv, -, hc⟩
                · omega
                · exact ⟨b, o, c, hv, hc⟩
              obtain ⟨wd, hwd⟩ : ∃ wd, wd = World.drew w := ⟨_, rfl⟩
              have hxd : Ext w wd := hwd ▸ Only.drew w
              replace hx := hx.tr hxd
              replace hL := own_ext hL hxd
              replace hE := own_ext hE hxd
              replace hC2 := hxd.blk hC2 (fun h => h)
              replace hC4 := hxd.blk hC4 (fun h => h)
              replace hC5 := hxd.blk hC5 (fun h => h)
              refine W.drawT 11 (Ext) [(2, fun v _ => v = (Value.pointer (some ⟨b2, 0, none⟩))), (4, fun v _ => v = (Value.pointer (some ⟨b4, 0, none⟩))), (5, fun v _ => v = (Value.pointer (some ⟨b5, 0, none⟩))), (6, fun v _ => v = (Value.int .i64 (n : Int))), (14, fun v _ => v = (Value.int .i64 (t : Int)))] rfl (by kernel_rfl) (Only.refl No) (fun _ _ _ h k => h.trans k) ⟨Mono.eq, Mono.eq, Mono.eq, Mono.eq, Mono.eq, trivial⟩ ⟨h2, h4, h5, h6, h14, trivial⟩ ?_
              refine WD.p rfl (fun e w hR hh => by obtain ⟨h5, -⟩ := hh; exact SG.n (o_fa 2 TI26 rfl TI24 rfl h5 ⟨rfl, Only.refl No _⟩)) ?_
              refine WD.p rfl (fun e w hR hh => by obtain ⟨h247, -⟩ := hh; rw [← hwd] at hR; have hc9 := hR.blk hC5 (fun h => h); exact SG.n (o_ld TI24 rfl h247 (cell_of hc9 rfl) ⟨rfl, Only.refl No _⟩)) ?_
              refine WD.p rfl (fun e w hR hh => by obtain ⟨h14, -⟩ := hh; exact SG.n (o_mvh h14 ⟨rfl, Only.refl No _⟩)) ?_
              refine WD.p rfl (fun e w hR hh => by obtain ⟨h2, -⟩ := hh; exact SG.n (o_fa 2 TI26 rfl TI24 rfl h2 ⟨rfl, Only.refl No _⟩)) ?_
              refine WD.p rfl (fun e w hR hh => by obtain ⟨h250, -⟩ := hh; rw [← hwd] at hR; have hc9 := hR.blk hC2 (fun h => h); exact SG.n (o_ld TI24 rfl h250 (cell_of hc9 rfl) ⟨rfl, Only.refl No _⟩)) ?_
              refine WD.p rfl (fun e w hR hh => by obtain ⟨h14, -⟩ := hh; exact SG.n (o_mvh h14 ⟨rfl, Only.refl No _⟩)) ?_
              refine WD.p rfl (fun e w hR hh => by obtain ⟨h252, h251, -⟩ := hh; exact SG.n (o_ixB (i := t) TI24 TI3 (h251.trans hev9) h252 ht2 ⟨rfl, Only.refl No _⟩)) ?_
              refine WD.p rfl (fun e w hR hh => by obtain ⟨h253, -⟩ := hh; rw [← hwd] at hR; exact SG.n (o_ld TI3 rfl h253 (show _ = some (Value.int .i64 p.ent[t]) from by rw [Nat.mul_one]; exact (Cells.only hec (hx.tr hR) (fun h => h)) t _ (zs_at ht2)) ⟨rfl, Only.refl No _⟩)) ?_
              refine WD.p rfl (fun e w hR hh => by obtain ⟨h6, -⟩ := hh; exact SG.n (o_mvh h6 ⟨rfl, Only.refl No _⟩)) ?_
              refine WD.q (fun v w => ∃ q : Int, v = .int .i64 q ∧ 0 ≤ q ∧ q ≤ (n : Int)) (fun v w w2 hR hh => hh) rfl (fun e w hR hh => by obtain ⟨h255, h254, -⟩ := hh; exact SG.n (o_call Tryd.call39 (lc h254 (lc rfl (lc h255 ln))) ((brought_spec p.ent[t] 0 (n : Int) _ (hb.ent _ (List.getElem_mem _)) (by omega) (by decide) (by omega)).mono (fun v w' ⟨⟨q, h1, h2, h3⟩, h4⟩ => ⟨⟨q, h1, h2, h3⟩, by rw [h4]; exact Only.refl No _⟩)))) ?_
              refine WD.p rfl (fun e w hR hh => by obtain ⟨h249, h248, -⟩ := hh; exact SG.n (o_ixB (i := t) TI24 TI3 h248 h249 ht1 ⟨rfl, Only.refl No _⟩)) ?_
              rintro e w hR ⟨h257, h256, h255, h254, h253, h252, h251, h250, h249, h248, h247, h2, h4, h5, h6, h14, -⟩
              rw [← hwd] at hR
              obtain ⟨q, h256v, hq0, hq1⟩ := h256
              replace hx := hx.tr hR
              replace hL := own_ext hL hR
              replace hE := own_ext hE hR
              replace hC2 := hR.blk hC2 (fun h => h)
              replace hC4 := hR.blk hC4 (fun h => h)
              replace hC5 := hR.blk hC5 (fun h => h)
              refine WL.u (o_stR1 TI3 h257 (show 0 + t * 1 = t by omega) h256v rfl hE rfl ht1 ?_)
              intro w257 hr257 ho257 hs257
              replace hL := own_only hL ho257 (fun q hq hF => own_row_off hE hL (by decide) q hq hF)
              replace hC2 := ho257.blk hC2 (own_off hE hC2 (by decide))
              replace hC4 := ho257.blk hC4 (own_off hE hC4 (by decide))
              replace hC5 := ho257.blk hC5 (own_off hE hC5 (by decide))
              replace hx := hx.trans' ho257 (fun _ h => h) (fun q hq hF => by have := (hE.lt q hF).1; omega)
              rw [zs, ← List.map_set, ← zs] at hr257
              clear hE
              have hE := hr257
              clear hr257
              refine WL.nil ?_
              first | exact ⟨E.set t q, by rw [List.length_set]; exact hEl, fun e he => by rcases List.mem_or_eq_of_mem_set he with h | h; exact hEb e h; subst h; exact ⟨hq0, hq1⟩, h2, h4, h5, h6, h14, hL, hE, hC2, hC4, hC5, hx⟩ | exact ⟨E, hEl, hEb, h2, h4, h5, h6, h14, hL, hE, hC2, hC4, hC5, hx⟩
            · try simp only [decide_eq_true_eq, decide_eq_false_iff_not, Bool.not_eq_true', Bool.not_eq_false', Bool.and_eq_true, Bool.or_eq_true, Bool.and_eq_false_iff, Bool.or_eq_false_iff] at c246
              refine W.skip ?_
              first | exact ⟨E.set t q, by rw [List.length_set]; exact hEl, fun e he => by rcases List.mem_or_eq_of_mem_set he with h | h; exact hEb e h; subst h; exact ⟨hq0, hq1⟩, h2, h4, h5, h6, h14, hL, hE, hC2, hC4, hC5, hx⟩ | exact ⟨E, hEl, hEb, h2, h4, h5, h6, h14, hL, hE, hC2, hC4, hC5, hx⟩
          rintro e w ⟨E2, hEl2, hEb2, h2, h4, h5, h6, h14, hL, hE, hC2, hC4, hC5, hx⟩
          refine W.region ?_
          refine WL.c rfl (o_mvh h14 ?_)
          refine WL.c rfl (o_addi rfl rfl (by omega) ?_)
          refine WL.c rfl (o_ash (show _ = Value.int _ _ from rfl) ?_)
          refine WL.nil ?_
          refine ⟨⟨t + 1, E2, by omega, hEl2, hEb2, h2, h4, h5, h6, rfl, hL, hE, hC2, hC4, hC5, hx⟩, ?_⟩
          show m - ((t : Int) + 1).toNat < _
          rw [hm14]; simp [intOf]; omega
        · try simp only [decide_eq_true_eq, decide_eq_false_iff_not, Bool.not_eq_true', Bool.not_eq_false', Bool.and_eq_true, Bool.or_eq_true, Bool.and_eq_false_iff, Bool.or_eq_false_iff] at c239
          obtain rfl : m = t := by omega
          refine W.exit ?_
          refine W.seq ?_
          refine W.region ?_
          refine WL.c rfl (o_ldA TI26 rfl h5 (show Cells _ b5 0 (pgV ⟨p.enc, L, E⟩ (Value.slice (some ⟨gc, 0, none⟩) (n + 1) (n + 1)) (Value.slice (some ⟨ge, 0, none⟩) m m)) from Cells.of hC5 0 _ (by simp [pgV])) rfl ?_)
          refine WL.u (o_stA TI26 h4 rfl rfl (by first | rfl | (simp [pgV, own_one hr45, own_one hr51]; rfl)) hC4 rfl ?_)
          intro w4s hB4 ho4 hs4s
          replace hx := hx.trans' ho4 (fun _ h => h) (fun q hq he => by omega)
          refine WL.nil ?_
          refine W.ret ?_
          refine retC rfl TI26 rfl h4 (cells_all (by assumption)) rfl ?_
          have hok : OkP ⟨p.enc, L, E⟩ := ⟨by show ¬ (1048576 < L.length ∨ 1048576 < E.length); omega, fun j hj => by
            replace hj : j < L.length := hj
            by_cases hjn : j = n
            · subst hjn; exact ret_ok hLn
            · exact (hO j (by omega)).ent (by rw [List.length_replicate]; exact hEl.symm), fun j hj => by
            replace hj : j < E.length := hj
            have e0 : E.getD j 0 = E[j] := by rw [List.getD_eq_getElem?_getD, List.getElem?_eq_getElem hj]; rfl
            have := hEb E[j] (List.getElem_mem _)
            show 0 ≤ E.getD j 0 ∧ E.getD j 0 ≤ (L.length : Int) - 1
            rw [e0]; omega⟩
          exact ⟨⟨p.enc, L, E⟩, Value.slice (some ⟨gc, 0, none⟩) (n + 1) (n + 1), Value.slice (some ⟨ge, 0, none⟩) m m, rfl, hok, by show 0 < L.length; omega, by show L.length ≤ most + 1; omega, by show 0 < E.length; omega, by show World.ownsRow _ _ _ _ _ L.length _; rw [hLl]; exact own_mono (own_only hL ho4 (fun q hq he => by subst he; exact own_off hL hC4 (by decide) hq)) (by omega), by show World.ownsRow _ _ _ _ _ E.length _; rw [hEl]; exact own_mono (own_only hE ho4 (fun q hq he => by subst he; exact own_off hE hC4 (by decide) hq)) (by omega), hx⟩
end Go.Proofs.YthlbhnefldaoiaaDoor

set_option linter.unusedSimpArgs false
set_option linter.unusedVariables false
set_option maxRecDepth 100000
namespace Go.Proofs.YthlbhnefldaoiaaDoor
open Go Go.Vc Go.RowKit Go.Proofs

def okE (s : Rs) : Prop := ∀ a b, s = .er a b → a ≠ 0
theorem okE_ok (k : Nat) : okE (.ok k) := fun _ _ h => by cases h
theorem okE_num (T : List UInt8) {s : Rs} {most e : Nat} (he : e ≠ 0) (hs : okE s) : okE (numS T s most e).2 := fun a b h => by
  refine numS_ne T (s := s) (most := most) (x := (numS T s most e).1) (q := b) he hs ?_
  rw [← h]
theorem okE_ents (T : List UInt8) : ∀ (n : Nat) (s : Rs) (es : List Int) (ps : List Nat), okE s → okE (entsS T n s es ps).1 := by
  intro n
  induction n with
  | zero => intro s es ps h; exact h
  | succ n ih =>
    intro s es ps h
    cases s with
    | er a b => exact h
    | ok k => exact ih _ _ _ (okE_num T (by decide) h)
theorem okE_op (T : List UInt8) (c : UInt8) {s : Rs} (hs : okE s) : okE (opS T c s).2 := by
  unfold opS
  split
  · exact hs
  · exact okE_num T (by decide) hs
theorem okE_ins (enc : Bool) (T : List UInt8) (k : Nat) : okE (insS enc T k).2 := by
  have h0 := okE_num T (s := .ok k) (most := 255) (e := 140) (by decide) (okE_ok k)
  unfold insS
  split
  · rename_i e p h
    rw [h] at h0; exact h0
  · split
    · intro a b h; cases h; decide
    · exact okE_op T _ (okE_op T _ (okE_op T _ (okE_ok _)))
theorem okE_inss (enc : Bool) (T : List UInt8) : ∀ (n : Nat) (s : Rs) (es : List Ins) (ps : List Nat), okE s → okE (inssS enc T n s es ps).1 := by
  intro n
  induction n with
  | zero => intro s es ps h; exact h
  | succ n ih =>
    intro s es ps h
    cases s with
    | er a b => exact h
    | ok k => exact ih _ _ _ (okE_ins enc T k)
theorem okE_decI (enc : Bool) (T : List UInt8) : okE (decI enc T).1 := okE_inss enc T _ _ _ _ (okE_num T (by decide) (okE_ents T _ _ _ _ (okE_num T (by decide) (okE_ok 2))))
/-- what is decoded is encoded to the same bytes -/
theorem dec_zero {T : List UInt8} (h : (decA T).1 = 0) : OkP (decQ T) ∧ lay (decQ T) = T := by
  have hQ : decQ T = pgS T := by unfold decQ; exact if_pos h
  by_cases hh : (hdrS T).1 = 0
  · rcases hd : (decI (encS T) T).1 with k | ⟨e, q⟩
    · by_cases hk : k < T.length
      · rw [decA_tail hh hd hk] at h; cases h
      · obtain ⟨h1, h2, h3, h4, -, -⟩ := dec_read hh hd
        rw [decA_end hh hd hk] at h
        have hc := chk_read h1
        have hz : (chk (pgS T)).1 = 0 := by
          split at h
          · simp at h
          · split at h
            · simp at h
            · omega
        rw [hQ]
        refine ⟨chk_zero.1 hz, ?_⟩
        have e : T.drop k = [] := List.drop_of_length_le (by omega)
        rw [e, List.append_nil] at h2
        exact h2.symm
    · rw [decA_er hh hd] at h
      exact absurd h (okE_decI _ _ e q hd)
  · rw [decA_hdr hh] at h; exact absurd h hh

set_option maxHeartbeats 16000000 in
theorem back_walk (w0 : World) (p : Pg) (cv ev_ : Value) (hp : PgR w0 p cv ev_) (hb : BPg p) (v : Value) (T : List UInt8) (hB : By w0 v T) (hR : T.length ≤ 9223372036854775807) (hT : Tab w0) : Ca Tryd.prog 6 #[.agg (pgV p cv ev_).toArray, v] w0 (fun r w' => r = .bool true ∧ Ext w0 w') := by
  obtain ⟨ta, tc, rfl⟩ := hB.isSlice
  have hcap := slice_cap hB
  obtain ⟨T1, hT1⟩ : ∃ T1, T1 = T.take (min T.length 3000) := ⟨_, rfl⟩
  have hT1l : T1.length = min T.length 3000 := by rw [hT1, List.length_take]; omega
  have hB1 : By w0 (sliced ta 0 (min T.length 3000) tc 1) T1 := by
    have h9 := Sl.sliced hB 0 (min T.length 3000) (Nat.zero_le _) (by omega)
    show Sl w0 1 _ T1.length (T1.map bv)
    rw [hT1l, hT1, List.map_take]
    simpa using h9
  obtain ⟨hql, hqe⟩ := decQ_len T1
  refine Ca.of Tryd.func6 Tryd.ntmps6 rfl rfl ?_
  refine W.seq ?_
  refine W.region ?_
  refine WL.c rfl (o_boxB rfl ?_)
  intro w2 hC2 hx2 hs2
  obtain ⟨b2, hb2⟩ : ∃ b, b = w0.heap.size := ⟨_, rfl⟩
  rw [← hb2] at hC2 ⊢
  replace hC2 : w2.heap[b2]? = some (.cells (pgV p cv ev_).toArray 26 (0, 0)) := hC2
  have hx : Ext w0 w2 := hx2
  have hg2 : w0.heap.size ≤ b2 := by omega
  refine WL.c rfl (o_ash (show _ = Value.bool _ from rfl) ?_)
  refine WL.nil ?_
  refine W.seq ?_
  refine W.seq ?_
  refine W.region ?_
  refine WL.c rfl (o_call Tryd.call10 ln ((awake_spec _ (hT.ext hx)).mono ?_))
  rintro v13 w13 ⟨rfl, hx13⟩
  replace hx := hx.tr hx13
  replace hC2 := hx13.blk hC2 (fun h => h)
  refine WL.c rfl (o_not' rfl ?_)
  refine WL.nil ?_
  refine W.condF' rfl (by decide) ?_
  refine W.skip ?_
  refine W.seq ?_
  refine W.region ?_
  refine WL.c rfl (o_ldA TI26 rfl rfl (show Cells _ b2 0 (pgV p cv ev_) from Cells.of hC2 0 _ (by simp [pgV])) rfl ?_)
  refine WL.c rfl (o_call Tryd.call17 (lc rfl (lc rfl ln)) ((made_spec p cv ev_ 400 _ (hp.ext hx) hb (by decide)).mono ?_))
  rintro v16 w16 ⟨q, cu, eu, rfl, hok, hq0, hq1, hq2, hcu, heu, hx16⟩
  have hql2 := hok.read.nc
  have hqe2 := hok.read.ne
  replace hx := hx.tr hx16
  replace hC2 := hx16.blk hC2 (fun h => h)
  refine WL.u (o_stA TI26 rfl (show _ = Value.agg (pgV q cu eu).toArray from rfl) rfl (by simp [pgV, own_one hcu, own_one heu]; rfl) hC2 rfl ?_)
  intro w2s hB2 ho2 hs2
  replace hx := hx.trans' ho2 (fun _ h => h) (fun k hk he => by omega)
  replace hcu := own_only hcu ho2 (fun k hk he => by subst he; exact own_off hcu hC2 (by decide) hk)
  replace heu := own_only heu ho2 (fun k hk he => by subst he; exact own_off heu hC2 (by decide) hk)
  clear hC2
  have hC2 := hB2
  clear hB2
  refine WL.nil ?_
  refine W.seq ?_
  refine W.region ?_
  refine WL.c rfl (o_ldA TI26 rfl rfl (show Cells _ b2 0 (pgV q cu eu) from Cells.of hC2 0 _ (by simp [pgV])) rfl ?_)
  refine WL.c rfl (o_call Tryd.call13 (lc rfl ln) ((encode_ok q hok cu eu _ ⟨Sl.own hcu, Sl.own heu⟩).mono ?_))
  rintro v19 w19 ⟨vb, rfl, hvb, hx19⟩
  replace hx := hx.tr hx19
  replace hcu := own_ext hcu hx19
  replace heu := own_ext heu hx19
  replace hC2 := hx19.blk hC2 (fun h => h)
  refine WL.c rfl (o_mvh (by first | exact (show _ = Value.tuple _ from rfl) | exact rfl) ?_)
  refine WL.c rfl (o_ext rfl rfl ?_)
  refine WL.c rfl (o_ext rfl rfl ?_)
  refine WL.c rfl (o_alB TI32 ?_)
  intro wa hCa hxa hsa
  refine WL.c rfl (o_ash (by first | exact (show _ = Value.slice _ _ _ from rfl) | exact rfl) ?_)
  refine WL.u (o_stA TI32 rfl (show _ = Value.agg ([.int .i64 0, .int .i64 0]).toArray from rfl) rfl rfl hCa rfl ?_)
  intro wb6 hC6 hob hsb
  have hxb := Ext.own hxa (Nat.le_refl _) hob
  obtain ⟨b6, hb6⟩ : ∃ b, b = w19.heap.size := ⟨_, rfl⟩
  rw [← hb6] at hC6 ⊢
  clear hCa hxa hsa hob hsb
  replace hx := hx.tr hxb
  replace hcu := own_ext hcu hxb
  replace heu := own_ext heu hxb
  replace hvb := own_ext hvb hxb
  replace hC2 := hxb.blk hC2 (fun h => h)
  clear hxb
  refine WL.nil ?_
  refine W.seq ?_
  refine W.region ?_
  refine WL.c rfl (o_mvh (by first | exact (show _ = Value.slice _ _ _ from rfl) | exact rfl) ?_)
  refine WL.c rfl (o_call Tryd.call14 (lc rfl ln) ((decode_ok q hok vb _ (Sl.own hvb)).mono ?_))
  rintro v24 w24 ⟨cq, eq_, rfl, hcq, heq, hx24⟩
  replace hx := hx.tr hx24
  replace hcu := own_ext hcu hx24
  replace heu := own_ext heu hx24
  replace hvb := own_ext hvb hx24
  replace hC2 := hx24.blk hC2 (fun h => h)
  replace hC6 := hx24.blk hC6 (fun h => h)
  refine WL.c rfl (o_mvh (by first | exact (show _ = Value.tuple _ from rfl) | exact rfl) ?_)
  refine WL.c rfl (o_ext rfl rfl ?_)
  refine WL.c rfl (o_ext rfl rfl ?_)
  refine WL.c rfl (o_alB TI26 ?_)
  intro w7 hC7 hx7 hs7
  obtain ⟨b7, hb7⟩ : ∃ b, b = w24.heap.size := ⟨_, rfl⟩
  rw [← hb7] at hC7 ⊢
  replace hC7 : w7.heap[b7]? = some (.cells ([.bool false, .slice none 0 0, .slice none 0 0]).toArray 26 (0, 0)) := hC7
  have hg7 : w0.heap.size ≤ b7 := by have := hx.size; omega
  have hn_b2_7 : b2 < b7 := by have := (Array.getElem?_eq_some_iff.1 hC2).1; omega
  have hn_b6_7 : b6 < b7 := by have := (Array.getElem?_eq_some_iff.1 hC6).1; omega
  replace hx := hx.tr hx7
  replace hC2 := hx7.blk hC2 (fun h => h)
  replace hC6 := hx7.blk hC6 (fun h => h)
  replace hcu := own_ext hcu hx7
  replace heu := own_ext heu hx7
  replace hvb := own_ext hvb hx7
  replace hcq := own_ext hcq hx7
  replace heq := own_ext heq hx7
  refine WL.c rfl (o_alB TI32 ?_)
  intro w8 hC8 hx8 hs8
  obtain ⟨b8, hb8⟩ : ∃ b, b = w7.heap.size := ⟨_, rfl⟩
  rw [← hb8] at hC8 ⊢
  replace hC8 : w8.heap[b8]? = some (.cells ([.int .i64 0, .int .i64 0]).toArray 32 (0, 0)) := hC8
  have hg8 : w0.heap.size ≤ b8 := by have := hx.size; omega
  have hn_b2_8 : b2 < b8 := by have := (Array.getElem?_eq_some_iff.1 hC2).1; omega
  have hn_b6_8 : b6 < b8 := by have := (Array.getElem?_eq_some_iff.1 hC6).1; omega
  have hn_b7_8 : b7 < b8 := by have := (Array.getElem?_eq_some_iff.1 hC7).1; omega
  replace hx := hx.tr hx8
  replace hC2 := hx8.blk hC2 (fun h => h)
  replace hC6 := hx8.blk hC6 (fun h => h)
  replace hC7 := hx8.blk hC7 (fun h => h)
  replace hcu := own_ext hcu hx8
  replace heu := own_ext heu hx8
  replace hvb := own_ext hvb hx8
  replace hcq := own_ext hcq hx8
  replace heq := own_ext heq hx8
  refine WL.u (o_stA TI26 rfl (show _ = Value.agg (pgV q cq eq_).toArray from rfl) rfl (by simp [pgV, own_one hcq, own_one heq]; rfl) hC7 rfl ?_)
  intro w7t hBn hon hsn
  replace hx := hx.trans' hon (fun _ h => h) (fun k hk he => by omega)
  replace hcu := own_only hcu hon (fun k hk he => by subst he; exact own_off hcu hC7 (by decide) hk)
  replace heu := own_only heu hon (fun k hk he => by subst he; exact own_off heu hC7 (by decide) hk)
  replace hvb := own_only hvb hon (fun k hk he => by subst he; exact own_off hvb hC7 (by decide) hk)
  replace hcq := own_only hcq hon (fun k hk he => by subst he; exact own_off hcq hC7 (by decide) hk)
  replace heq := own_only heq hon (fun k hk he => by subst he; exact own_off heq hC7 (by decide) hk)
  replace hC2 := hon.blk hC2 (by omega)
  replace hC6 := hon.blk hC6 (by omega)
  replace hC8 := hon.blk hC8 (by omega)
  clear hC7
  have hC7 := hBn
  clear hBn
  refine WL.u (o_stA TI32 rfl (show _ = Value.agg ([.int .i64 0, .int .i64 0]).toArray from rfl) rfl rfl hC8 rfl ?_)
  intro w8t hBn hon hsn
  replace hx := hx.trans' hon (fun _ h => h) (fun k hk he => by omega)
  replace hcu := own_only hcu hon (fun k hk he => by subst he; exact own_off hcu hC8 (by decide) hk)
  replace heu := own_only heu hon (fun k hk he => by subst he; exact own_off heu hC8 (by decide) hk)
  replace hvb := own_only hvb hon (fun k hk he => by subst he; exact own_off hvb hC8 (by decide) hk)
  replace hcq := own_only hcq hon (fun k hk he => by subst he; exact own_off hcq hC8 (by decide) hk)
  replace heq := own_only heq hon (fun k hk he => by subst he; exact own_off heq hC8 (by decide) hk)
  replace hC2 := hon.blk hC2 (by omega)
  replace hC6 := hon.blk hC6 (by omega)
  replace hC7 := hon.blk hC7 (by omega)
  clear hC8
  have hC8 := hBn
  clear hBn
  refine WL.nil ?_
  refine W.seq ?_
  refine W.seq ?_
  refine W.region ?_
  refine WL.c rfl (o_fa 0 TI32 rfl TI30 rfl rfl ?_)
  refine WL.c rfl (o_ld TI30 rfl rfl (cell_of hC6 rfl) ?_)
  refine WL.c rfl (o_call Tryd.call20 (lc rfl ln) ((num_spec 0 _).mono ?_))
  rintro v29 w29 ⟨rfl, hw29⟩
  obtain rfl := hw29.symm
  refine WL.c rfl (o_ne rfl rfl ?_)
  refine WL.c rfl (o_mvh (show _ = Value.bool _ from rfl) ?_)
  refine WL.g rfl (by decide) rfl (o_fa 0 TI32 rfl TI30 rfl rfl ?_)
  refine WL.g rfl (by decide) rfl (o_ld TI30 rfl rfl (cell_of hC8 rfl) ?_)
  refine WL.g rfl (by decide) rfl (o_call Tryd.call20 (lc rfl ln) ((num_spec 0 _).mono ?_))
  rintro v34 w34 ⟨rfl, hw34⟩
  obtain rfl := hw34.symm
  refine WL.g rfl (by decide) rfl (o_ne rfl rfl ?_)
  refine WL.c rfl (o_pickO rfl rfl ?_)
  refine WL.c rfl (o_mvh (show _ = Value.bool _ from rfl) ?_)
  refine WL.g rfl (by decide) rfl (o_ldA TI26 rfl rfl (show Cells _ b2 0 (pgV q cu eu) from Cells.of hC2 0 _ (by simp [pgV])) rfl ?_)
  refine WL.g rfl (by decide) rfl (o_ldA TI26 rfl rfl (show Cells _ b7 0 (pgV q cq eq_) from Cells.of hC7 0 _ (by simp [pgV])) rfl ?_)
  refine WL.g rfl (by decide) rfl (o_call Tryd.call15 (lc rfl (lc rfl ln)) ((equal_spec q q cu eu cq eq_ _ ⟨Sl.own hcu, Sl.own heu⟩ ⟨Sl.own hcq, Sl.own heq⟩ (by omega) (by omega)).mono ?_))
  rintro v40 w40 ⟨rfl, hx40⟩
  replace hx := hx.tr hx40
  replace hcu := own_ext hcu hx40
  replace heu := own_ext heu hx40
  replace hvb := own_ext hvb hx40
  replace hcq := own_ext hcq hx40
  replace heq := own_ext heq hx40
  replace hC2 := hx40.blk hC2 (fun h => h)
  replace hC6 := hx40.blk hC6 (fun h => h)
  replace hC7 := hx40.blk hC7 (fun h => h)
  replace hC8 := hx40.blk hC8 (fun h => h)
  refine WL.g rfl (by decide) rfl (o_not' rfl ?_)
  refine WL.c rfl (o_pickO rfl rfl ?_)
  refine WL.c rfl (o_mvh (show _ = Value.bool _ from rfl) ?_)
  refine WL.g rfl (by simp) rfl (o_ldA TI26 rfl rfl (show Cells _ b2 0 (pgV q cu eu) from Cells.of hC2 0 _ (by simp [pgV])) rfl ?_)
  refine WL.g rfl (by simp) rfl (o_ldA TI26 rfl rfl (show Cells _ b7 0 (pgV q cq eq_) from Cells.of hC7 0 _ (by simp [pgV])) rfl ?_)
  refine WL.g rfl (by simp) rfl (o_call Tryd.call19 (lc rfl (lc rfl ln)) ((requal_spec q q cu eu cq eq_ _ ⟨Sl.own hcu, Sl.own heu⟩ ⟨Sl.own hcq, Sl.own heq⟩ (by omega) (by omega)).mono ?_))
  rintro v46 w46 ⟨rfl, hx46⟩
  replace hx := hx.tr hx46
  replace hcu := own_ext hcu hx46
  replace heu := own_ext heu hx46
  replace hvb := own_ext hvb hx46
  replace hcq := own_ext hcq hx46
  replace heq := own_ext heq hx46
  replace hC2 := hx46.blk hC2 (fun h => h)
  replace hC6 := hx46.blk hC6 (fun h => h)
  replace hC7 := hx46.blk hC7 (fun h => h)
  replace hC8 := hx46.blk hC8 (fun h => h)
  refine WL.g rfl (by simp) rfl (o_not' rfl ?_)
  refine WL.c rfl (o_pickO rfl rfl ?_)
  refine WL.nil ?_
  refine W.condF' rfl (by simp) ?_
  refine W.skip ?_
  refine W.seq ?_
  refine W.region ?_
  refine WL.c rfl (o_mvh (by first | exact (show _ = Value.slice _ _ _ from rfl) | exact rfl) ?_)
  refine WL.c rfl (o_mvh (by first | exact (show _ = Value.slice _ _ _ from rfl) | exact rfl) ?_)
  refine WL.c rfl (o_lenR TI34 rfl (hB.ext hx) ?_)
  refine WL.c rfl (o_minI rfl rfl ?_)
  refine WL.c rfl (o_slv (h := min T.length 3000) TI34 TI5 (show _ = Value.slice ta T.length tc from rfl) Lo.n (Hi.s (by show Value.int .i64 (if _ then _ else _) = _; congr 1; split <;> omega)) (Nat.zero_le _) (by omega) ?_)
  generalize sliced ta 0 (min T.length 3000) tc 1 = v53 at hB1 ⊢
  refine WL.c rfl (o_ash (by first | exact (show _ = Value.slice _ _ _ from rfl) | exact rfl) ?_)
  refine WL.nil ?_
  refine W.seq ?_
  refine W.region ?_
  refine WL.c rfl (o_mvh (by first | exact (show _ = Value.slice _ _ _ from rfl) | exact rfl) ?_)
  refine WL.c rfl (o_call Tryd.call14 (lc rfl ln) ((decode_by T1 _ _ (hB1.ext hx) (by omega)).mono ?_))
  rintro v56 w56 ⟨cr, er, rfl, hcr, her, hx56⟩
  replace hx := hx.tr hx56
  refine WL.c rfl (o_mvh (by first | exact (show _ = Value.tuple _ from rfl) | exact rfl) ?_)
  refine WL.c rfl (o_ext rfl rfl ?_)
  refine WL.c rfl (o_ext rfl rfl ?_)
  refine WL.c rfl (o_alB TI26 ?_)
  intro w9 hC9 hx9 hs9
  obtain ⟨b9, hb9⟩ : ∃ b, b = w56.heap.size := ⟨_, rfl⟩
  rw [← hb9] at hC9 ⊢
  replace hC9 : w9.heap[b9]? = some (.cells ([.bool false, .slice none 0 0, .slice none 0 0]).toArray 26 (0, 0)) := hC9
  have hg9 : w0.heap.size ≤ b9 := by have := hx.size; omega
  replace hx := hx.tr hx9
  replace hcr := own_ext hcr hx9
  replace her := own_ext her hx9
  refine WL.c rfl (o_alB TI32 ?_)
  intro w10 hC10 hx10 hs10
  obtain ⟨b10, hb10⟩ : ∃ b, b = w9.heap.size := ⟨_, rfl⟩
  rw [← hb10] at hC10 ⊢
  replace hC10 : w10.heap[b10]? = some (.cells ([.int .i64 0, .int .i64 0]).toArray 32 (0, 0)) := hC10
  have hg10 : w0.heap.size ≤ b10 := by have := hx.size; omega
  have hn_b9_10 : b9 < b10 := by have := (Array.getElem?_eq_some_iff.1 hC9).1; omega
  replace hx := hx.tr hx10
  replace hC9 := hx10.blk hC9 (fun h => h)
  replace hcr := own_ext hcr hx10
  replace her := own_ext her hx10
  refine WL.u (o_stA TI26 rfl (show _ = Value.agg (pgV (decQ T1) cr er).toArray from rfl) rfl (by simp [pgV, own_one hcr, own_one her]; rfl) hC9 rfl ?_)
  intro w9t hBn hon hsn
  replace hx := hx.trans' hon (fun _ h => h) (fun k hk he => by omega)
  replace hcr := own_only hcr hon (fun k hk he => by subst he; exact own_off hcr hC9 (by decide) hk)
  replace her := own_only her hon (fun k hk he => by subst he; exact own_off her hC9 (by decide) hk)
  replace hC10 := hon.blk hC10 (by omega)
  clear hC9
  have hC9 := hBn
  clear hBn
  refine WL.u (o_stA TI32 rfl (show _ = Value.agg ([.int .i64 ((decA T1).1 : Int), .int .i64 ((decA T1).2 : Int)]).toArray from rfl) rfl rfl hC10 rfl ?_)
  intro w10t hBn hon hsn
  replace hx := hx.trans' hon (fun _ h => h) (fun k hk he => by omega)
  replace hcr := own_only hcr hon (fun k hk he => by subst he; exact own_off hcr hC10 (by decide) hk)
  replace her := own_only her hon (fun k hk he => by subst he; exact own_off her hC10 (by decide) hk)
  replace hC9 := hon.blk hC9 (by omega)
  clear hC10
  have hC10 := hBn
  clear hBn
  refine WL.nil ?_
  refine W.seq ?_
  refine W.seq ?_
  refine W.region ?_
  refine WL.c rfl (o_fa 0 TI32 rfl TI30 rfl rfl ?_)
  refine WL.c rfl (o_ld TI30 rfl rfl (cell_of hC10 rfl) ?_)
  refine WL.c rfl (o_call Tryd.call20 (lc rfl ln) ((num_spec _ _).mono ?_))
  rintro v61 w61 ⟨rfl, hw61⟩
  obtain rfl := hw61.symm
  refine WL.c rfl (o_ne rfl rfl ?_)
  refine WL.nil ?_
  refine W.cond rfl (fun c62 => ?_) (fun c62 => ?_)
  · try simp only [decide_eq_true_eq, decide_eq_false_iff_not, Bool.not_eq_true', Bool.not_eq_false', Bool.and_eq_true, Bool.or_eq_true, Bool.and_eq_false_iff, Bool.or_eq_false_iff] at c62
    have hQ : decQ T1 = ⟨false, [], []⟩ := decQ_ne (e := (decA T1).1) (a := (decA T1).2) rfl (by first | omega | (intro h; apply c62; rw [h]; rfl) | (intro h; simp [h] at c62))
    refine W.seq ?_
    refine W.region ?_
    refine WL.c rfl (o_fa 1 TI26 rfl TI23 rfl rfl ?_)
    refine WL.c rfl (o_ld TI23 rfl rfl (cell_of hC9 rfl) ?_)
    refine WL.c rfl (o_lenR TI23 rfl (Sl.own hcr) ?_)
    refine WL.c rfl (o_eq rfl rfl ?_)
    refine WL.c rfl (o_mvh (show _ = Value.bool _ from rfl) ?_)
    refine WL.g rfl (by simp [hQ]) rfl (o_fa 2 TI26 rfl TI24 rfl rfl ?_)
    refine WL.g rfl (by simp [hQ]) rfl (o_ld TI24 rfl rfl (cell_of hC9 rfl) ?_)
    refine WL.g rfl (by simp [hQ]) rfl (o_lenR TI24 rfl (Sl.own her) ?_)
    refine WL.g rfl (by simp [hQ]) rfl (o_eq rfl rfl ?_)
    refine WL.c rfl (o_pickA rfl rfl ?_)
    refine WL.c rfl (o_mvh (show _ = Value.bool _ from rfl) ?_)
    refine WL.g rfl (by simp [hQ]) rfl (o_fa 0 TI26 rfl TI4 rfl rfl ?_)
    refine WL.g rfl (by simp [hQ]) rfl (o_ld TI4 rfl rfl (cell_of hC9 rfl) ?_)
    refine WL.g rfl (by simp [hQ]) rfl (o_not' rfl ?_)
    refine WL.c rfl (o_pickA rfl rfl ?_)
    refine WL.c rfl (o_ash (show _ = Value.bool _ from rfl) ?_)
    refine WL.nil ?_
    refine W.ret ?_
    refine ret1v rfl (show _ = Value.bool _ from rfl) ?_
    exact ⟨by simp [hQ], hx⟩
  · try simp only [decide_eq_true_eq, decide_eq_false_iff_not, Bool.not_eq_true', Bool.not_eq_false', Bool.and_eq_true, Bool.or_eq_true, Bool.and_eq_false_iff, Bool.or_eq_false_iff] at c62
    have hz : (decA T1).1 = 0 := by omega
    obtain ⟨hok2, hlay⟩ := dec_zero hz
    refine W.skip ?_
    refine W.seq ?_
    refine W.region ?_
    refine WL.c rfl (o_ldA TI26 rfl rfl (show Cells _ b9 0 (pgV (decQ T1) cr er) from Cells.of hC9 0 _ (by simp [pgV])) rfl ?_)
    refine WL.c rfl (o_call Tryd.call13 (lc rfl ln) ((encode_ok (decQ T1) hok2 cr er _ ⟨Sl.own hcr, Sl.own her⟩).mono ?_))
    rintro v80 w80 ⟨vb2, rfl, hvb2, hx80⟩
    replace hx := hx.tr hx80
    refine WL.c rfl (o_mvh (by first | exact (show _ = Value.tuple _ from rfl) | exact rfl) ?_)
    refine WL.c rfl (o_ext rfl rfl ?_)
    refine WL.c rfl (o_ext rfl rfl ?_)
    refine WL.c rfl (o_alB TI32 ?_)
    intro wa hCa hxa hsa
    refine WL.c rfl (o_ash (by first | exact (show _ = Value.slice _ _ _ from rfl) | exact rfl) ?_)
    refine WL.u (o_stA TI32 rfl (show _ = Value.agg ([.int .i64 0, .int .i64 0]).toArray from rfl) rfl rfl hCa rfl ?_)
    intro wb12 hC12 hob hsb
    have hxb := Ext.own hxa (Nat.le_refl _) hob
    obtain ⟨b12, hb12⟩ : ∃ b, b = w80.heap.size := ⟨_, rfl⟩
    rw [← hb12] at hC12 ⊢
    clear hCa hxa hsa hob hsb
    replace hx := hx.tr hxb
    replace hvb2 := own_ext hvb2 hxb
    clear hxb
    refine WL.nil ?_
    refine W.seq ?_
    refine W.region ?_
    refine WL.c rfl (o_fa 0 TI32 rfl TI30 rfl rfl ?_)
    refine WL.c rfl (o_ld TI30 rfl rfl (cell_of hC12 rfl) ?_)
    refine WL.c rfl (o_call Tryd.call20 (lc rfl ln) ((num_spec 0 _).mono ?_))
    rintro v85 w85 ⟨rfl, hw85⟩
    obtain rfl := hw85.symm
    refine WL.c rfl (o_eq rfl rfl ?_)
    refine WL.c rfl (o_mvh (show _ = Value.bool _ from rfl) ?_)
    refine WL.g rfl (by decide) rfl (o_mvh (by first | exact (show _ = Value.slice _ _ _ from rfl) | exact rfl) ?_)
    refine WL.g rfl (by decide) rfl (o_cvBS TI34 TI5 TI9 rfl (Sl.own hvb2) ?_)
    refine WL.g rfl (by decide) rfl (o_mvh (by first | exact (show _ = Value.slice _ _ _ from rfl) | exact rfl) ?_)
    refine WL.g rfl (by decide) rfl (o_cvBS TI34 TI5 TI9 rfl (hB1.ext hx) ?_)
    refine WL.g rfl (by decide) rfl (o_eqT rfl rfl ?_)
    refine WL.c rfl (o_pickA rfl rfl ?_)
    refine WL.c rfl (o_ash (show _ = Value.bool _ from rfl) ?_)
    refine WL.nil ?_
    refine W.ret ?_
    refine ret1v rfl (show _ = Value.bool _ from rfl) ?_
    exact ⟨by rw [hlay]; simp, hx⟩
end Go.Proofs.YthlbhnefldaoiaaDoor
