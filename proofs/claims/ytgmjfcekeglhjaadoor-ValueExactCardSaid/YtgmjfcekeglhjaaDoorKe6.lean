/-
  Walks and lemmas. Written by program out of specs of mine.
-/
import Derived.WalkKit
import Derived.WalkSpells
import Derived.WalkLawsBesides
import Derived.Deep.Quiet
import Derived.StillTail
import Derived.StringKeys
import Derived.Laws.StructEq
import Derived.Laws.Externs
import Derived.Laws.Tables
import Derived.Scope
import Derived.Laws.AppendOwn
import Derived.Maps.AppendAt
import Derived.Recover
import Derived.Test.YtgmjfcekeglhjaaDoorProg
import Derived.Maps.OwnSet
import Derived.Shelf.Strconv.Itoa0
import Derived.Shelf.Strconv.Itoa1
import Derived.Shelf.LaysM
import Derived.Shelf.Strconv.Itoa2
import Derived.Lib.ItoaMem
import Derived.Lib.ItoaLen
import Derived.DeepKeys3
import Derived.SizedLaws
import Derived.ChangeArms
import Derived.ChangeSlices
import Derived.Lib.ConvBytes
import Derived.Test.YtgmjfcekeglhjaaDoorRows
import Derived.ProofKit
import Derived.OpenShut
import Derived.ShutString
import Derived.ChangeOld
import Derived.Below
import Derived.JoinedCond
import Derived.SliceStrings
import Derived.Test.YtgmjfcekeglhjaaDoorCards
import Derived.Test.YtgmjfcekeglhjaaDoorTie
import Derived.Deep.DeepHandedRow
import Derived.Lib.LaidTab
import Derived.Test.YtgmjfcekeglhjaaDoorKe5
set_option linter.unusedSimpArgs false
set_option linter.unusedVariables false
set_option maxRecDepth 100000
set_option linter.unusedSimpArgs false
set_option linter.unusedVariables false
set_option maxRecDepth 100000
namespace Go.Proofs.YtgmjfcekeglhjaaDoor
open Go Go.Vc Go.RowKit Go.Proofs
set_option maxHeartbeats 2000000 in
theorem rrkid_spec (L : List Nd) (v : Value) (at_ k : Int) (w0 : World) (hS : Sl w0 3 v L.length (nds L)) (hl : L.length ≤ 5864062014805) : Ca Tryd.prog 56 #[v, .int .i64 at_, .int .i64 k] w0 (fun r w' => r = .tuple #[.int .i64 (if kidE L at_ k = 0 then (kidP L (at_.toNat + 1) k.toNat : Int) else 0), .int .i64 (kidE L at_ k)] ∧ Ext w0 w') := by
  refine Ca.of Tryd.func56 Tryd.ntmps56 rfl rfl ?_
  refine W.seq ?_
  refine W.region ?_
  refine WL.c rfl (o_ash (show _ = Value.int _ _ from rfl) ?_)
  refine WL.c rfl (o_ash (show _ = Value.int _ _ from rfl) ?_)
  refine WL.nil ?_
  refine W.seq ?_
  refine W.region ?_
  refine WL.c rfl (o_mvh (by first | exact (show _ = Value.slice _ _ _ from rfl) | exact rfl) ?_)
  refine WL.c rfl (o_mvh (show _ = Value.int _ _ from rfl) ?_)
  refine WL.c rfl (o_call Tryd.call32 (lc rfl (lc rfl ln)) ((rnext_spec L v at_ _ hS hl).mono ?_))
  rintro v15 w15 ⟨rfl, hx15⟩
  have hx := hx15
  refine WL.c rfl (o_mvh (by first | exact (show _ = Value.tuple _ from rfl) | exact rfl) ?_)
  refine WL.c rfl (o_ext rfl rfl ?_)
  refine WL.c rfl (o_ext rfl rfl ?_)
  refine WL.c rfl (o_ash (show _ = Value.int _ _ from rfl) ?_)
  refine WL.c rfl (o_ash (show _ = Value.int _ _ from rfl) ?_)
  refine WL.nil ?_
  refine W.seq ?_
  refine W.seq ?_
  refine W.region ?_
  refine WL.c rfl (o_mvh (show _ = Value.int _ _ from rfl) ?_)
  refine WL.c rfl (o_ne rfl rfl ?_)
  refine WL.nil ?_
  refine W.cond rfl (fun c19 => ?_) (fun c19 => ?_)
  · try simp only [decide_eq_true_eq, decide_eq_false_iff_not, Bool.not_eq_true', Bool.not_eq_false', Bool.and_eq_true, Bool.or_eq_true, Bool.and_eq_false_iff, Bool.or_eq_false_iff] at c19
    have hth : ¬ thereV L at_ = 0 := by simpa using c19
    have hE : kidE L at_ k = thereV L at_ := if_pos hth
    refine W.seq ?_
    refine W.region ?_
    refine WL.c rfl (o_mvh (show _ = Value.int _ _ from rfl) ?_)
    refine WL.c rfl (o_ash (show _ = Value.int _ _ from rfl) ?_)
    refine WL.c rfl (o_ash (show _ = Value.int _ _ from rfl) ?_)
    refine WL.nil ?_
    refine W.ret ?_
    refine ret2v rfl (show _ = Value.int _ _ from rfl) (show _ = Value.int _ _ from rfl) ?_
    exact ⟨by rw [hE, if_neg hth], hx⟩
  · try simp only [decide_eq_true_eq, decide_eq_false_iff_not, Bool.not_eq_true', Bool.not_eq_false', Bool.and_eq_true, Bool.or_eq_true, Bool.and_eq_false_iff, Bool.or_eq_false_iff] at c19
    have hth : thereV L at_ = 0 := by simpa using c19
    obtain ⟨hck, ha0, ha1⟩ := there_ok hth
    obtain ⟨p, rfl⟩ : ∃ p : Nat, at_ = (p : Int) := ⟨at_.toNat, by omega⟩
    have hp : p < L.length := by omega
    obtain ⟨ub, uo, uc, hv, huc⟩ := Sl.nd (hS.ext hx) hp
    have hE : kidE L p k = if k < 0 ∨ L[p].kids ≤ k then 3 else 0 := by rw [kidE, if_neg (fun h => h hth), Int.toNat_natCast, List.getD_eq_getElem?_getD, List.getElem?_eq_getElem hp]; rfl
    refine W.skip ?_
    refine W.seq ?_
    refine W.seq ?_
    by_cases hk0 : k < 0
    · skip
      skip
      refine W.region ?_
      refine WL.c rfl (o_mvh (show _ = Value.int _ _ from rfl) ?_)
      refine WL.c rfl (o_lt rfl rfl ?_)
      refine WL.c rfl (o_mvh (show _ = Value.bool _ from rfl) ?_)
      refine WL.s rfl (by simpa using hk0) rfl ?_
      refine WL.s rfl (by simpa using hk0) rfl ?_
      refine WL.s rfl (by simpa using hk0) rfl ?_
      refine WL.s rfl (by simpa using hk0) rfl ?_
      refine WL.s rfl (by simpa using hk0) rfl ?_
      refine WL.s rfl (by simpa using hk0) rfl ?_
      refine WL.s rfl (by simpa using hk0) rfl ?_
      refine WL.c rfl (o_pickT rfl (by simpa using hk0) ?_)
      refine WL.nil ?_
      refine W.condT' rfl (rfl) ?_
      refine W.seq ?_
      refine W.region ?_
      refine WL.c rfl (o_ash (show _ = Value.int _ _ from rfl) ?_)
      refine WL.c rfl (o_ash (show _ = Value.int _ _ from rfl) ?_)
      refine WL.nil ?_
      refine W.ret ?_
      refine ret2v rfl (show _ = Value.int _ _ from rfl) (show _ = Value.int _ _ from rfl) ?_
      exact ⟨by rw [hE, if_pos (show k < 0 ∨ L[p].kids ≤ k from .inl hk0)]; rfl, hx⟩
    · skip
      skip
      refine W.region ?_
      refine WL.c rfl (o_mvh (show _ = Value.int _ _ from rfl) ?_)
      refine WL.c rfl (o_lt rfl rfl ?_)
      refine WL.c rfl (o_mvh (show _ = Value.bool _ from rfl) ?_)
      refine WL.g rfl (by simpa using hk0) rfl (o_mvh (show _ = Value.int _ _ from rfl) ?_)
      refine WL.g rfl (by simpa using hk0) rfl (o_mvh (by first | exact (show _ = Value.slice _ _ _ from rfl) | exact rfl) ?_)
      refine WL.g rfl (by simpa using hk0) rfl (o_mvh (show _ = Value.int _ _ from rfl) ?_)
      refine WL.g rfl (by simpa using hk0) rfl (o_ixB (i := p) TI30 TI69 (show _ = Value.slice (some ⟨ub, uo, none⟩) L.length uc from hv) (show _ = Value.int .i64 (p : Int) from rfl) (by omega) ?_)
      refine WL.g rfl (by simpa using hk0) rfl (o_fa 2 TI69 rfl TI3 rfl rfl ?_)
      refine WL.g rfl (by simpa using hk0) rfl (o_ld TI3 rfl rfl (huc 2 _ rfl) ?_)
      refine WL.g rfl (by simpa using hk0) rfl (o_ge rfl rfl ?_)
      refine WL.c rfl (o_pickO rfl rfl ?_)
      refine WL.nil ?_
      refine W.cond rfl (fun c31 => ?_) (fun c31 => ?_)
      · try simp only [decide_eq_true_eq, decide_eq_false_iff_not, Bool.not_eq_true', Bool.not_eq_false', Bool.and_eq_true, Bool.or_eq_true, Bool.and_eq_false_iff, Bool.or_eq_false_iff] at c31
        have hb : k < 0 ∨ L[p].kids ≤ k := by omega
        refine W.seq ?_
        refine W.region ?_
        refine WL.c rfl (o_ash (show _ = Value.int _ _ from rfl) ?_)
        refine WL.c rfl (o_ash (show _ = Value.int _ _ from rfl) ?_)
        refine WL.nil ?_
        refine W.ret ?_
        refine ret2v rfl (show _ = Value.int _ _ from rfl) (show _ = Value.int _ _ from rfl) ?_
        exact ⟨by rw [hE, if_pos hb]; rfl, hx⟩
      · try simp only [decide_eq_true_eq, decide_eq_false_iff_not, Bool.not_eq_true', Bool.not_eq_false', Bool.and_eq_true, Bool.or_eq_true, Bool.and_eq_false_iff, Bool.or_eq_false_iff] at c31
        have hb : ¬ (k < 0 ∨ L[p].kids ≤ k) := by omega
        obtain ⟨m, rfl⟩ : ∃ m : Nat, k = (m : Int) := ⟨k.toNat, by omega⟩
        rw [if_neg hb] at hE
        refine W.skip ?_
        refine W.seq ?_
        refine W.region ?_
        refine WL.c rfl (o_mvh (show _ = Value.int _ _ from rfl) ?_)
        refine WL.c rfl (o_addi rfl rfl (by omega) ?_)
        refine WL.c rfl (o_ash (show _ = Value.int _ _ from rfl) ?_)
        refine WL.nil ?_
        refine W.seq ?_
        refine W.seq ?_
        refine W.region ?_
        refine WL.c rfl (o_ash (show _ = Value.int _ _ from rfl) ?_)
        refine WL.nil ?_
        refine W.block ?_
        refine W.loop (fun e w => ∃ j : Nat, j ≤ m ∧ e 0 = v ∧ e 2 = .int .i64 (m : Int) ∧ e 10 = .int .i64 (kidP L (p + 1) j : Int) ∧ e 11 = .int .i64 (j : Int) ∧ Ext w0 w) (fun e w => m - (intOf (e 11)).toNat) ?_ ?_
        · exact ⟨0, Nat.zero_le _, rfl, rfl, rfl, rfl, hx⟩
        rintro e w ⟨j, hj, h0, h2, h10, h11, hx⟩
        have hm11 := h11
        refine W.seq ?_
        refine W.seq ?_
        refine W.region ?_
        refine WL.c rfl (o_mvh h11 ?_)
        refine WL.c rfl (o_mvh h2 ?_)
        refine WL.c rfl (o_lt rfl rfl ?_)
        refine WL.nil ?_
        refine W.cond rfl (fun c36 => ?_) (fun c36 => ?_)
        · try simp only [decide_eq_true_eq, decide_eq_false_iff_not, Bool.not_eq_true', Bool.not_eq_false', Bool.and_eq_true, Bool.or_eq_true, Bool.and_eq_false_iff, Bool.or_eq_false_iff] at c36
          have hj1 : j < m := by omega
          have hmx := (right_kids (node_at hck hp).choose_spec.choose_spec.1).2
          obtain ⟨hk1, hk2⟩ := kid_lt hck hp (k := j) (by omega)
          refine W.skip ?_
          refine W.seq ?_
          refine W.block ?_
          refine W.region ?_
          refine WL.c rfl (o_mvh h0 ?_)
          refine WL.c rfl (o_mvh h10 ?_)
          refine WL.c rfl (o_call Tryd.call54 (lc rfl (lc rfl ln)) ((rbehind_spec L v (kidP L (p + 1) j) _ (hS.ext hx) hl hck hk1).mono ?_))
          rintro v41 w41 ⟨rfl, hx41⟩
          replace hx := hx.tr hx41
          refine WL.c rfl (o_ash (show _ = Value.int _ _ from rfl) ?_)
          refine WL.nil ?_
          refine W.region ?_
          refine WL.c rfl (o_mvh h11 ?_)
          refine WL.c rfl (o_addi rfl rfl (by omega) ?_)
          refine WL.c rfl (o_ash (show _ = Value.int _ _ from rfl) ?_)
          refine WL.nil ?_
          refine ⟨⟨j + 1, by omega, h0, h2, rfl, rfl, hx⟩, ?_⟩
          show m - ((j : Int) + 1).toNat < _
          rw [hm11]; simp [intOf]; omega
        · try simp only [decide_eq_true_eq, decide_eq_false_iff_not, Bool.not_eq_true', Bool.not_eq_false', Bool.and_eq_true, Bool.or_eq_true, Bool.and_eq_false_iff, Bool.or_eq_false_iff] at c36
          have hj1 : j = m := by omega
          subst hj1
          refine W.exit ?_
          refine W.seq ?_
          refine W.region ?_
          refine WL.c rfl (o_mvh h10 ?_)
          refine WL.c rfl (o_ash (show _ = Value.int _ _ from rfl) ?_)
          refine WL.c rfl (o_ash (show _ = Value.int _ _ from rfl) ?_)
          refine WL.nil ?_
          refine W.ret ?_
          refine ret2v rfl (show _ = Value.int _ _ from rfl) (show _ = Value.int _ _ from rfl) ?_
          exact ⟨by rw [hE, if_pos rfl]; rfl, hx⟩
set_option maxHeartbeats 4000000 in
theorem rpath_spec (L : List Nd) (v : Value) (at_ : Int) (w0 : World) (hS : Sl w0 3 v L.length (nds L)) (hl : L.length ≤ 5864062014805) : Ca Tryd.prog 57 #[v, .int .i64 at_] w0 (fun r w' => ∃ (pv : Value) (ps : List Nat), r = .tuple #[pv, .int .i64 (thereV L at_)] ∧ w'.ownsRow w0.heap.size 3 1 pv ps.length (ints ps) ∧ (thereV L at_ = 0 → Way L at_.toNat 0 ps) ∧ (¬ thereV L at_ = 0 → ps = []) ∧ ps.length ≤ L.length ∧ Ext w0 w') := by
  refine Ca.of Tryd.func57 Tryd.ntmps57 rfl rfl ?_
  refine W.seq ?_
  refine W.region ?_
  refine WL.c rfl (o_ash (by first | exact (show _ = Value.slice _ _ _ from rfl) | exact rfl) ?_)
  refine WL.c rfl (o_ash (show _ = Value.int _ _ from rfl) ?_)
  refine WL.nil ?_
  refine W.seq ?_
  refine W.region ?_
  refine WL.c rfl (o_mvh (by first | exact (show _ = Value.slice _ _ _ from rfl) | exact rfl) ?_)
  refine WL.c rfl (o_mvh (show _ = Value.int _ _ from rfl) ?_)
  refine WL.c rfl (o_call Tryd.call32 (lc rfl (lc rfl ln)) ((rnext_spec L v at_ _ hS hl).mono ?_))
  rintro v15 w15 ⟨rfl, hx15⟩
  have hx := hx15
  refine WL.c rfl (o_mvh (by first | exact (show _ = Value.tuple _ from rfl) | exact rfl) ?_)
  refine WL.c rfl (o_ext rfl rfl ?_)
  refine WL.c rfl (o_ext rfl rfl ?_)
  refine WL.c rfl (o_ash (show _ = Value.int _ _ from rfl) ?_)
  refine WL.c rfl (o_ash (show _ = Value.int _ _ from rfl) ?_)
  refine WL.nil ?_
  refine W.seq ?_
  refine W.seq ?_
  refine W.region ?_
  refine WL.c rfl (o_mvh (show _ = Value.int _ _ from rfl) ?_)
  refine WL.c rfl (o_ne rfl rfl ?_)
  refine WL.nil ?_
  refine W.cond rfl (fun c19 => ?_) (fun c19 => ?_)
  · try simp only [decide_eq_true_eq, decide_eq_false_iff_not, Bool.not_eq_true', Bool.not_eq_false', Bool.and_eq_true, Bool.or_eq_true, Bool.and_eq_false_iff, Bool.or_eq_false_iff] at c19
    have hth : ¬ thereV L at_ = 0 := by simpa using c19
    refine W.seq ?_
    refine W.region ?_
    refine WL.c rfl (o_mvh (show _ = Value.int _ _ from rfl) ?_)
    refine WL.c rfl (o_ash (by first | exact (show _ = Value.slice _ _ _ from rfl) | exact rfl) ?_)
    refine WL.c rfl (o_ash (show _ = Value.int _ _ from rfl) ?_)
    refine WL.nil ?_
    refine W.ret ?_
    refine ret2v rfl rfl (show _ = Value.int _ _ from rfl) ?_
    exact ⟨.slice none 0 0, [], rfl, World.ownsRow_nil _ _ _ _, fun h => absurd h hth, fun _ => rfl, Nat.zero_le _, hx⟩
  · try simp only [decide_eq_true_eq, decide_eq_false_iff_not, Bool.not_eq_true', Bool.not_eq_false', Bool.and_eq_true, Bool.or_eq_true, Bool.and_eq_false_iff, Bool.or_eq_false_iff] at c19
    have hth : thereV L at_ = 0 := by simpa using c19
    obtain ⟨hck, ha0, ha1⟩ := there_ok hth
    obtain ⟨p, rfl⟩ : ∃ p : Nat, at_ = (p : Int) := ⟨at_.toNat, by omega⟩
    have hp : p < L.length := by omega
    refine W.skip ?_
    refine W.seq ?_
    refine W.region ?_
    refine WL.c rfl (o_ash (by first | exact (show _ = Value.slice _ _ _ from rfl) | exact rfl) ?_)
    refine WL.nil ?_
    refine W.seq ?_
    refine W.region ?_
    refine WL.c rfl (o_ash (show _ = Value.int _ _ from rfl) ?_)
    refine WL.nil ?_
    refine W.seq ?_
    refine W.block ?_
    refine W.loop (fun e w => ∃ (i : Nat) (ps : List Nat) (pv : Value), i ≤ p ∧ e 0 = v ∧ e 1 = .int .i64 (p : Int) ∧ e 8 = pv ∧ e 9 = .int .i64 (i : Int) ∧ w.ownsRow w0.heap.size 3 1 pv ps.length (ints ps) ∧ ps.length ≤ i ∧ (∀ qs, Way L p i qs → Way L p 0 (ps ++ qs)) ∧ Ext w0 w) (fun e w => p - (intOf (e 9)).toNat) ?_ ?_
    · exact ⟨0, [], .slice none 0 0, Nat.zero_le _, rfl, rfl, rfl, rfl, World.ownsRow_nil _ _ _ _, Nat.zero_le _, fun qs h => h, hx⟩
    rintro e w ⟨i, ps, pv, hi, h0, h1, h8, h9, hown, hpl, hway, hx⟩
    have hm9 := h9
    refine W.seq ?_
    refine W.seq ?_
    refine W.region ?_
    refine WL.c rfl (o_mvh h9 ?_)
    refine WL.c rfl (o_mvh h1 ?_)
    refine WL.c rfl (o_ne rfl rfl ?_)
    refine WL.nil ?_
    refine W.cond rfl (fun c23 => ?_) (fun c23 => ?_)
    · try simp only [decide_eq_true_eq, decide_eq_false_iff_not, Bool.not_eq_true', Bool.not_eq_false', Bool.and_eq_true, Bool.or_eq_true, Bool.and_eq_false_iff, Bool.or_eq_false_iff] at c23
      have hi1 : i < p := by omega
      refine W.skip ?_
      refine W.block ?_
      refine W.seq ?_
      refine W.region ?_
      refine WL.c rfl (o_ash (show _ = Value.int _ _ from rfl) ?_)
      refine WL.nil ?_
      refine W.seq ?_
      refine W.region ?_
      refine WL.c rfl (o_mvh h9 ?_)
      refine WL.c rfl (o_addi rfl rfl (by omega) ?_)
      refine WL.c rfl (o_ash (show _ = Value.int _ _ from rfl) ?_)
      refine WL.nil ?_
      refine W.seq ?_
      refine W.block ?_
      refine W.loop (fun e w => ∃ k : Nat, e 0 = v ∧ e 1 = .int .i64 (p : Int) ∧ e 8 = pv ∧ e 10 = .int .i64 (k : Int) ∧ e 11 = .int .i64 (kidP L (i + 1) k : Int) ∧ kidP L (i + 1) k ≤ p ∧ i + 1 + k ≤ kidP L (i + 1) k ∧ w.ownsRow w0.heap.size 3 1 pv ps.length (ints ps) ∧ Ext w0 w) (fun e w => p - (intOf (e 11)).toNat) ?_ ?_
      · exact ⟨0, h0, h1, h8, rfl, rfl, by show i + 1 ≤ p; omega, Nat.le_refl _, hown, hx⟩
      rintro e w ⟨k, h0, h1, h8, h10, h11, hk2, hkk, hown, hx⟩
      have hm11 := h11
      refine W.seq ?_
      refine W.seq ?_
      have hnx : nextV L (kidP L (i + 1) k) = kidP L (i + 1) (k + 1) := rfl
      refine W.region ?_
      refine WL.c rfl (o_mvh h0 ?_)
      refine WL.c rfl (o_mvh h11 ?_)
      refine WL.c rfl (o_call Tryd.call54 (lc rfl (lc rfl ln)) ((rbehind_spec L v (kidP L (i + 1) k) _ (hS.ext hx) hl hck (by omega)).mono ?_))
      rintro v28 w28 ⟨rfl, hx28⟩
      replace hx := hx.tr hx28
      replace hown := own_ext hown hx28
      refine WL.c rfl (o_mvh h1 ?_)
      refine WL.c rfl (o_le rfl rfl ?_)
      refine WL.nil ?_
      refine W.cond rfl (fun c30 => ?_) (fun c30 => ?_)
      · try simp only [decide_eq_true_eq, decide_eq_false_iff_not, Bool.not_eq_true', Bool.not_eq_false', Bool.and_eq_true, Bool.or_eq_true, Bool.and_eq_false_iff, Bool.or_eq_false_iff] at c30
        have hk3 : kidP L (i + 1) (k + 1) ≤ p := by omega
        have hk4 : kidP L (i + 1) k < kidP L (i + 1) (k + 1) := (next_lt hck (by omega)).1
        refine W.skip ?_
        refine W.block ?_
        refine W.seq ?_
        refine W.region ?_
        refine WL.c rfl (o_mvh h0 ?_)
        refine WL.c rfl (o_mvh h11 ?_)
        refine WL.c rfl (o_call Tryd.call54 (lc rfl (lc rfl ln)) ((rbehind_spec L v (kidP L (i + 1) k) _ (hS.ext hx) hl hck (by omega)).mono ?_))
        rintro v33 w33 ⟨rfl, hx33⟩
        replace hx := hx.tr hx33
        replace hown := own_ext hown hx33
        refine WL.c rfl (o_ash (show _ = Value.int _ _ from rfl) ?_)
        refine WL.nil ?_
        refine W.region ?_
        refine WL.c rfl (o_mvh h10 ?_)
        refine WL.c rfl (o_addi rfl rfl (by omega) ?_)
        refine WL.c rfl (o_ash (show _ = Value.int _ _ from rfl) ?_)
        refine WL.nil ?_
        refine ⟨⟨k + 1, h0, h1, h8, rfl, rfl, hk3, by omega, hown, hx⟩, ?_⟩
        show p - (intOf (.int .i64 (kidP L (i + 1) (k + 1) : Int))).toNat < _
        rw [hm11]; simp only [intOf, Int.toNat_natCast]; omega
      · try simp only [decide_eq_true_eq, decide_eq_false_iff_not, Bool.not_eq_true', Bool.not_eq_false', Bool.and_eq_true, Bool.or_eq_true, Bool.and_eq_false_iff, Bool.or_eq_false_iff] at c30
        have hk3 : p < kidP L (i + 1) (k + 1) := by omega
        refine W.exit ?_
        refine W.seq ?_
        refine W.region ?_
        refine WL.c rfl (o_mvh h8 ?_)
        refine WL.c rfl (o_mvh h10 ?_)
        refine WL.ap1 (w0.heap.size) rfl rfl TI75 TI3 (show _ = Value.int _ _ from rfl) rfl hown (by decide) (by decide) rfl (fun a ha => by simp [Value.cells] at ha; rw [ha]; rfl) rfl (by rw [maxLen_eq]; omega) (by omega) hx.size ?_
        intro v39 w1 hown1 ho1
        have hrl : ∀ b, pv.ownBlock = some b → w0.heap.size ≤ b := fun b hb => (hown.lt b hb).1
        replace hx := hx.trans' ho1 (fun _ h => h) (fun b hb he => by have := hrl b he; omega)
        replace hown := hown1
        refine WL.c rfl (o_ash (by first | exact (show _ = Value.slice _ _ _ from rfl) | exact rfl) ?_)
        refine WL.nil ?_
        refine W.region ?_
        refine WL.c rfl (o_mvh h11 ?_)
        refine WL.c rfl (o_ash (show _ = Value.int _ _ from rfl) ?_)
        refine WL.nil ?_
        refine ⟨⟨kidP L (i + 1) k, ps ++ [k], v39, hk2, h0, h1, rfl, rfl, ?_, ?_, ?_, hx⟩, ?_⟩
        · rw [List.length_append, List.length_singleton, ints_snoc]; exact hown
        · rw [List.length_append, List.length_singleton]; omega
        · intro qs hq
          rw [List.append_assoc]
          exact hway _ (.step hi1 hk2 hk3 hq)
        · show p - (intOf (.int .i64 (kidP L (i + 1) k : Int))).toNat < _
          rw [hm9]; simp only [intOf, Int.toNat_natCast]; omega
    · try simp only [decide_eq_true_eq, decide_eq_false_iff_not, Bool.not_eq_true', Bool.not_eq_false', Bool.and_eq_true, Bool.or_eq_true, Bool.and_eq_false_iff, Bool.or_eq_false_iff] at c23
      have hi1 : i = p := by omega
      subst hi1
      refine W.exit ?_
      refine W.seq ?_
      refine W.region ?_
      refine WL.c rfl (o_mvh h8 ?_)
      refine WL.c rfl (o_ash (by first | exact (show _ = Value.slice _ _ _ from rfl) | exact rfl) ?_)
      refine WL.c rfl (o_ash (show _ = Value.int _ _ from rfl) ?_)
      refine WL.nil ?_
      refine W.ret ?_
      refine ret2v rfl rfl (show _ = Value.int _ _ from rfl) ?_
      exact ⟨pv, ps, by rw [hth]; rfl, hown, fun _ => by have := hway [] .done; simpa using this, fun h => absurd hth h, by omega, hx⟩
end Go.Proofs.YtgmjfcekeglhjaaDoor

set_option linter.unusedSimpArgs false
set_option linter.unusedVariables false
set_option maxRecDepth 100000
namespace Go.Proofs.YtgmjfcekeglhjaaDoor
open Go Go.Vc Go.RowKit Go.Proofs

structure OpX where
  kind : Int
  V : Value
  LV : List Nd
  W : Value
  LW : List Nd
  at_ : Int
  k : Int
  s : List UInt8
def opV (o : OpX) : List Value := [.int .i64 o.kind, o.V, o.W, .int .i64 o.at_, .int .i64 o.k, st o.s]
theorem way_same {L : List Nd} {at_ : Int} {p q : List Nat} (h1 : thereV L at_ = 0 → Way L at_.toNat 0 p) (h2 : ¬ thereV L at_ = 0 → p = []) (g1 : thereV L at_ = 0 → Way L at_.toNat 0 q) (g2 : ¬ thereV L at_ = 0 → q = []) : p = q := by
  by_cases h : thereV L at_ = 0
  · exact Way.uniq (h1 h) (g1 h)
  · rw [h2 h, g2 h]
theorem sl_one {w : World} {s n : Nat} {v : Value} {xs : List Value} (h : Sl w s v n xs) : v.oneCell' = true ∧ v.cells = #[v] := by
  obtain ⟨a, c, rfl⟩ := h.isSlice
  exact ⟨rfl, rfl⟩
/-- what Print answers -/
theorem prt_same {L : List Nd} {r1 r2 : Value} (h1 : ¬ (chkV L).1 = 0 → r1 = .tuple #[st [], .int .i64 (chkV L).1]) (h2 : ∀ t : Vt, t.wf → t.flat = L → r1 = .tuple (if 1048576 < t.txt.length then #[st [], .int .i64 4] else #[st t.txt, .int .i64 0]))
    (g1 : ¬ (chkV L).1 = 0 → r2 = .tuple #[st [], .int .i64 (chkV L).1]) (g2 : ∀ t : Vt, t.wf → t.flat = L → r2 = .tuple (if 1048576 < t.txt.length then #[st [], .int .i64 4] else #[st t.txt, .int .i64 0])) :
    ∃ (b : List UInt8) (er : Int), r1 = .tuple #[st b, .int .i64 er] ∧ r2 = .tuple #[st b, .int .i64 er] := by
  by_cases hc : (chkV L).1 = 0
  · obtain ⟨t, hw, hf⟩ := chk_ok.1 hc
    have e1 := h2 t hw hf
    have e2 := g2 t hw hf
    by_cases hb : 1048576 < t.txt.length
    · rw [if_pos hb] at e1 e2
      exact ⟨_, _, e1, e2⟩
    · rw [if_neg hb] at e1 e2
      exact ⟨_, _, e1, e2⟩
  · exact ⟨_, _, h1 hc, g1 hc⟩
theorem prt_eq {L : List Nd} {r1 r2 : Value} (h1 : ¬ (chkV L).1 = 0 → r1 = .tuple #[st [], .int .i64 (chkV L).1]) (h2 : ∀ t : Vt, t.wf → t.flat = L → r1 = .tuple (if 1048576 < t.txt.length then #[st [], .int .i64 4] else #[st t.txt, .int .i64 0]))
    (g1 : ¬ (chkV L).1 = 0 → r2 = .tuple #[st [], .int .i64 (chkV L).1]) (g2 : ∀ t : Vt, t.wf → t.flat = L → r2 = .tuple (if 1048576 < t.txt.length then #[st [], .int .i64 4] else #[st t.txt, .int .i64 0])) : r2 = r1 := by
  obtain ⟨b, er, e1, e2⟩ := prt_same h1 h2 g1 g2
  rw [e1, e2]

set_option maxHeartbeats 8000000 in
theorem asks_spec (bp : Nat) (a b c d : Value) (nl np : Nat) (VA VB VC VD : Nat → Value) (B g cc : Nat) (L : List Nd) (v3 : Value) (o : OpX) (w0 : World) (hB : Bk w0 bp a b c d nl np VA VB VC VD) (hnp : np ≤ 1000) (hL : Lent w0 B g cc L) (hS : Sl w0 3 v3 L.length (nds L)) (hl : L.length ≤ 400) (hN : NOk L) (hWS : Sl w0 3 o.W o.LW.length (nds o.LW)) (hWl : o.LW.length ≤ 9223372036854775807) (hV1 : o.V.oneCell' = true) (hT : Tab w0) (h00 : 0 < w0.heap.size) : Ca Tryd.prog 37 #[.pointer (some ⟨bp, 0, none⟩), .agg (opV o).toArray, (Value.slice (some ⟨g, 0, none⟩) L.length cc), v3] w0 (fun r w' => r = .bool true ∧ ∃ (c' d' : Value) (np' : Nat) (VC' VD' : Nat → Value), Bk w' bp a b c' d' nl np' VA VB VC' VD' ∧ np' ≤ np + 2 ∧ Only (BF bp a b c d nl np VA VB VC VD) w0 w' ∧ ∀ k, BF bp a b c' d' nl np' VA VB VC' VD' k → BF bp a b c d nl np VA VB VC VD k ∨ w0.heap.size ≤ k) := by
  have hW1 := (sl_one hWS).1
  refine Ca.of Tryd.func37 Tryd.ntmps37 rfl rfl ?_
  refine W.seq ?_
  refine W.region ?_
  refine WL.c rfl (o_boxB rfl ?_)
  intro w5 hC5 hx5 hs5
  obtain ⟨b5, hb5⟩ : ∃ b, b = w0.heap.size := ⟨_, rfl⟩
  rw [← hb5] at hC5 ⊢
  replace hC5 : w5.heap[b5]? = some (.cells (opV o).toArray 32 (0, 0)) := hC5
  have hx : Ext w0 w5 := hx5
  refine WL.c rfl (o_ash (show _ = Value.bool _ from rfl) ?_)
  refine WL.nil ?_
  refine W.seq ?_
  refine W.seq ?_
  refine W.region ?_
  refine WL.c rfl (o_fa 0 TI32 rfl TI3 rfl rfl ?_)
  refine WL.c rfl (o_ld TI3 rfl rfl (cell_of hC5 rfl) ?_)
  refine WL.nil ?_
  refine W.block ?_
  refine W.seq ?_
  refine W.region ?_
  refine WL.c rfl (o_eq rfl rfl ?_)
  refine WL.c rfl (o_ash (show _ = Value.bool _ from rfl) ?_)
  refine WL.nil ?_
  refine W.cond rfl (fun c33 => ?_) (fun c33 => ?_)
  · try simp only [decide_eq_true_eq, decide_eq_false_iff_not, Bool.not_eq_true', Bool.not_eq_false', Bool.and_eq_true, Bool.or_eq_true, Bool.and_eq_false_iff, Bool.or_eq_false_iff] at c33
    refine W.seq ?_
    refine W.region ?_
    refine WL.c rfl (o_mvh (by first | exact (show _ = Value.slice _ _ _ from rfl) | exact rfl) ?_)
    refine WL.c rfl (o_call Tryd.call53 (lc rfl ln) ((rcheck_spec L v3 _ (hS.ext hx) (by omega)).mono ?_))
    rintro v37 w37 ⟨rfl, hx37⟩
    replace hx := hx.tr hx37
    replace hC5 := hx37.blk hC5 (fun h => h)
    refine WL.c rfl (o_mvh (by first | exact (show _ = Value.tuple _ from rfl) | exact rfl) ?_)
    refine WL.c rfl (o_ext rfl rfl ?_)
    refine WL.c rfl (o_ext rfl rfl ?_)
    refine WL.c rfl (o_ash (show _ = Value.int _ _ from rfl) ?_)
    refine WL.c rfl (o_ash (show _ = Value.int _ _ from rfl) ?_)
    refine WL.nil ?_
    refine W.seq ?_
    refine W.region ?_
    refine WL.c rfl (o_mvh (by first | exact (show _ = Value.slice _ _ _ from rfl) | exact rfl) ?_)
    refine WL.c rfl (o_call Tryd.call27 (lc rfl ln) ((vcheck_spec L (Value.slice (some ⟨g, 0, none⟩) L.length cc) _ ((hL.ext hx).sl) (by omega)).mono ?_))
    rintro v41 w41 ⟨rfl, hx41⟩
    replace hx := hx.tr hx41
    replace hC5 := hx41.blk hC5 (fun h => h)
    refine WL.c rfl (o_mvh (show _ = Value.int _ _ from rfl) ?_)
    refine WL.c rfl (o_mvh (show _ = Value.int _ _ from rfl) ?_)
    refine WL.c rfl (o_call Tryd.call25 (lc rfl (lc rfl (lc rfl ln))) ((fault_spec (chkV L).1 (chkV L).2 (chkV L).1 (chkV L).2 _).mono ?_))
    rintro v44 w44 ⟨rfl, hx44⟩
    replace hx := hx.tr hx44
    refine WL.c rfl (o_ash (show _ = Value.bool _ from rfl) ?_)
    refine WL.nil ?_
    refine W.ret ?_
    refine ret1v rfl (show _ = Value.bool _ from rfl) ?_
    exact ⟨congrArg Value.bool (by simp), c, d, np, VC, VD, hB.ext hx, by omega, hx.mono (fun _ _ h => h.elim), fun k hk => .inl hk⟩
  · try simp only [decide_eq_true_eq, decide_eq_false_iff_not, Bool.not_eq_true', Bool.not_eq_false', Bool.and_eq_true, Bool.or_eq_true, Bool.and_eq_false_iff, Bool.or_eq_false_iff] at c33
    refine W.seq ?_
    refine W.region ?_
    refine WL.c rfl (o_eq rfl rfl ?_)
    refine WL.c rfl (o_ash (show _ = Value.bool _ from rfl) ?_)
    refine WL.nil ?_
    refine W.cond rfl (fun c45 => ?_) (fun c45 => ?_)
    · try simp only [decide_eq_true_eq, decide_eq_false_iff_not, Bool.not_eq_true', Bool.not_eq_false', Bool.and_eq_true, Bool.or_eq_true, Bool.and_eq_false_iff, Bool.or_eq_false_iff] at c45
      refine W.seq ?_
      refine W.region ?_
      refine WL.c rfl (o_mvh (by first | exact (show _ = Value.slice _ _ _ from rfl) | exact rfl) ?_)
      refine WL.c rfl (o_fa 3 TI32 rfl TI3 rfl rfl ?_)
      refine WL.c rfl (o_ld TI3 rfl rfl (cell_of hC5 rfl) ?_)
      refine WL.c rfl (o_call Tryd.call31 (lc rfl (lc rfl ln)) ((vNext_spec L (Value.slice (some ⟨g, 0, none⟩) L.length cc) o.at_ _ ((hL.ext hx).sl) (by omega)).mono ?_))
      rintro v51 w51 ⟨rfl, hx51⟩
      replace hx := hx.tr hx51
      replace hC5 := hx51.blk hC5 (fun h => h)
      refine WL.c rfl (o_mvh (by first | exact (show _ = Value.tuple _ from rfl) | exact rfl) ?_)
      refine WL.c rfl (o_ext rfl rfl ?_)
      refine WL.c rfl (o_ext rfl rfl ?_)
      refine WL.c rfl (o_ash (show _ = Value.int _ _ from rfl) ?_)
      refine WL.c rfl (o_ash (show _ = Value.int _ _ from rfl) ?_)
      refine WL.nil ?_
      refine W.seq ?_
      refine W.region ?_
      refine WL.c rfl (o_mvh (by first | exact (show _ = Value.slice _ _ _ from rfl) | exact rfl) ?_)
      refine WL.c rfl (o_fa 3 TI32 rfl TI3 rfl rfl ?_)
      refine WL.c rfl (o_ld TI3 rfl rfl (cell_of hC5 rfl) ?_)
      refine WL.c rfl (o_call Tryd.call32 (lc rfl (lc rfl ln)) ((rnext_spec L v3 o.at_ _ (hS.ext hx) (by omega)).mono ?_))
      rintro v58 w58 ⟨rfl, hx58⟩
      replace hx := hx.tr hx58
      refine WL.c rfl (o_mvh (by first | exact (show _ = Value.tuple _ from rfl) | exact rfl) ?_)
      refine WL.c rfl (o_ext rfl rfl ?_)
      refine WL.c rfl (o_ext rfl rfl ?_)
      refine WL.c rfl (o_ash (show _ = Value.int _ _ from rfl) ?_)
      refine WL.c rfl (o_ash (show _ = Value.int _ _ from rfl) ?_)
      refine WL.nil ?_
      refine W.seq ?_
      refine W.region ?_
      refine WL.c rfl (o_mvh (show _ = Value.int _ _ from rfl) ?_)
      refine WL.c rfl (o_mvh (show _ = Value.int _ _ from rfl) ?_)
      refine WL.c rfl (o_eq rfl rfl ?_)
      refine WL.c rfl (o_mvh (show _ = Value.bool _ from rfl) ?_)
      refine WL.g rfl (by simp) rfl (o_mvh (show _ = Value.int _ _ from rfl) ?_)
      refine WL.g rfl (by simp) rfl (o_call Tryd.call15 (lc rfl ln) ((num_spec _ _).mono ?_))
      rintro v66 w66 ⟨rfl, rfl⟩
      refine WL.g rfl (by simp) rfl (o_mvh (show _ = Value.int _ _ from rfl) ?_)
      refine WL.g rfl (by simp) rfl (o_eq rfl rfl ?_)
      refine WL.c rfl (o_pickA rfl rfl ?_)
      refine WL.c rfl (o_ash (show _ = Value.bool _ from rfl) ?_)
      refine WL.nil ?_
      refine W.ret ?_
      refine ret1v rfl (show _ = Value.bool _ from rfl) ?_
      exact ⟨congrArg Value.bool (by simp), c, d, np, VC, VD, hB.ext hx, by omega, hx.mono (fun _ _ h => h.elim), fun k hk => .inl hk⟩
    · try simp only [decide_eq_true_eq, decide_eq_false_iff_not, Bool.not_eq_true', Bool.not_eq_false', Bool.and_eq_true, Bool.or_eq_true, Bool.and_eq_false_iff, Bool.or_eq_false_iff] at c45
      refine W.seq ?_
      refine W.region ?_
      refine WL.c rfl (o_eq rfl rfl ?_)
      refine WL.c rfl (o_ash (show _ = Value.bool _ from rfl) ?_)
      refine WL.nil ?_
      refine W.cond rfl (fun c70 => ?_) (fun c70 => ?_)
      · try simp only [decide_eq_true_eq, decide_eq_false_iff_not, Bool.not_eq_true', Bool.not_eq_false', Bool.and_eq_true, Bool.or_eq_true, Bool.and_eq_false_iff, Bool.or_eq_false_iff] at c70
        refine W.seq ?_
        refine W.region ?_
        refine WL.c rfl (o_mvh (by first | exact (show _ = Value.slice _ _ _ from rfl) | exact rfl) ?_)
        refine WL.c rfl (o_fa 3 TI32 rfl TI3 rfl rfl ?_)
        refine WL.c rfl (o_ld TI3 rfl rfl (cell_of hC5 rfl) ?_)
        refine WL.c rfl (o_fa 4 TI32 rfl TI3 rfl rfl ?_)
        refine WL.c rfl (o_ld TI3 rfl rfl (cell_of hC5 rfl) ?_)
        refine WL.c rfl (o_call Tryd.call30 (lc rfl (lc rfl (lc rfl ln))) ((vKid_spec L (Value.slice (some ⟨g, 0, none⟩) L.length cc) o.at_ o.k _ ((hL.ext hx).sl) (by omega)).mono ?_))
        rintro v78 w78 ⟨rfl, hx78⟩
        replace hx := hx.tr hx78
        replace hC5 := hx78.blk hC5 (fun h => h)
        refine WL.c rfl (o_mvh (by first | exact (show _ = Value.tuple _ from rfl) | exact rfl) ?_)
        refine WL.c rfl (o_ext rfl rfl ?_)
        refine WL.c rfl (o_ext rfl rfl ?_)
        refine WL.c rfl (o_ash (show _ = Value.int _ _ from rfl) ?_)
        refine WL.c rfl (o_ash (show _ = Value.int _ _ from rfl) ?_)
        refine WL.nil ?_
        refine W.seq ?_
        refine W.region ?_
        refine WL.c rfl (o_mvh (by first | exact (show _ = Value.slice _ _ _ from rfl) | exact rfl) ?_)
        refine WL.c rfl (o_fa 3 TI32 rfl TI3 rfl rfl ?_)
        refine WL.c rfl (o_ld TI3 rfl rfl (cell_of hC5 rfl) ?_)
        refine WL.c rfl (o_fa 4 TI32 rfl TI3 rfl rfl ?_)
        refine WL.c rfl (o_ld TI3 rfl rfl (cell_of hC5 rfl) ?_)
        refine WL.c rfl (o_call Tryd.call56 (lc rfl (lc rfl (lc rfl ln))) ((rrkid_spec L v3 o.at_ o.k _ (hS.ext hx) (by omega)).mono ?_))
        rintro v87 w87 ⟨rfl, hx87⟩
        replace hx := hx.tr hx87
        refine WL.c rfl (o_mvh (by first | exact (show _ = Value.tuple _ from rfl) | exact rfl) ?_)
        refine WL.c rfl (o_ext rfl rfl ?_)
        refine WL.c rfl (o_ext rfl rfl ?_)
        refine WL.c rfl (o_ash (show _ = Value.int _ _ from rfl) ?_)
        refine WL.c rfl (o_ash (show _ = Value.int _ _ from rfl) ?_)
        refine WL.nil ?_
        refine W.seq ?_
        refine W.region ?_
        refine WL.c rfl (o_mvh (show _ = Value.int _ _ from rfl) ?_)
        refine WL.c rfl (o_mvh (show _ = Value.int _ _ from rfl) ?_)
        refine WL.c rfl (o_eq rfl rfl ?_)
        refine WL.c rfl (o_mvh (show _ = Value.bool _ from rfl) ?_)
        refine WL.g rfl (by simp) rfl (o_mvh (show _ = Value.int _ _ from rfl) ?_)
        refine WL.g rfl (by simp) rfl (o_call Tryd.call15 (lc rfl ln) ((num_spec _ _).mono ?_))
        rintro v95 w95 ⟨rfl, rfl⟩
        refine WL.g rfl (by simp) rfl (o_mvh (show _ = Value.int _ _ from rfl) ?_)
        refine WL.g rfl (by simp) rfl (o_eq rfl rfl ?_)
        refine WL.c rfl (o_pickA rfl rfl ?_)
        refine WL.c rfl (o_ash (show _ = Value.bool _ from rfl) ?_)
        refine WL.nil ?_
        refine W.ret ?_
        refine ret1v rfl (show _ = Value.bool _ from rfl) ?_
        exact ⟨congrArg Value.bool (by simp), c, d, np, VC, VD, hB.ext hx, by omega, hx.mono (fun _ _ h => h.elim), fun k hk => .inl hk⟩
      · try simp only [decide_eq_true_eq, decide_eq_false_iff_not, Bool.not_eq_true', Bool.not_eq_false', Bool.and_eq_true, Bool.or_eq_true, Bool.and_eq_false_iff, Bool.or_eq_false_iff] at c70
        refine W.seq ?_
        refine W.region ?_
        refine WL.c rfl (o_eq rfl rfl ?_)
        refine WL.c rfl (o_ash (show _ = Value.bool _ from rfl) ?_)
        refine WL.nil ?_
        refine W.cond rfl (fun c99 => ?_) (fun c99 => ?_)
        · try simp only [decide_eq_true_eq, decide_eq_false_iff_not, Bool.not_eq_true', Bool.not_eq_false', Bool.and_eq_true, Bool.or_eq_true, Bool.and_eq_false_iff, Bool.or_eq_false_iff] at c99
          refine W.seq ?_
          refine W.region ?_
          refine WL.c rfl (o_mvh (by first | exact (show _ = Value.slice _ _ _ from rfl) | exact rfl) ?_)
          refine WL.c rfl (o_fa 3 TI32 rfl TI3 rfl rfl ?_)
          refine WL.c rfl (o_ld TI3 rfl rfl (cell_of hC5 rfl) ?_)
          refine WL.c rfl (o_call Tryd.call29 (lc rfl (lc rfl ln)) ((vPath_spec L (Value.slice (some ⟨g, 0, none⟩) L.length cc) o.at_ _ ((hL.ext hx).sl) (by omega)).mono ?_))
          rintro v105 w105 ⟨pv1, ps1, rfl, hp1, hy1, hz1, hpl1, hx105⟩
          replace hx := hx.tr hx105
          replace hC5 := hx105.blk hC5 (fun h => h)
          have hs1 := hx105.size
          have hq0 := hx.size
          have hzz1 : ∀ k, pv1.ownBlock = some k → k < w105.heap.size := fun k hk => (hp1.lt k hk).2
          refine WL.c rfl (o_mvh (by first | exact (show _ = Value.tuple _ from rfl) | exact rfl) ?_)
          refine WL.c rfl (o_ext rfl rfl ?_)
          refine WL.c rfl (o_ext rfl rfl ?_)
          refine WL.c rfl (o_ash (by first | exact (show _ = Value.slice _ _ _ from rfl) | exact rfl) ?_)
          refine WL.c rfl (o_ash (show _ = Value.int _ _ from rfl) ?_)
          refine WL.nil ?_
          refine W.seq ?_
          refine W.region ?_
          refine WL.c rfl (o_mvh (by first | exact (show _ = Value.slice _ _ _ from rfl) | exact rfl) ?_)
          refine WL.c rfl (o_fa 3 TI32 rfl TI3 rfl rfl ?_)
          refine WL.c rfl (o_ld TI3 rfl rfl (cell_of hC5 rfl) ?_)
          refine WL.c rfl (o_call Tryd.call29 (lc rfl (lc rfl ln)) ((vPath_spec L (Value.slice (some ⟨g, 0, none⟩) L.length cc) o.at_ _ ((hL.ext hx).sl) (by omega)).mono ?_))
          rintro v112 w112 ⟨pv2, ps2, rfl, hp2, hy2, hz2, hpl2, hx112⟩
          replace hx := hx.tr hx112
          replace hC5 := hx112.blk hC5 (fun h => h)
          replace hp1 := own_ext hp1 hx112
          have hs2 := hx112.size
          have hzz2 : ∀ k, pv2.ownBlock = some k → k < w112.heap.size := fun k hk => (hp2.lt k hk).2
          have hz21 : ∀ k, pv2.ownBlock = some k → ¬ pv1.ownBlock = some k := fun k hk h1 => by have := (hp2.lt k hk).1; have := hzz1 k h1; omega
          obtain rfl := way_same hy1 hz1 hy2 hz2
          refine WL.c rfl (o_mvh (by first | exact (show _ = Value.tuple _ from rfl) | exact rfl) ?_)
          refine WL.c rfl (o_ext rfl rfl ?_)
          refine WL.c rfl (o_ext rfl rfl ?_)
          refine WL.c rfl (o_ash (by first | exact (show _ = Value.slice _ _ _ from rfl) | exact rfl) ?_)
          refine WL.c rfl (o_ash (show _ = Value.int _ _ from rfl) ?_)
          refine WL.nil ?_
          refine W.seq ?_
          refine W.region ?_
          refine WL.c rfl (o_mvh (by first | exact (show _ = Value.slice _ _ _ from rfl) | exact rfl) ?_)
          refine WL.c rfl (o_fa 3 TI32 rfl TI3 rfl rfl ?_)
          refine WL.c rfl (o_ld TI3 rfl rfl (cell_of hC5 rfl) ?_)
          refine WL.c rfl (o_call Tryd.call57 (lc rfl (lc rfl ln)) ((rpath_spec L v3 o.at_ _ (hS.ext hx) (by omega)).mono ?_))
          rintro v119 w119 ⟨pv3, ps3, rfl, hp3, hy3, hz3, hpl3, hx119⟩
          have hs3 := hx119.size
          replace hx := hx.tr hx119
          replace hC5 := hx119.blk hC5 (fun h => h)
          replace hp1 := own_ext hp1 hx119
          replace hp2 := own_ext hp2 hx119
          obtain rfl := way_same hy1 hz1 hy3 hz3
          clear hy1 hz1 hy2 hz2 hy3 hz3
          refine WL.c rfl (o_mvh (by first | exact (show _ = Value.tuple _ from rfl) | exact rfl) ?_)
          refine WL.c rfl (o_ext rfl rfl ?_)
          refine WL.c rfl (o_ext rfl rfl ?_)
          refine WL.c rfl (o_ash (by first | exact (show _ = Value.slice _ _ _ from rfl) | exact rfl) ?_)
          refine WL.c rfl (o_ash (show _ = Value.int _ _ from rfl) ?_)
          refine WL.nil ?_
          refine W.seq ?_
          refine W.region ?_
          refine WL.c rfl (o_mvh (by first | exact (show _ = Value.slice _ _ _ from rfl) | exact rfl) ?_)
          refine WL.c rfl (o_mvh (by first | exact (show _ = Value.slice _ _ _ from rfl) | exact rfl) ?_)
          refine WL.c rfl (o_call Tryd.call33 (lc rfl (lc rfl ln)) ((sameints_spec ps1 ps1 pv1 pv3 _ (Sl.own hp1) (Sl.own hp3) (by omega)).mono ?_))
          rintro v124 w124 ⟨rfl, hx124⟩
          have hs4 := hx124.size
          replace hp1 := own_ext hp1 hx124
          replace hp2 := own_ext hp2 hx124
          replace hp3 := own_ext hp3 hx124
          replace hx := hx.tr hx124
          refine WL.c rfl (o_mvh (show _ = Value.bool _ from rfl) ?_)
          refine WL.g rfl (by simp) rfl (o_mvh (by first | exact (show _ = Value.slice _ _ _ from rfl) | exact rfl) ?_)
          refine WL.g rfl (by simp) rfl (o_mvh (by first | exact (show _ = Value.slice _ _ _ from rfl) | exact rfl) ?_)
          refine WL.g rfl (by simp) rfl (o_call Tryd.call33 (lc rfl (lc rfl ln)) ((sameints_spec ps1 ps1 pv2 pv3 _ (Sl.own hp2) (Sl.own hp3) (by omega)).mono ?_))
          rintro v128 w128 ⟨rfl, hx128⟩
          have hs5 := hx128.size
          replace hp1 := own_ext hp1 hx128
          replace hp2 := own_ext hp2 hx128
          replace hx := hx.tr hx128
          refine WL.c rfl (o_pickA rfl rfl ?_)
          refine WL.c rfl (o_mvh (show _ = Value.bool _ from rfl) ?_)
          refine WL.g rfl (by simp) rfl (o_mvh (show _ = Value.int _ _ from rfl) ?_)
          refine WL.g rfl (by simp) rfl (o_call Tryd.call15 (lc rfl ln) ((num_spec _ _).mono ?_))
          rintro v132 w132 ⟨rfl, rfl⟩
          refine WL.g rfl (by simp) rfl (o_mvh (show _ = Value.int _ _ from rfl) ?_)
          refine WL.g rfl (by simp) rfl (o_eq rfl rfl ?_)
          refine WL.c rfl (o_pickA rfl rfl ?_)
          refine WL.c rfl (o_mvh (show _ = Value.bool _ from rfl) ?_)
          refine WL.g rfl (by simp) rfl (o_mvh (show _ = Value.int _ _ from rfl) ?_)
          refine WL.g rfl (by simp) rfl (o_call Tryd.call15 (lc rfl ln) ((num_spec _ _).mono ?_))
          rintro v138 w138 ⟨rfl, rfl⟩
          refine WL.g rfl (by simp) rfl (o_mvh (show _ = Value.int _ _ from rfl) ?_)
          refine WL.g rfl (by simp) rfl (o_eq rfl rfl ?_)
          refine WL.c rfl (o_pickA rfl rfl ?_)
          refine WL.c rfl (o_ash (show _ = Value.bool _ from rfl) ?_)
          refine WL.nil ?_
          refine W.seq ?_
          have hB0 := hB.ext hx
          have hq9 := hx.size
          have hBl := hB.lt
          refine W.region ?_
          refine WL.c rfl (o_mvh (by first | exact (show _ = Value.pointer _ from rfl) | exact rfl) ?_)
          refine WL.c rfl (o_mvh (by first | exact (show _ = Value.slice _ _ _ from rfl) | exact rfl) ?_)
          refine WL.c rfl (o_call Tryd.call58 (lc rfl (lc rfl ln)) ((bints_spec bp a b c d nl np VA VB VC VD _ hB0 (by omega) pv1 ps1 (own_mono hp1 (Nat.zero_le _)) (by omega) (fun k hk hF => by have := (hp1.lt k hk).1; have := hBl k hF; omega)).mono ?_))
          rintro v144 w144 ⟨c1, d1, VC1, VD1, hB1, ho1, hBF1⟩
          have hsx := ho1.size
          have hge1 : ∀ k, pv1.ownBlock = some k → w0.heap.size ≤ k := fun k hk => by have := (hp1.lt k hk).1; omega
          replace hp2 := own_only hp2 ho1 (fun k hk hF => by rcases hF with hF | hF; have := (hp2.lt k hk).1; have := hBl k hF; omega; exact hz21 k hk hF)
          have ho2 : Only (BF bp a b c d nl np VA VB VC VD) w0 w144 := (hx.mono (fun _ _ h => h.elim)).trans' ho1 (fun _ h => h) (fun k hk hF => by rcases hF with hF | hF; exact hF; have := hge1 k hF; omega)
          refine WL.nil ?_
          refine W.seq ?_
          refine W.region ?_
          refine WL.c rfl (o_mvh (by first | exact (show _ = Value.pointer _ from rfl) | exact rfl) ?_)
          refine WL.c rfl (o_mvh (by first | exact (show _ = Value.slice _ _ _ from rfl) | exact rfl) ?_)
          refine WL.c rfl (o_call Tryd.call58 (lc rfl (lc rfl ln)) ((bints_spec bp a b c1 d1 nl (np + 1) VA VB VC1 VD1 _ hB1 (by omega) pv2 ps1 (own_mono hp2 (Nat.zero_le _)) (by omega) (fun k hk hF => by have h1 := (hp2.lt k hk).1; rcases hBF1 k hF with hF | hF | hF; have := hBl k hF; omega; exact hz21 k hk hF; have := hzz2 k hk; omega)).mono ?_))
          rintro v147 w147 ⟨c2, d2, VC2, VD2, hB2, ho3, hBF2⟩
          have hge2 : ∀ k, pv2.ownBlock = some k → w0.heap.size ≤ k := fun k hk => by have := (hp2.lt k hk).1; omega
          have hge3 : ∀ k, BF bp a b c1 d1 nl (np + 1) VA VB VC1 VD1 k → BF bp a b c d nl np VA VB VC VD k ∨ w0.heap.size ≤ k := fun k hk => by
            rcases hBF1 k hk with hF | hF | hF
            · exact .inl hF
            · exact .inr (hge1 k hF)
            · exact .inr (by omega)
          have ho4 : Only (BF bp a b c d nl np VA VB VC VD) w0 w147 := ho2.trans' ho3 (fun _ h => h) (fun k hk hF => by
            rcases hF with hF | hF
            · rcases hge3 k hF with h1 | h1
              · exact h1
              · omega
            · have := hge2 k hF; omega)
          have hge4 : ∀ k, BF bp a b c2 d2 nl (np + 1 + 1) VA VB VC2 VD2 k → BF bp a b c d nl np VA VB VC VD k ∨ w0.heap.size ≤ k := fun k hk => by
            rcases hBF2 k hk with hF | hF | hF
            · exact hge3 k hF
            · exact .inr (hge2 k hF)
            · exact .inr (by omega)
          refine WL.nil ?_
          refine W.seq ?_
          refine W.region ?_
          refine WL.c rfl (o_mvh (show _ = Value.bool _ from rfl) ?_)
          refine WL.c rfl (o_ash (show _ = Value.bool _ from rfl) ?_)
          refine WL.nil ?_
          refine W.ret ?_
          refine ret1v rfl (show _ = Value.bool _ from rfl) ?_
          subst hb5
          exact ⟨congrArg Value.bool (by simp), c2, d2, _, VC2, VD2, hB2, by omega, ho4, hge4⟩
        · try simp only [decide_eq_true_eq, decide_eq_false_iff_not, Bool.not_eq_true', Bool.not_eq_false', Bool.and_eq_true, Bool.or_eq_true, Bool.and_eq_false_iff, Bool.or_eq_false_iff] at c99
          refine W.seq ?_
          refine W.region ?_
          refine WL.c rfl (o_eq rfl rfl ?_)
          refine WL.c rfl (o_ash (show _ = Value.bool _ from rfl) ?_)
          refine WL.nil ?_
          refine W.cond rfl (fun c149 => ?_) (fun c149 => ?_)
          · try simp only [decide_eq_true_eq, decide_eq_false_iff_not, Bool.not_eq_true', Bool.not_eq_false', Bool.and_eq_true, Bool.or_eq_true, Bool.and_eq_false_iff, Bool.or_eq_false_iff] at c149
            refine W.seq ?_
            refine W.region ?_
            refine WL.c rfl (o_fa 2 TI32 rfl TI30 rfl rfl ?_)
            refine WL.c rfl (o_ld TI30 rfl rfl (cell_of hC5 rfl) ?_)
            refine WL.c rfl (o_call Tryd.call35 (lc rfl ln) ((cut_spec o.LW o.W _ (hWS.ext hx) hWl).mono ?_))
            rintro v153 w153 ⟨hc153, -, rfl⟩
            refine WL.c rfl (o_call Tryd.call36 (lc rfl ln) ((lent_spec (o.LW.take 400) v153 _ hc153 (by rw [List.length_take]; omega)).mono ?_))
            rintro v154 w154 ⟨hx154, g2, c2, rfl, hL2⟩
            replace hx := hx.tr hx154
            replace hC5 := hx154.blk hC5 (fun h => h)
            have hl4 : (o.LW.take 400).length ≤ 400 := by rw [List.length_take]; omega
            refine WL.c rfl (o_ash (by first | exact (show _ = Value.slice _ _ _ from rfl) | exact rfl) ?_)
            refine WL.nil ?_
            refine W.seq ?_
            refine W.region ?_
            refine WL.c rfl (o_mvh (by first | exact (show _ = Value.slice _ _ _ from rfl) | exact rfl) ?_)
            refine WL.c rfl (o_mvh (by first | exact (show _ = Value.slice _ _ _ from rfl) | exact rfl) ?_)
            refine WL.c rfl (o_call Tryd.call26 (lc rfl (lc rfl ln)) ((vEqual_spec L (o.LW.take 400) (Value.slice (some ⟨g, 0, none⟩) L.length cc) _ _ ((hL.ext hx).sl) hL2.sl (by omega)).mono ?_))
            rintro v157 w157 ⟨rfl, hx157⟩
            replace hx := hx.tr hx157
            replace hC5 := hx157.blk hC5 (fun h => h)
            replace hL2 := hL2.ext hx157
            refine WL.c rfl (o_mvh (by first | exact (show _ = Value.slice _ _ _ from rfl) | exact rfl) ?_)
            refine WL.c rfl (o_mvh (by first | exact (show _ = Value.slice _ _ _ from rfl) | exact rfl) ?_)
            refine WL.c rfl (o_call Tryd.call18 (lc rfl (lc rfl ln)) ((requal_spec L (o.LW.take 400) v3 _ _ (hS.ext hx) hL2.sl (by omega)).mono ?_))
            rintro v160 w160 ⟨rfl, hx160⟩
            replace hx := hx.tr hx160
            replace hC5 := hx160.blk hC5 (fun h => h)
            replace hL2 := hL2.ext hx160
            refine WL.c rfl (o_eqB TI4 rfl rfl ?_)
            refine WL.c rfl (o_mvh (show _ = Value.bool _ from rfl) ?_)
            refine WL.g rfl (by simp) rfl (o_mvh (by first | exact (show _ = Value.slice _ _ _ from rfl) | exact rfl) ?_)
            refine WL.g rfl (by simp) rfl (o_fa 2 TI32 rfl TI30 rfl rfl ?_)
            refine WL.g rfl (by simp) rfl (o_ld TI30 rfl rfl (cell_of hC5 rfl) ?_)
            refine WL.g rfl (by simp) rfl (o_call Tryd.call35 (lc rfl ln) ((cut_spec o.LW o.W _ (hWS.ext hx) hWl).mono ?_))
            rintro v166 w166 ⟨hc166, -, rfl⟩
            refine WL.g rfl (by simp) rfl (o_call Tryd.call38 (lc rfl (lc rfl ln)) ((kept_spec _ g2 c2 (o.LW.take 400) (o.LW.take 400) v166 _ hL2 hc166 (by omega)).mono ?_))
            rintro v167 w167 ⟨rfl, hx167⟩
            replace hx := hx.tr hx167
            refine WL.c rfl (o_pickA rfl rfl ?_)
            refine WL.c rfl (o_mvh (show _ = Value.bool _ from rfl) ?_)
            refine WL.g rfl (by simp) rfl (o_mvh (by first | exact (show _ = Value.slice _ _ _ from rfl) | exact rfl) ?_)
            refine WL.g rfl (by simp) rfl (o_mvh (by first | exact (show _ = Value.slice _ _ _ from rfl) | exact rfl) ?_)
            refine WL.g rfl (by simp) rfl (o_call Tryd.call36 (lc rfl ln) ((lent_spec L v3 _ (hS.ext hx) (by omega)).mono ?_))
            rintro v172 w172 ⟨hx172, g3, c3, rfl, hL3⟩
            replace hx := hx.tr hx172
            refine WL.g rfl (by simp) rfl (o_call Tryd.call26 (lc rfl (lc rfl ln)) ((vEqual_spec L L (Value.slice (some ⟨g, 0, none⟩) L.length cc) _ _ ((hL.ext hx).sl) hL3.sl (by omega)).mono ?_))
            rintro v173 w173 ⟨rfl, hx173⟩
            replace hx := hx.tr hx173
            refine WL.c rfl (o_pickA rfl rfl ?_)
            refine WL.c rfl (o_ash (show _ = Value.bool _ from rfl) ?_)
            refine WL.nil ?_
            refine W.ret ?_
            refine ret1v rfl (show _ = Value.bool _ from rfl) ?_
            exact ⟨congrArg Value.bool (by simp), c, d, np, VC, VD, hB.ext hx, by omega, hx.mono (fun _ _ h => h.elim), fun k hk => .inl hk⟩
          · try simp only [decide_eq_true_eq, decide_eq_false_iff_not, Bool.not_eq_true', Bool.not_eq_false', Bool.and_eq_true, Bool.or_eq_true, Bool.and_eq_false_iff, Bool.or_eq_false_iff] at c149
            refine W.seq ?_
            refine W.region ?_
            refine WL.c rfl (o_eq rfl rfl ?_)
            refine WL.c rfl (o_ash (show _ = Value.bool _ from rfl) ?_)
            refine WL.nil ?_
            refine W.cond rfl (fun c175 => ?_) (fun c175 => ?_)
            · try simp only [decide_eq_true_eq, decide_eq_false_iff_not, Bool.not_eq_true', Bool.not_eq_false', Bool.and_eq_true, Bool.or_eq_true, Bool.and_eq_false_iff, Bool.or_eq_false_iff] at c175
              refine W.seq ?_
              skip
              refine W.region ?_
              refine WL.c rfl (o_mvh (by first | exact (show _ = Value.slice _ _ _ from rfl) | exact rfl) ?_)
              refine WL.c rfl (o_call Tryd.call23 (lc rfl ln) ((vPrint_spec L (Value.slice (some ⟨g, 0, none⟩) L.length cc) _ ((hL.ext hx).sl) (by omega) hN (hT.ext hx) (by have := hx.size; omega)).mono ?_))
              rintro v179 w179 ⟨hx179, hr1, hr2⟩
              obtain ⟨pb, per, rfl, -⟩ := prt_same hr1 hr2 hr1 hr2
              replace hx := hx.tr hx179
              refine WL.c rfl (o_mvh (by first | exact (show _ = Value.tuple _ from rfl) | exact rfl) ?_)
              refine WL.c rfl (o_ext rfl rfl ?_)
              refine WL.c rfl (o_ext rfl rfl ?_)
              refine WL.c rfl (o_ash (show _ = Value.string _ from rfl) ?_)
              refine WL.c rfl (o_ash (show _ = Value.int _ _ from rfl) ?_)
              refine WL.nil ?_
              refine W.seq ?_
              refine W.region ?_
              refine WL.c rfl (o_mvh (by first | exact (show _ = Value.slice _ _ _ from rfl) | exact rfl) ?_)
              refine WL.c rfl (o_call Tryd.call59 (lc rfl ln) ((rprint_spec L v3 _ (hS.ext hx) (by omega) hN (hT.ext hx) (by have := hx.size; omega)).mono ?_))
              rintro v184 w184 ⟨hx184, gr1, gr2⟩
              obtain rfl := prt_eq hr1 hr2 gr1 gr2
              replace hx := hx.tr hx184
              refine WL.c rfl (o_mvh (by first | exact (show _ = Value.tuple _ from rfl) | exact rfl) ?_)
              refine WL.c rfl (o_ext rfl rfl ?_)
              refine WL.c rfl (o_ext rfl rfl ?_)
              refine WL.c rfl (o_ash (show _ = Value.string _ from rfl) ?_)
              refine WL.c rfl (o_ash (show _ = Value.int _ _ from rfl) ?_)
              refine WL.nil ?_
              refine W.seq ?_
              refine W.region ?_
              refine WL.c rfl (o_mvh (show _ = Value.string _ from rfl) ?_)
              refine WL.c rfl (o_mvh (show _ = Value.string _ from rfl) ?_)
              refine WL.c rfl (o_eqT rfl rfl ?_)
              refine WL.c rfl (o_mvh (show _ = Value.bool _ from rfl) ?_)
              refine WL.g rfl (by simp) rfl (o_mvh (show _ = Value.int _ _ from rfl) ?_)
              refine WL.g rfl (by simp) rfl (o_call Tryd.call15 (lc rfl ln) ((num_spec _ _).mono ?_))
              rintro v192 w192 ⟨rfl, rfl⟩
              refine WL.g rfl (by simp) rfl (o_mvh (show _ = Value.int _ _ from rfl) ?_)
              refine WL.g rfl (by simp) rfl (o_eq rfl rfl ?_)
              refine WL.c rfl (o_pickA rfl rfl ?_)
              refine WL.c rfl (o_ash (show _ = Value.bool _ from rfl) ?_)
              refine WL.nil ?_
              refine W.ret ?_
              refine ret1v rfl (show _ = Value.bool _ from rfl) ?_
              exact ⟨congrArg Value.bool (by simp), c, d, np, VC, VD, hB.ext hx, by omega, hx.mono (fun _ _ h => h.elim), fun k hk => .inl hk⟩
            · try simp only [decide_eq_true_eq, decide_eq_false_iff_not, Bool.not_eq_true', Bool.not_eq_false', Bool.and_eq_true, Bool.or_eq_true, Bool.and_eq_false_iff, Bool.or_eq_false_iff] at c175
              refine W.skip ?_
              refine W.seq ?_
              refine W.region ?_
              refine WL.c rfl (o_ash (show _ = Value.bool _ from rfl) ?_)
              refine WL.nil ?_
              refine W.ret ?_
              refine ret1v rfl (show _ = Value.bool _ from rfl) ?_
              exact ⟨congrArg Value.bool (by simp), c, d, np, VC, VD, hB.ext hx, by omega, hx.mono (fun _ _ h => h.elim), fun k hk => .inl hk⟩
end Go.Proofs.YtgmjfcekeglhjaaDoor

set_option linter.unusedSimpArgs false
set_option linter.unusedVariables false
set_option maxRecDepth 100000
namespace Go.Proofs.YtgmjfcekeglhjaaDoor
open Go Go.Vc Go.RowKit Go.Proofs

theorem Sl.only0 {F : Nat → Prop} {w w' : World} {s : Nat} {v : Value} {n : Nat} {xs : List Value} (h : Sl w s v n xs) (ho : Only F w w') (hn : 0 < n → ∀ b, v.ownBlock = some b → ¬ F b) : Sl w' s v n xs := by
  rcases Nat.eq_zero_or_pos n with rfl | h0
  · obtain ⟨a, c, hv⟩ := h.isSlice
    exact ⟨h.len, .inl ⟨rfl, a, c, hv⟩⟩
  · exact h.only ho (hn h0)
def parU (T : List UInt8) : List Nd × Int × Int := match (parZ T).1 with | none => ([], 41, ((parZ T).2 : Int)) | some u => (u.flat, 0, 0)
theorem vparse_u (T : List UInt8) (w0 : World) (hl : T.length ≤ 3000) : Ca Tryd.prog 24 #[st T] w0 (fun r w' => Ext w0 w' ∧ (parU T).1.length ≤ T.length ∧ ∃ nv, r = .tuple #[nv, .agg #[.int .i64 (parU T).2.1, .int .i64 (parU T).2.2]] ∧ w'.ownsRow w0.heap.size 69 3 nv (parU T).1.length (nds (parU T).1)) :=
  (vParse_spec T w0 (by omega)).mono fun r w' ⟨hx, _, h2⟩ => by
    obtain ⟨h3, h4⟩ := h2 (by omega)
    refine ⟨hx, ?_⟩
    unfold parU
    cases hz : (parZ T).1 with
    | none =>
      obtain ⟨h5, h6⟩ := h3 hz
      exact ⟨Nat.zero_le _, _, h5, World.ownsRow_nil _ _ _ _⟩
    | some u =>
      obtain ⟨h5, nv, h6, h7⟩ := h4 u hz
      exact ⟨h5, nv, h6, h7⟩
theorem rparse_u (T : List UInt8) (w0 : World) (hl : T.length ≤ 3000) : Ca Tryd.prog 55 #[st T] w0 (fun r w' => Ext w0 w' ∧ ∃ nv, r = .tuple #[nv, .int .i64 (parU T).2.1, .int .i64 (parU T).2.2] ∧ w'.ownsRow w0.heap.size 69 3 nv (parU T).1.length (nds (parU T).1)) :=
  (rparse_spec T w0 (by omega)).mono fun r w' ⟨hx, _, h2⟩ => by
    obtain ⟨h3, h4⟩ := h2 (by omega)
    refine ⟨hx, ?_⟩
    unfold parU
    cases hz : (parZ T).1 with
    | none => exact ⟨_, h3 hz, World.ownsRow_nil _ _ _ _⟩
    | some u =>
      obtain ⟨nv, h6, h7⟩ := h4 u hz
      exact ⟨nv, h6, h7⟩
def pk (a : Int) (n : Nat) : Nat := ((a.tmod n + n).tmod n).toNat
theorem tmod_rng (a : Int) {n : Nat} (h : 0 < n) : -(n : Int) < a.tmod n ∧ a.tmod n < n := by
  have h1 : (a.tmod (n : Int)).natAbs = a.natAbs % n := by rw [Int.natAbs_tmod]; simp
  have h2 := Nat.mod_lt a.natAbs h
  omega
theorem pk_val (a : Int) {n : Nat} (h : 0 < n) : Value.int .i64 ((a.tmod (n : Int) + (n : Int)).tmod (n : Int)) = Value.int .i64 ((pk a n : Nat) : Int) ∧ pk a n < n := by
  obtain ⟨h1, h2⟩ := tmod_rng a h
  obtain ⟨m, hm⟩ : ∃ m : Nat, a.tmod (n : Int) + n = (m : Int) := ⟨(a.tmod (n : Int) + n).toNat, by omega⟩
  have h3 : (m : Int).tmod (n : Int) = ((m % n : Nat) : Int) := rfl
  have h4 := Nat.mod_lt m h
  unfold pk
  rw [hm, h3]
  exact ⟨by rw [Int.toNat_natCast], by omega⟩
theorem nds_take3 {A R : List Nd} {y : Nd} : ((nds (A ++ y :: R)).drop (A.length * 3)).take 3 = ndV y := by
  rw [show nds (A ++ y :: R) = nds A ++ (ndV y ++ nds R) by simp [nds], List.drop_left' (nds_len A)]
  rfl
theorem nds_put {A R : List Nd} {x y : Nd} : (nds (A ++ x :: R)).take (A.length * 3) ++ ndV y ++ (nds (A ++ x :: R)).drop (A.length * 3 + 3) = nds (A ++ y :: R) := by
  have e : ∀ z, nds (A ++ z :: R) = nds A ++ (ndV z ++ nds R) := fun z => by simp [nds]
  rw [e x, e y, List.take_left' (nds_len A), ← List.drop_drop, List.drop_left' (nds_len A), List.append_assoc]
  rfl
theorem split_at {L : List Nd} {k : Nat} (h : k < L.length) : ∃ (A R : List Nd) (k1 : Int) (n : Nat) (q : Int), L = A ++ ⟨k1, n, q⟩ :: R ∧ A.length = k := by
  obtain ⟨x, hx⟩ : ∃ x, x = L[k] := ⟨_, rfl⟩
  refine ⟨L.take k, L.drop (k + 1), x.kind, x.n, x.kids, ?_, by simp; omega⟩
  rw [hx]
  exact (by simp : L = L.take k ++ L[k] :: L.drop (k + 1))

set_option maxHeartbeats 8000000 in
theorem parses_spec (wt : World) (bp : Nat) (a b c d : Value) (nl np : Nat) (VA VB VC VD : Nat → Value) (T : List UInt8) (w0 : World) (hB : Bk w0 bp a b c d nl np VA VB VC VD) (hnl : nl ≤ 1000) (hnp : np ≤ 900) (hx : Ext wt w0) (hBt : ∀ k, BF bp a b c d nl np VA VB VC VD k → wt.heap.size ≤ k) (hTl : T.length ≤ 9223372036854775807) : Ca Tryd.prog 34 #[.pointer (some ⟨bp, 0, none⟩), st T] w0 (fun r w' => r = .bool true ∧ ∃ (a' b' c' d' : Value) (nl' np' : Nat) (VA' VB' VC' VD' : Nat → Value), Bk w' bp a' b' c' d' nl' np' VA' VB' VC' VD' ∧ nl' ≤ nl + 2 ∧ np' ≤ np + 4 ∧ Ext wt w' ∧ ∀ k, BF bp a' b' c' d' nl' np' VA' VB' VC' VD' k → wt.heap.size ≤ k) := by
  refine Ca.of Tryd.func34 Tryd.ntmps34 rfl rfl ?_
  refine W.seq ?_
  refine W.region ?_
  refine WL.c rfl (o_ash (show _ = Value.bool _ from rfl) ?_)
  refine WL.nil ?_
  refine W.seq ?_
  refine W.seq ?_
  refine W.region ?_
  refine WL.c rfl (o_mvh (show _ = Value.string _ from rfl) ?_)
  refine WL.c rfl (o_lenT TI9 rfl ?_)
  refine WL.c rfl (o_gt rfl rfl ?_)
  refine WL.nil ?_
  refine W.cut (fun e1 w1 => (∃ S : List UInt8, S.length ≤ 3000 ∧ e1 1 = st S) ∧ e1 0 = .pointer (some ⟨bp, 0, none⟩) ∧ w1 = w0) ?_ ?_
  · -- both ways
    refine W.cond rfl (fun c15 => ?_) (fun c15 => ?_)
    · try simp only [decide_eq_true_eq, decide_eq_false_iff_not, Bool.not_eq_true', Bool.not_eq_false', Bool.and_eq_true, Bool.or_eq_true, Bool.and_eq_false_iff, Bool.or_eq_false_iff] at c15
      refine W.region ?_
      refine WL.c rfl (o_mvh (show _ = Value.string _ from rfl) ?_)
      refine WL.c rfl (o_ssT TI9 rfl Lo.n (Hi.s (h := 3000) rfl) (by omega) (by omega) ?_)
      refine WL.c rfl (o_ash (show _ = Value.string _ from rfl) ?_)
      refine WL.nil ?_
      first | exact ⟨⟨T.take 3000, by simp; omega, rfl⟩, rfl, rfl⟩ | exact ⟨⟨T, by omega, rfl⟩, rfl, rfl⟩
    · try simp only [decide_eq_true_eq, decide_eq_false_iff_not, Bool.not_eq_true', Bool.not_eq_false', Bool.and_eq_true, Bool.or_eq_true, Bool.and_eq_false_iff, Bool.or_eq_false_iff] at c15
      refine W.skip ?_
      first | exact ⟨⟨T.take 3000, by simp; omega, rfl⟩, rfl, rfl⟩ | exact ⟨⟨T, by omega, rfl⟩, rfl, rfl⟩
  rintro e w ⟨⟨S, hS, h1⟩, h0, hw1⟩
  refine W.seq ?_
  have hw2 := hw1.symm
  subst hw2
  have hBl := hB.lt
  have hq0 := hx.size
  refine W.region ?_
  refine WL.c rfl (o_mvh h1 ?_)
  refine WL.c rfl (o_call Tryd.call24 (lc rfl ln) ((vparse_u S _ hS).mono ?_))
  rintro v20 w20 ⟨hx20, hl20, nv1, rfl, hn1⟩
  obtain ⟨U, hU⟩ : ∃ U, U = parU S := ⟨_, rfl⟩
  rw [← hU] at hn1 hl20 ⊢
  have hsz1 := hx20.size
  replace hx := hx.tr hx20
  replace hB := hB.ext hx20
  refine WL.c rfl (o_mvh (by first | exact (show _ = Value.tuple _ from rfl) | exact rfl) ?_)
  refine WL.c rfl (o_ext rfl rfl ?_)
  refine WL.c rfl (o_ext rfl rfl ?_)
  refine WL.c rfl (o_alB TI64 ?_)
  intro wa hCa hxa hsa
  refine WL.c rfl (o_ash (by first | exact (show _ = Value.slice _ _ _ from rfl) | exact rfl) ?_)
  refine WL.u (o_stA TI64 rfl (show _ = Value.agg ([.int .i64 U.2.1, .int .i64 U.2.2]).toArray from rfl) rfl rfl hCa rfl ?_)
  intro wb6 hC6 hob hsb
  have hxb := Ext.own hxa (Nat.le_refl _) hob
  obtain ⟨b6, hb6⟩ : ∃ b, b = w20.heap.size := ⟨_, rfl⟩
  rw [← hb6] at hC6 ⊢
  clear hCa hxa hsa hob hsb
  replace hx := hx.tr hxb
  replace hB := hB.ext hxb
  replace hn1 := own_ext hn1 hxb
  have hq6 := hxb.size
  clear hxb
  refine WL.nil ?_
  refine W.seq ?_
  refine W.region ?_
  refine WL.c rfl (o_mvh h1 ?_)
  refine WL.c rfl (o_call Tryd.call24 (lc rfl ln) ((vparse_u S _ hS).mono ?_))
  rintro v25 w25 ⟨hx25, -, nv2, rfl, hn2⟩
  rw [← hU] at hn2 ⊢
  have hsz2 := hx25.size
  have hq2 := hx.size
  have hz1 : ∀ k, nv1.ownBlock = some k → k < wb6.heap.size := fun k hk => (hn1.lt k hk).2
  replace hx := hx.tr hx25
  replace hB := hB.ext hx25
  replace hC6 := hx25.blk hC6 (fun h => h)
  replace hn1 := own_ext hn1 hx25
  refine WL.c rfl (o_mvh (by first | exact (show _ = Value.tuple _ from rfl) | exact rfl) ?_)
  refine WL.c rfl (o_ext rfl rfl ?_)
  refine WL.c rfl (o_ext rfl rfl ?_)
  refine WL.c rfl (o_alB TI64 ?_)
  intro wa hCa hxa hsa
  refine WL.c rfl (o_ash (by first | exact (show _ = Value.slice _ _ _ from rfl) | exact rfl) ?_)
  refine WL.u (o_stA TI64 rfl (show _ = Value.agg ([.int .i64 U.2.1, .int .i64 U.2.2]).toArray from rfl) rfl rfl hCa rfl ?_)
  intro wb8 hC8 hob hsb
  have hxb := Ext.own hxa (Nat.le_refl _) hob
  obtain ⟨b8, hb8⟩ : ∃ b, b = w25.heap.size := ⟨_, rfl⟩
  rw [← hb8] at hC8 ⊢
  clear hCa hxa hsa hob hsb
  replace hx := hx.tr hxb
  replace hB := hB.ext hxb
  replace hC6 := hxb.blk hC6 (fun h => h)
  replace hn1 := own_ext hn1 hxb
  replace hn2 := own_ext hn2 hxb
  clear hxb
  refine WL.nil ?_
  refine W.seq ?_
  refine W.region ?_
  refine WL.c rfl (o_mvh h1 ?_)
  refine WL.c rfl (o_call Tryd.call55 (lc rfl ln) ((rparse_u S _ hS).mono ?_))
  rintro v30 w30 ⟨hx30, nv3, rfl, hn3⟩
  rw [← hU] at hn3 ⊢
  replace hx := hx.tr hx30
  replace hB := hB.ext hx30
  replace hC6 := hx30.blk hC6 (fun h => h)
  replace hC8 := hx30.blk hC8 (fun h => h)
  replace hn1 := own_ext hn1 hx30
  replace hn2 := own_ext hn2 hx30
  have hsx := hx.size
  refine WL.c rfl (o_mvh (by first | exact (show _ = Value.tuple _ from rfl) | exact rfl) ?_)
  refine WL.c rfl (o_ext rfl rfl ?_)
  refine WL.c rfl (o_ext rfl rfl ?_)
  refine WL.c rfl (o_ext rfl rfl ?_)
  refine WL.c rfl (o_ash (by first | exact (show _ = Value.slice _ _ _ from rfl) | exact rfl) ?_)
  refine WL.c rfl (o_ash (show _ = Value.int _ _ from rfl) ?_)
  refine WL.c rfl (o_ash (show _ = Value.int _ _ from rfl) ?_)
  refine WL.nil ?_
  refine W.seq ?_
  refine W.region ?_
  refine WL.c rfl (o_mvh (by first | exact (show _ = Value.slice _ _ _ from rfl) | exact rfl) ?_)
  refine WL.c rfl (o_mvh (by first | exact (show _ = Value.slice _ _ _ from rfl) | exact rfl) ?_)
  refine WL.c rfl (o_call Tryd.call18 (lc rfl (lc rfl ln)) ((requal_spec U.1 U.1 nv1 nv3 _ (Sl.own hn1) (Sl.own hn3) (by omega)).mono ?_))
  rintro v36 w36 ⟨rfl, hx36⟩
  replace hx := hx.tr hx36
  replace hB := hB.ext hx36
  replace hC6 := hx36.blk hC6 (fun h => h)
  replace hC8 := hx36.blk hC8 (fun h => h)
  replace hn1 := own_ext hn1 hx36
  replace hn2 := own_ext hn2 hx36
  replace hn3 := own_ext hn3 hx36
  refine WL.c rfl (o_mvh (show _ = Value.bool _ from rfl) ?_)
  refine WL.g rfl (by simp) rfl (o_mvh (by first | exact (show _ = Value.slice _ _ _ from rfl) | exact rfl) ?_)
  refine WL.g rfl (by simp) rfl (o_mvh (by first | exact (show _ = Value.slice _ _ _ from rfl) | exact rfl) ?_)
  refine WL.g rfl (by simp) rfl (o_call Tryd.call18 (lc rfl (lc rfl ln)) ((requal_spec U.1 U.1 nv2 nv3 _ (Sl.own hn2) (Sl.own hn3) (by omega)).mono ?_))
  rintro v40 w40 ⟨rfl, hx40⟩
  replace hx := hx.tr hx40
  replace hB := hB.ext hx40
  replace hC6 := hx40.blk hC6 (fun h => h)
  replace hC8 := hx40.blk hC8 (fun h => h)
  replace hn1 := own_ext hn1 hx40
  replace hn2 := own_ext hn2 hx40
  refine WL.c rfl (o_pickA rfl rfl ?_)
  refine WL.c rfl (o_mvh (show _ = Value.bool _ from rfl) ?_)
  refine WL.g rfl (by simp) rfl (o_ldA TI64 rfl rfl (show Cells _ b6 0 [.int .i64 U.2.1, .int .i64 U.2.2] from Cells.of hC6 0 _ (by simp)) rfl ?_)
  refine WL.g rfl (by simp) rfl (o_mvh (show _ = Value.int _ _ from rfl) ?_)
  refine WL.g rfl (by simp) rfl (o_mvh (show _ = Value.int _ _ from rfl) ?_)
  refine WL.g rfl (by simp) rfl (o_call Tryd.call25 (lc rfl (lc rfl (lc rfl ln))) ((fault_spec _ _ _ _ _).mono ?_))
  rintro v46 w46 ⟨rfl, hx46⟩
  replace hx := hx.tr hx46
  replace hB := hB.ext hx46
  replace hC8 := hx46.blk hC8 (fun h => h)
  replace hn1 := own_ext hn1 hx46
  replace hn2 := own_ext hn2 hx46
  refine WL.c rfl (o_pickA rfl rfl ?_)
  refine WL.c rfl (o_mvh (show _ = Value.bool _ from rfl) ?_)
  refine WL.g rfl (by simp) rfl (o_ldA TI64 rfl rfl (show Cells _ b8 0 [.int .i64 U.2.1, .int .i64 U.2.2] from Cells.of hC8 0 _ (by simp)) rfl ?_)
  refine WL.g rfl (by simp) rfl (o_mvh (show _ = Value.int _ _ from rfl) ?_)
  refine WL.g rfl (by simp) rfl (o_mvh (show _ = Value.int _ _ from rfl) ?_)
  refine WL.g rfl (by simp) rfl (o_call Tryd.call25 (lc rfl (lc rfl (lc rfl ln))) ((fault_spec _ _ _ _ _).mono ?_))
  rintro v52 w52 ⟨rfl, hx52⟩
  replace hx := hx.tr hx52
  replace hB := hB.ext hx52
  replace hn1 := own_ext hn1 hx52
  replace hn2 := own_ext hn2 hx52
  refine WL.c rfl (o_pickA rfl rfl ?_)
  refine WL.c rfl (o_ash (show _ = Value.bool _ from rfl) ?_)
  refine WL.nil ?_
  refine W.seq ?_
  have hge1 : ∀ k, nv1.ownBlock = some k → wt.heap.size ≤ k := fun k hk => by have := (hn1.lt k hk).1; omega
  have hge2 : ∀ k, nv2.ownBlock = some k → wt.heap.size ≤ k := fun k hk => by have := (hn2.lt k hk).1; omega
  have hb1 : ∀ k, nv1.ownBlock = some k → w0.heap.size ≤ k := fun k hk => (hn1.lt k hk).1
  have hb2 : ∀ k, nv2.ownBlock = some k → w0.heap.size ≤ k := fun k hk => by have := (hn2.lt k hk).1; omega
  have h21 : ∀ k, nv2.ownBlock = some k → ¬ nv1.ownBlock = some k := fun k hk h1 => by have := (hn2.lt k hk).1; have := hz1 k h1; omega
  refine W.region ?_
  refine WL.c rfl (o_mvh h0 ?_)
  refine WL.c rfl (o_mvh (by first | exact (show _ = Value.slice _ _ _ from rfl) | exact rfl) ?_)
  refine WL.c rfl (o_call Tryd.call21 (lc rfl (lc rfl ln)) ((bnodes_spec bp a b c d nl np VA VB VC VD _ hB (by omega) nv1 U.1 (own_mono hn1 (Nat.zero_le _)) (by omega) (fun k hk hF => by have := hb1 k hk; have := hBl k hF; omega)).mono ?_))
  rintro v56 w56 ⟨a1, b1, VA1, VB1, hB1, ho1, hBF1⟩
  have hsz3 := ho1.size
  have hzz2 : ∀ k, nv2.ownBlock = some k → k < w52.heap.size := fun k hk => (hn2.lt k hk).2
  replace hn2 := own_only hn2 ho1 (fun k hk hF => by rcases hF with hF | hF; have := hb2 k hk; have := hBl k hF; omega; exact h21 k hk hF)
  have hge3 : ∀ k, BF bp a1 b1 c d (nl + 1) np VA1 VB1 VC VD k → wt.heap.size ≤ k := fun k hk => by
    have := hx.size
    rcases hBF1 k hk with hF | hF | hF
    · exact hBt k hF
    · exact hge1 k hF
    · omega
  replace hx := hx.trans' ho1 (fun _ h => h) (fun k hk hF => by rcases hF with hF | hF; have := hBt k hF; omega; have := hge1 k hF; omega)
  refine WL.nil ?_
  refine W.seq ?_
  refine W.region ?_
  refine WL.c rfl (o_mvh h0 ?_)
  refine WL.c rfl (o_mvh (by first | exact (show _ = Value.slice _ _ _ from rfl) | exact rfl) ?_)
  refine WL.c rfl (o_call Tryd.call21 (lc rfl (lc rfl ln)) ((bnodes_spec bp a1 b1 c d (nl + 1) np VA1 VB1 VC VD _ hB1 (by omega) nv2 U.1 (own_mono hn2 (Nat.zero_le _)) (by omega) (fun k hk hF => by have h1 := hb2 k hk; rcases hBF1 k hF with hF | hF | hF; have := hBl k hF; omega; exact h21 k hk hF; have := hzz2 k hk; omega)).mono ?_))
  rintro v59 w59 ⟨a2, b2, VA2, VB2, hB2, ho2, hBF2⟩
  have hge4 : ∀ k, BF bp a2 b2 c d (nl + 1 + 1) np VA2 VB2 VC VD k → wt.heap.size ≤ k := fun k hk => by
    have := hx.size
    rcases hBF2 k hk with hF | hF | hF
    · exact hge3 k hF
    · exact hge2 k hF
    · omega
  replace hx := hx.trans' ho2 (fun _ h => h) (fun k hk hF => by rcases hF with hF | hF; have := hge3 k hF; omega; have := hge2 k hF; omega)
  refine WL.nil ?_
  refine W.seq ?_
  refine W.region ?_
  refine WL.c rfl (o_mvh (show _ = Value.bool _ from rfl) ?_)
  refine WL.c rfl (o_ash (show _ = Value.bool _ from rfl) ?_)
  refine WL.nil ?_
  refine W.ret ?_
  refine ret1v rfl (show _ = Value.bool _ from rfl) ?_
  exact ⟨congrArg Value.bool (by simp), a2, b2, c, d, _, np, VA2, VB2, VC, VD, hB2, by omega, by omega, hx, hge4⟩
end Go.Proofs.YtgmjfcekeglhjaaDoor

set_option linter.unusedSimpArgs false
set_option linter.unusedVariables false
set_option maxRecDepth 100000
namespace Go.Proofs.YtgmjfcekeglhjaaDoor
open Go Go.Vc Go.RowKit Go.Proofs
set_option maxHeartbeats 16000000 in
theorem plays_spec (wt : World) (bp : Nat) (a b c d : Value) (nl np : Nat) (VA VB VC VD : Nat → Value) (o : OpX) (w0 : World) (hB : Bk w0 bp a b c d nl np VA VB VC VD) (hnl : nl ≤ 1000) (hnp : np ≤ 900) (hx : Ext wt w0) (hBt : ∀ k, BF bp a b c d nl np VA VB VC VD k → wt.heap.size ≤ k) (hVS : Sl wt 3 o.V o.LV.length (nds o.LV)) (hVl : o.LV.length ≤ 9223372036854775807) (hVN : NOk o.LV) (hWS : Sl wt 3 o.W o.LW.length (nds o.LW)) (hWl : o.LW.length ≤ 9223372036854775807) (hsl : o.s.length ≤ 9223372036854775807) (hT : Tab wt) (h00 : 0 < wt.heap.size) : Ca Tryd.prog 10 #[.pointer (some ⟨bp, 0, none⟩), .agg (opV o).toArray] w0 (fun r w' => r = .bool true ∧ ∃ (a' b' c' d' : Value) (nl' np' : Nat) (VA' VB' VC' VD' : Nat → Value), Bk w' bp a' b' c' d' nl' np' VA' VB' VC' VD' ∧ nl' ≤ nl + 2 ∧ np' ≤ np + 4 ∧ Ext wt w' ∧ ∀ k, BF bp a' b' c' d' nl' np' VA' VB' VC' VD' k → wt.heap.size ≤ k) := by
  have hV1 := (sl_one hVS).1
  have hW1 := (sl_one hWS).1
  refine Ca.of Tryd.func10 Tryd.ntmps10 rfl rfl ?_
  refine W.seq ?_
  refine W.region ?_
  refine WL.c rfl (o_boxB rfl ?_)
  intro w3 hC3 hx3 hs3
  obtain ⟨b3, hb3⟩ : ∃ b, b = w0.heap.size := ⟨_, rfl⟩
  rw [← hb3] at hC3 ⊢
  replace hC3 : w3.heap[b3]? = some (.cells (opV o).toArray 32 (0, 0)) := hC3
  replace hx := hx.tr hx3
  replace hB := hB.ext hx3
  refine WL.c rfl (o_ash (show _ = Value.bool _ from rfl) ?_)
  refine WL.nil ?_
  refine W.seq ?_
  refine W.seq ?_
  refine W.region ?_
  refine WL.c rfl (o_fa 0 TI32 rfl TI3 rfl rfl ?_)
  refine WL.c rfl (o_ld TI3 rfl rfl (cell_of hC3 rfl) ?_)
  refine WL.c rfl (o_eq rfl rfl ?_)
  refine WL.nil ?_
  refine W.cond rfl (fun c11 => ?_) (fun c11 => ?_)
  · try simp only [decide_eq_true_eq, decide_eq_false_iff_not, Bool.not_eq_true', Bool.not_eq_false', Bool.and_eq_true, Bool.or_eq_true, Bool.and_eq_false_iff, Bool.or_eq_false_iff] at c11
    refine W.seq ?_
    refine W.region ?_
    refine WL.c rfl (o_mvh (by first | exact (show _ = Value.pointer _ from rfl) | exact rfl) ?_)
    refine WL.c rfl (o_fa 5 TI32 rfl TI9 rfl rfl ?_)
    refine WL.c rfl (o_ld TI9 rfl rfl (cell_of hC3 rfl) ?_)
    refine WL.c rfl (o_call Tryd.call34 (lc rfl (lc rfl ln)) ((parses_spec wt bp a b c d nl np VA VB VC VD o.s _ hB hnl hnp hx hBt hsl).mono ?_))
    rintro v15 w15 ⟨rfl, hres⟩
    refine WL.c rfl (o_ash (show _ = Value.bool _ from rfl) ?_)
    refine WL.nil ?_
    refine W.ret ?_
    refine ret1v rfl (show _ = Value.bool _ from rfl) ?_
    exact ⟨rfl, hres⟩
  · try simp only [decide_eq_true_eq, decide_eq_false_iff_not, Bool.not_eq_true', Bool.not_eq_false', Bool.and_eq_true, Bool.or_eq_true, Bool.and_eq_false_iff, Bool.or_eq_false_iff] at c11
    refine W.skip ?_
    refine W.seq ?_
    refine W.region ?_
    refine WL.c rfl (o_fa 1 TI32 rfl TI30 rfl rfl ?_)
    refine WL.c rfl (o_ld TI30 rfl rfl (cell_of hC3 rfl) ?_)
    refine WL.c rfl (o_call Tryd.call35 (lc rfl ln) ((cut_spec o.LV o.V _ (hVS.ext hx) hVl).mono ?_))
    rintro v18 w18 ⟨hc18, hb18, rfl⟩
    have hL0 : (o.LV.take 400).length ≤ 400 := by rw [List.length_take]; omega
    have hN : NOk (o.LV.take 400) := fun x hx => hVN x (List.mem_of_mem_take hx)
    have hpos : 0 < (o.LV.take 400).length → ∀ b, v18.ownBlock = some b → b < wt.heap.size := fun h0 b hb => hVS.lt (by rw [List.length_take] at h0; omega) (by rw [← hb18]; exact hb)
    clear hb18
    obtain ⟨L, hL9⟩ : ∃ L, L = o.LV.take 400 := ⟨_, rfl⟩
    rw [← hL9] at hc18 hL0 hN hpos
    clear hL9
    have hBl := hB.lt
    refine WL.c rfl (o_ash (by first | exact (show _ = Value.slice _ _ _ from rfl) | exact rfl) ?_)
    refine WL.nil ?_
    refine W.seq ?_
    refine W.region ?_
    refine WL.c rfl (o_mvh (by first | exact (show _ = Value.slice _ _ _ from rfl) | exact rfl) ?_)
    refine WL.c rfl (o_call Tryd.call36 (lc rfl ln) ((lent_spec L v18 _ hc18 (by omega)).mono ?_))
    rintro v20 w20 ⟨hx20, g, cc, rfl, hLn⟩
    have hxz := hx.size
    have hgB : ∀ k, BF bp a b c d nl np VA VB VC VD k → ¬ k = g := fun k hk he => by have := hBl k hk; have := hLn.lt.1; omega
    replace hx := hx.tr hx20
    replace hB := hB.ext hx20
    replace hC3 := hx20.blk hC3 (fun h => h)
    replace hc18 := hc18.ext hx20
    refine WL.c rfl (o_ash (by first | exact (show _ = Value.slice _ _ _ from rfl) | exact rfl) ?_)
    refine WL.nil ?_
    refine W.seq ?_
    refine W.seq ?_
    refine W.region ?_
    refine WL.c rfl (o_mvh (by first | exact (show _ = Value.pointer _ from rfl) | exact rfl) ?_)
    refine WL.c rfl (o_ldA TI32 rfl rfl (show Cells _ b3 0 (opV o) from Cells.of hC3 0 _ (by simp)) rfl ?_)
    refine WL.c rfl (o_mvh (by first | exact (show _ = Value.slice _ _ _ from rfl) | exact rfl) ?_)
    refine WL.c rfl (o_mvh (by first | exact (show _ = Value.slice _ _ _ from rfl) | exact rfl) ?_)
    refine WL.c rfl (o_call Tryd.call37 (lc rfl (lc rfl (lc rfl (lc rfl ln)))) ((asks_spec bp a b c d nl np VA VB VC VD _ g cc L v18 o _ hB (by omega) hLn hc18 hL0 hN (hWS.ext hx) hWl hV1 (hT.ext hx) (by have := hx.size; omega)).mono ?_))
    rintro v25 w25 ⟨rfl, c2, d2, np2, VC2, VD2, hB25, hnp2, ho25, hBF25⟩
    have hgB2 : ∀ k, BF bp a b c2 d2 nl np2 VA VB VC2 VD2 k → ¬ k = g := fun k hk he => by
      rcases hBF25 k hk with h1 | h1
      · exact hgB k h1 he
      · have := hLn.lt.2; omega
    have hBt2 : ∀ k, BF bp a b c2 d2 nl np2 VA VB VC2 VD2 k → wt.heap.size ≤ k := fun k hk => by
      have := hx.size
      rcases hBF25 k hk with h1 | h1
      · exact hBt k h1
      · omega
    replace hx := hx.trans' ho25 (fun _ h => h) (fun k hk hF => by have := hBt k hF; omega)
    replace hC3 := ho25.blk hC3 (hB.off hC3 (by decide) (by decide) (by decide) (by decide) (by decide))
    replace hLn := hLn.only ho25 (fun hF => hgB g hF rfl)
    replace hc18 := Sl.only0 hc18 ho25 (fun h0 b hb hF => by have := hBt b hF; have := hpos h0 b hb; omega)
    clear hB hBt hgB hBF25
    have hB := hB25
    have hBt := hBt2
    have hgB := hgB2
    clear hB25 hBt2 hgB2
    refine WL.c rfl (o_not' rfl ?_)
    refine WL.c rfl (o_mvh (show _ = Value.bool _ from rfl) ?_)
    refine WL.g rfl (by simp) rfl (o_mvh (by first | exact (show _ = Value.slice _ _ _ from rfl) | exact rfl) ?_)
    refine WL.g rfl (by simp) rfl (o_mvh (by first | exact (show _ = Value.slice _ _ _ from rfl) | exact rfl) ?_)
    refine WL.g rfl (by simp) rfl (o_call Tryd.call38 (lc rfl (lc rfl ln)) ((kept_spec _ g cc L L v18 _ hLn hc18 (by omega)).mono ?_))
    rintro v30 w30 ⟨rfl, hx30⟩
    replace hx := hx.tr hx30
    replace hB := hB.ext hx30
    replace hC3 := hx30.blk hC3 (fun h => h)
    replace hc18 := hc18.ext hx30
    replace hLn := hLn.ext hx30
    refine WL.g rfl (by simp) rfl (o_not' rfl ?_)
    refine WL.c rfl (o_pickO rfl rfl ?_)
    refine WL.nil ?_
    refine W.condF' rfl (by simp) ?_
    refine W.skip ?_
    refine W.seq ?_
    refine W.seq ?_
    refine W.region ?_
    refine WL.c rfl (o_mvh (by first | exact (show _ = Value.slice _ _ _ from rfl) | exact rfl) ?_)
    refine WL.c rfl (o_lenR TI30 rfl hc18 ?_)
    refine WL.c rfl (o_eq rfl rfl ?_)
    refine WL.nil ?_
    refine W.cond rfl (fun c35 => ?_) (fun c35 => ?_)
    · try simp only [decide_eq_true_eq, decide_eq_false_iff_not, Bool.not_eq_true', Bool.not_eq_false', Bool.and_eq_true, Bool.or_eq_true, Bool.and_eq_false_iff, Bool.or_eq_false_iff] at c35
      refine W.seq ?_
      refine W.region ?_
      refine WL.c rfl (o_ash (show _ = Value.bool _ from rfl) ?_)
      refine WL.nil ?_
      refine W.ret ?_
      refine ret1v rfl (show _ = Value.bool _ from rfl) ?_
      exact ⟨rfl, a, b, c2, d2, nl, np2, VA, VB, VC2, VD2, hB, by omega, by omega, hx, hBt⟩
    · try simp only [decide_eq_true_eq, decide_eq_false_iff_not, Bool.not_eq_true', Bool.not_eq_false', Bool.and_eq_true, Bool.or_eq_true, Bool.and_eq_false_iff, Bool.or_eq_false_iff] at c35
      have h0 : 0 < L.length := by omega
      have hBl2 := hB.lt
      have hgl := hLn.lt.2
      have hgw : wt.heap.size ≤ g := by have := hLn.lt.1; omega
      have hx30z := hx.size
      refine W.skip ?_
      refine W.seq ?_
      refine W.region ?_
      refine WL.c rfl (o_mvh (by first | exact (show _ = Value.slice _ _ _ from rfl) | exact rfl) ?_)
      refine WL.c rfl (o_apO (w30.heap.size) TI30 TI69 (show _ = Value.slice _ _ _ from rfl) rfl (World.ownsRow_nil _ _ _ _) hc18 rfl (by decide) (nds_oneA L) (by rw [maxLen_eq]; omega) (by omega) (Nat.le_refl _) ?_)
      intro v37 w37 hn37 ho37 _hb37 _hk37
      rw [List.nil_append, Nat.zero_add] at hn37
      replace ho37 : Ext w30 w37 := ho37.mono (fun k _ hk => by cases hk)
      replace hx := hx.tr ho37
      replace hB := hB.ext ho37
      replace hC3 := ho37.blk hC3 (fun h => h)
      replace hc18 := hc18.ext ho37
      replace hLn := hLn.ext ho37
      obtain ⟨n1, nc, rfl, hnb⟩ := own_some hn37 h0
      have hn1B : ∀ k, BF bp a b c2 d2 nl np2 VA VB VC2 VD2 k → ¬ k = n1 := fun k hk he => by have := hBl2 k hk; have := (hn37.lt n1 hnb).1; omega
      have hn1g : ¬ n1 = g := fun he => by have := (hn37.lt n1 hnb).1; omega
      obtain ⟨hpk, hpl⟩ := pk_val o.k h0
      refine WL.c rfl (o_ash (by first | exact (show _ = Value.slice _ _ _ from rfl) | exact rfl) ?_)
      refine WL.nil ?_
      refine W.seq ?_
      refine W.region ?_
      refine WL.c rfl (o_fa 4 TI32 rfl TI3 rfl rfl ?_)
      refine WL.c rfl (o_ld TI3 rfl rfl (cell_of hC3 rfl) ?_)
      refine WL.c rfl (o_mvh (by first | exact (show _ = Value.slice _ _ _ from rfl) | exact rfl) ?_)
      refine WL.c rfl (o_lenR TI30 rfl hc18 ?_)
      refine WL.c rfl (o_rem rfl rfl (by omega) ?_)
      refine WL.c rfl (o_mvh (by first | exact (show _ = Value.slice _ _ _ from rfl) | exact rfl) ?_)
      refine WL.c rfl (o_lenR TI30 rfl hc18 ?_)
      refine WL.c rfl (o_addi rfl rfl (by have := tmod_rng o.k h0; omega) ?_)
      refine WL.c rfl (o_mvh (by first | exact (show _ = Value.slice _ _ _ from rfl) | exact rfl) ?_)
      refine WL.c rfl (o_lenR TI30 rfl hc18 ?_)
      refine WL.c rfl (o_rem rfl rfl (by omega) ?_)
      refine WL.c rfl (o_ash (show _ = Value.int _ _ from rfl) ?_)
      refine WL.nil ?_
      refine W.seq ?_
      obtain ⟨A, R, xk, xn, xq, hLs, hAl⟩ := split_at hpl
      rw [← hAl] at hpk
      have hxn := hN ⟨xk, xn, xq⟩ (by rw [hLs]; simp)
      have hAL : A.length < L.length := by omega
      have hN2 : NOk (A ++ (⟨xk, xn ^^^ 1, xq⟩ : Nd) :: R) := fun z hz => by
        rcases List.mem_append.1 hz with h1 | h1
        · exact hN z (by rw [hLs]; simp [h1])
        · rcases List.mem_cons.1 h1 with rfl | h1
          · exact Nat.xor_lt_two_pow (n := 64) hxn (by decide)
          · exact hN z (by rw [hLs]; simp [h1])
      have hll : L.length = (A ++ (⟨xk, xn ^^^ 1, xq⟩ : Nd) :: R).length := by rw [hLs]; simp
      refine W.region ?_
      refine WL.c rfl (o_mvh (by first | exact (show _ = Value.slice _ _ _ from rfl) | exact rfl) ?_)
      refine WL.c rfl (o_mvh (show _ = Value.int _ _ from rfl) ?_)
      refine WL.c rfl (o_mvh (by first | exact (show _ = Value.slice _ _ _ from rfl) | exact rfl) ?_)
      refine WL.c rfl (o_mvh (show _ = Value.int _ _ from rfl) ?_)
      refine WL.c rfl (o_ixB (i := A.length) TI30 TI69 rfl hpk hAL ?_)
      refine WL.c rfl (o_fa 1 TI69 rfl TI43 rfl rfl ?_)
      refine WL.c rfl (o_ld TI43 rfl rfl (own_cell (j := 0 + A.length * 3 + 1) hn37 (by rw [Nat.zero_add, hLs]; exact (nds_get (by decide)).trans rfl)) ?_)
      refine WL.c rfl (n_xor (b := 1) 18446744073709551616 rfl (by decide) rfl rfl (hxn) (by decide) ?_)
      refine WL.c rfl (o_ixB (i := A.length) TI30 TI69 rfl hpk hAL ?_)
      refine WL.c rfl (o_fa 1 TI69 rfl TI43 rfl rfl ?_)
      refine WL.u (o_stRj TI43 rfl (show 0 + A.length * 3 + 1 = A.length * 3 + 1 by omega) (show _ = Value.int .u64 ((xn ^^^ 1 : Nat) : Int) from rfl) rfl hn37 rfl (by omega) ?_)
      intro w58 hn58 ho58 hs58
      rw [hLs, nds_setn, ← hLs] at hn58
      replace hx := hx.trans' ho58 (fun _ h => h) (fun k hk hF => by have he : n1 = k := Option.some.inj hF; have := (hn37.lt n1 rfl).1; omega)
      replace hB := hB.only ho58 (fun k hk hF => by cases hF; exact hn1B _ hk rfl)
      replace hC3 := ho58.blk hC3 (own_off hn37 hC3 (by decide))
      replace hLn := hLn.only ho58 (fun hF => by cases hF; exact hn1g rfl)
      replace hc18 := Sl.only0 hc18 ho58 (fun h0 b hb hF => by have he : n1 = b := Option.some.inj hF; have := hpos h0 _ hb; have := (hn37.lt n1 rfl).1; omega)
      refine WL.nil ?_
      refine W.seq ?_
      refine W.region ?_
      refine WL.c rfl (o_mvh (by first | exact (show _ = Value.slice _ _ _ from rfl) | exact rfl) ?_)
      refine WL.c rfl (o_mvh (show _ = Value.int _ _ from rfl) ?_)
      refine WL.c rfl (o_mvh (by first | exact (show _ = Value.slice _ _ _ from rfl) | exact rfl) ?_)
      refine WL.c rfl (o_mvh (show _ = Value.int _ _ from rfl) ?_)
      refine WL.c rfl (o_ixB (i := A.length) TI30 TI69 rfl hpk hAL ?_)
      refine WL.c rfl (o_ldA TI69 rfl rfl (show Cells _ n1 (0 + A.length * 3) (ndV ⟨xk, xn ^^^ 1, xq⟩) from by have h7 := own_cellsAt hn58 A.length; rw [nds_take3] at h7; exact h7) rfl ?_)
      refine WL.c rfl (o_ixB (i := A.length) TI30 TI69 rfl hpk hAL ?_)
      refine WL.u (o_stRA TI69 rfl (show 0 + A.length * 3 = A.length * 3 by omega) (show _ = Value.agg (ndV ⟨xk, xn ^^^ 1, xq⟩).toArray from rfl) rfl rfl hLn rfl (by omega) ?_)
      intro w65 hl65 ho65 hs65
      have hLn2 : Lent w65 w18.heap.size g cc (A ++ (⟨xk, xn ^^^ 1, xq⟩ : Nd) :: R) := by
        have e1 : (L ++ [mkQ] : List Nd) = A ++ (⟨xk, xn, xq⟩ : Nd) :: (R ++ [mkQ]) := by rw [hLs]; simp
        rw [e1] at hl65
        have h9 := hl65
        rw [show (ndV ⟨xk, xn ^^^ 1, xq⟩).toArray.toList = ndV ⟨xk, xn ^^^ 1, xq⟩ from rfl, nds_put] at h9
        show w65.ownsRow w18.heap.size _ 3 _ _ (nds ((A ++ (⟨xk, xn ^^^ 1, xq⟩ : Nd) :: R) ++ [mkQ]))
        rw [← hll, show (A ++ (⟨xk, xn ^^^ 1, xq⟩ : Nd) :: R) ++ [mkQ] = A ++ (⟨xk, xn ^^^ 1, xq⟩ : Nd) :: (R ++ [mkQ]) by simp]
        exact h9
      replace hx := hx.trans' ho65 (fun _ h => h) (fun k hk hF => by have he : g = k := Option.some.inj hF; omega)
      replace hB := hB.only ho65 (fun k hk hF => by cases hF; exact hgB _ hk rfl)
      replace hC3 := ho65.blk hC3 (fun hF => by cases hF; exact own_off hLn hC3 (by decide) rfl)
      replace hn58 := own_only hn58 ho65 (fun k hk hF => by cases hk; cases hF; exact hn1g rfl)
      clear hLn hl65
      have hLn := hLn2
      have hSn : Sl w65 3 ((Value.slice (some ⟨n1, 0, none⟩) (A ++ (⟨xk, xn ^^^ 1, xq⟩ : Nd) :: R).length nc)) (A ++ (⟨xk, xn ^^^ 1, xq⟩ : Nd) :: R).length (nds (A ++ (⟨xk, xn ^^^ 1, xq⟩ : Nd) :: R)) := by have h9 := Sl.own hn58; rw [hll] at h9; exact h9
      have hL2 : (A ++ (⟨xk, xn ^^^ 1, xq⟩ : Nd) :: R).length ≤ 400 := by omega
      refine WL.nil ?_
      refine W.seq ?_
      refine W.region ?_
      refine WL.c rfl (o_mvh (by first | exact (show _ = Value.pointer _ from rfl) | exact rfl) ?_)
      refine WL.c rfl (o_ldA TI32 rfl rfl (show Cells _ b3 0 (opV o) from Cells.of hC3 0 _ (by simp)) rfl ?_)
      refine WL.c rfl (o_mvh (show (Value.slice (some ⟨g, 0, none⟩) L.length cc) = (Value.slice (some ⟨g, 0, none⟩) (A ++ (⟨xk, xn ^^^ 1, xq⟩ : Nd) :: R).length cc) from by rw [hll]) ?_)
      refine WL.c rfl (o_mvh (show (Value.slice (some ⟨n1, 0, none⟩) L.length nc) = (Value.slice (some ⟨n1, 0, none⟩) (A ++ (⟨xk, xn ^^^ 1, xq⟩ : Nd) :: R).length nc) from by rw [hll]) ?_)
      refine WL.c rfl (o_call Tryd.call37 (lc rfl (lc rfl (lc rfl (lc rfl ln)))) ((asks_spec bp a b c2 d2 nl np2 VA VB VC2 VD2 _ g cc (A ++ (⟨xk, xn ^^^ 1, xq⟩ : Nd) :: R) (Value.slice (some ⟨n1, 0, none⟩) (A ++ (⟨xk, xn ^^^ 1, xq⟩ : Nd) :: R).length nc) o _ hB (by omega) hLn hSn hL2 hN2 (hWS.ext hx) hWl hV1 (hT.ext hx) (by have := hx.size; omega)).mono ?_))
      rintro v70 w70 ⟨rfl, c3, d3, np3, VC3, VD3, hB70, hnp3, ho70, hBF70⟩
      have hgB2 : ∀ k, BF bp a b c3 d3 nl np3 VA VB VC3 VD3 k → ¬ k = g := fun k hk he => by
        rcases hBF70 k hk with h1 | h1
        · exact hgB k h1 he
        · have := hLn.lt.2; omega
      have hBt2 : ∀ k, BF bp a b c3 d3 nl np3 VA VB VC3 VD3 k → wt.heap.size ≤ k := fun k hk => by
        have := hx.size
        rcases hBF70 k hk with h1 | h1
        · exact hBt k h1
        · omega
      replace hx := hx.trans' ho70 (fun _ h => h) (fun k hk hF => by have := hBt k hF; omega)
      replace hC3 := ho70.blk hC3 (hB.off hC3 (by decide) (by decide) (by decide) (by decide) (by decide))
      replace hLn := hLn.only ho70 (fun hF => hgB g hF rfl)
      replace hSn := hSn.only ho70 (fun k hk hF => by cases hk; exact hn1B _ hF rfl)
      clear hB hBt hgB hBF70
      have hB := hB70
      have hBt := hBt2
      have hgB := hgB2
      clear hB70 hBt2 hgB2
      refine WL.c rfl (o_mvh (show _ = Value.bool _ from rfl) ?_)
      refine WL.g rfl (rfl) rfl (o_mvh (show (Value.slice (some ⟨g, 0, none⟩) L.length cc) = (Value.slice (some ⟨g, 0, none⟩) (A ++ (⟨xk, xn ^^^ 1, xq⟩ : Nd) :: R).length cc) from by rw [hll]) ?_)
      refine WL.g rfl (rfl) rfl (o_mvh (show (Value.slice (some ⟨n1, 0, none⟩) L.length nc) = (Value.slice (some ⟨n1, 0, none⟩) (A ++ (⟨xk, xn ^^^ 1, xq⟩ : Nd) :: R).length nc) from by rw [hll]) ?_)
      refine WL.g rfl (rfl) rfl (o_call Tryd.call38 (lc rfl (lc rfl ln)) ((kept_spec _ g cc (A ++ (⟨xk, xn ^^^ 1, xq⟩ : Nd) :: R) (A ++ (⟨xk, xn ^^^ 1, xq⟩ : Nd) :: R) (Value.slice (some ⟨n1, 0, none⟩) (A ++ (⟨xk, xn ^^^ 1, xq⟩ : Nd) :: R).length nc) _ hLn hSn (by omega)).mono ?_))
      rintro v74 w74 ⟨rfl, hx74⟩
      replace hx := hx.tr hx74
      replace hB := hB.ext hx74
      refine WL.c rfl (o_pickA rfl rfl ?_)
      refine WL.c rfl (o_ash (show _ = Value.bool _ from rfl) ?_)
      refine WL.nil ?_
      refine W.ret ?_
      refine ret1v rfl (show _ = Value.bool _ from rfl) ?_
      exact ⟨congrArg Value.bool (by simp), a, b, c3, d3, nl, np3, VA, VB, VC3, VD3, hB, by omega, by omega, hx, hBt⟩
end Go.Proofs.YtgmjfcekeglhjaaDoor

set_option linter.unusedSimpArgs false
set_option linter.unusedVariables false
set_option maxRecDepth 100000
namespace Go.Proofs.YtgmjfcekeglhjaaDoor
open Go Go.Vc Go.RowKit Go.Proofs

theorem opV_len (o : OpX) : (opV o).length = 6 := rfl
/-- a call, asx it is handed in -/
structure OpR (w : World) (o : OpX) : Prop where
  v : Sl w 3 o.V o.LV.length (nds o.LV)
  vl : o.LV.length ≤ 9223372036854775807
  vn : NOk o.LV
  w_ : Sl w 3 o.W o.LW.length (nds o.LW)
  wl : o.LW.length ≤ 9223372036854775807
  sl : o.s.length ≤ 9223372036854775807
section
variable {H : Type} {enc : TypeId × Value → H} {P : Program} {W : World} {held : Bool}
theorem open_op {n : Nat} {cs : List Value} {y : DataW H × List MemPlace} (h : DataW.trod enc Tryd.prog W 0 (fun _ => true) held n 32 cs = some y) : ∃ x : OpX, cs = opV x ∧ OpR W x := by
  have hl := open_struct_len (s := 6) Tryd.underlying32 (by kernel_rfl) h
  obtain ⟨a, b, c, d, e, f, rfl⟩ := six_cells hl
  obtain ⟨n0, y0, h0⟩ := open_fieldN 0 0 1 Tryd.underlying32 rfl rfl rfl (by kernel_rfl) h
  obtain ⟨n1, y1, h1⟩ := open_fieldN 1 1 1 Tryd.underlying32 rfl rfl rfl (by kernel_rfl) h
  obtain ⟨n2, y2, h2⟩ := open_fieldN 2 2 1 Tryd.underlying32 rfl rfl rfl (by kernel_rfl) h
  obtain ⟨n3, y3, h3⟩ := open_fieldN 3 3 1 Tryd.underlying32 rfl rfl rfl (by kernel_rfl) h
  obtain ⟨n4, y4, h4⟩ := open_fieldN 4 4 1 Tryd.underlying32 rfl rfl rfl (by kernel_rfl) h
  obtain ⟨n5, y5, h5⟩ := open_fieldN 5 5 1 Tryd.underlying32 rfl rfl rfl (by kernel_rfl) h
  obtain ⟨z0, k0, -, -⟩ := DataW.trod_int Tryd.underlying3 h0
  obtain ⟨L1, g1, g2, g3⟩ := open_nodes h1
  obtain ⟨L2, g4, g5, g6⟩ := open_nodes h2
  obtain ⟨z3, k3, -, -⟩ := DataW.trod_int Tryd.underlying3 h3
  obtain ⟨z4, k4, -, -⟩ := DataW.trod_int Tryd.underlying3 h4
  obtain ⟨s, e5, -, l5⟩ := DataW.trod_string Tryd.underlying9 h5
  simp only [List.drop_zero, List.drop_succ_cons, List.take_succ_cons, List.take_zero, List.cons.injEq, and_true] at k0 k3 k4 e5
  subst k0 k3 k4 e5
  rw [maxLen_eq] at l5
  exact ⟨⟨z0, b, L1, c, L2, z3, z4, s.data.toList⟩, rfl, g1, g2, g3, g4, g5, by simpa using l5⟩
theorem open_ops {fuel : Nat} {v : Value} {x : DataW H × List MemPlace} (h : DataW.trod enc Tryd.prog W 0 (fun _ => true) held fuel 22 [v] = some x) : ∃ R : List OpX, Sl W 6 v R.length (R.flatMap opV) ∧ R.length ≤ 9223372036854775807 ∧ ∀ o ∈ R, OpR W o := by
  obtain ⟨R, h1, h2, h3⟩ := open_rowsN 6 opV (OpR W) Tryd.underlying22 (by kernel_rfl) (by decide) (fun _ => rfl) (fun n cs y hy => open_op hy) h
  exact ⟨R, h2, by rw [maxLen_eq] at h1; omega, h3⟩
end
theorem Sl.opx {w : World} {v : Value} {ts : List OpX} (h : Sl w 6 v ts.length (ts.flatMap opV)) {k : Nat} (hk : k < ts.length) : ∃ b o c, v = .slice (some ⟨b, o, none⟩) ts.length c ∧ Cells w b (o + k * 6) (opV ts[k]) := Sl.fm opV_len h hk

set_option maxHeartbeats 16000000 in
theorem exact_walk (w0 : World) (v : Value) (os : List OpX) (hS : Sl w0 6 v os.length (os.flatMap opV)) (hR : os.length ≤ 9223372036854775807) (hO : ∀ o ∈ os, OpR w0 o) (hT : Tab w0) (h00 : 0 < w0.heap.size) : Ca Tryd.prog 3 #[v] w0 (fun r w' => r = .bool true ∧ Ext w0 w') := by
  refine Ca.of Tryd.func3 Tryd.ntmps3 rfl rfl ?_
  refine W.seq ?_
  refine W.region ?_
  refine WL.c rfl (o_ash (show _ = Value.bool _ from rfl) ?_)
  refine WL.nil ?_
  refine W.seq ?_
  refine W.seq ?_
  refine W.region ?_
  refine WL.c rfl (o_call Tryd.call9 ln ((awake_spec _ hT h00).mono ?_))
  rintro v6 w6 ⟨rfl, hx6⟩
  have hx := hx6
  refine WL.c rfl (o_not' rfl ?_)
  refine WL.nil ?_
  refine W.condF' rfl (by decide) ?_
  refine W.skip ?_
  refine W.seq ?_
  refine W.region ?_
  refine WL.c rfl (o_bldC (cs := [(.slice none 0 0), (.slice none 0 0), (.slice none 0 0), (.slice none 0 0)]) TI28 (Sizes.cons TI25 (Sizes.cons TI25 (Sizes.cons TI26 (Sizes.cons TI26 Sizes.nil)))) rfl lnp rfl rfl ?_)
  refine WL.c rfl (o_boxB rfl ?_)
  intro w9 hC9 hx9 hs9
  obtain ⟨b9, hb9⟩ : ∃ b, b = w6.heap.size := ⟨_, rfl⟩
  rw [← hb9] at hC9 ⊢
  replace hC9 : w9.heap[b9]? = some (.cells ([Value.slice none 0 0, Value.slice none 0 0, Value.slice none 0 0, Value.slice none 0 0]).toArray 28 (0, 0)) := hC9
  have hg9 : w0.heap.size ≤ b9 := by have := hx.size; omega
  replace hx := hx.tr hx9
  refine WL.c rfl (o_ash (by first | exact (show _ = Value.pointer _ from rfl) | exact rfl) ?_)
  refine WL.nil ?_
  refine W.seq ?_
  refine W.seq ?_
  obtain ⟨bp, rfl⟩ : ∃ bp, bp = b9 := ⟨_, rfl⟩
  have hB : Bk _ bp (Value.slice none 0 0) (Value.slice none 0 0) (Value.slice none 0 0) (Value.slice none 0 0) 0 0 (fun _ => Value.slice none 0 0) (fun _ => Value.slice none 0 0) (fun _ => Value.slice none 0 0) (fun _ => Value.slice none 0 0) := ⟨hC9, World.ownsRow_nil _ _ _ _, World.ownsRow_nil _ _ _ _, World.ownsRow_nil _ _ _ _, World.ownsRow_nil _ _ _ _, (fun k h => by cases h), (fun k h => by cases h), fun j h => absurd h (Nat.not_lt_zero _), fun j h => absurd h (Nat.not_lt_zero _), fun j h => absurd h (Nat.not_lt_zero _), fun j h => absurd h (Nat.not_lt_zero _)⟩
  have hBg : ∀ k, BF bp (Value.slice none 0 0) (Value.slice none 0 0) (Value.slice none 0 0) (Value.slice none 0 0) 0 0 (fun _ => Value.slice none 0 0) (fun _ => Value.slice none 0 0) (fun _ => Value.slice none 0 0) (fun _ => Value.slice none 0 0) k → w0.heap.size ≤ k := fun k hk => by
    rcases hk with rfl | hk | hk | hk | hk | ⟨j, hj, -⟩ | ⟨j, hj, -⟩
    · exact hg9
    · cases hk
    · cases hk
    · cases hk
    · cases hk
    · omega
    · omega
  refine W.region ?_
  refine WL.c rfl (o_ash (show _ = Value.int _ _ from rfl) ?_)
  refine WL.nil ?_
  refine W.block ?_
  refine W.loop (fun e w => ∃ (n : Nat) (a b c d : Value) (nl np : Nat) (VA VB VC VD : Nat → Value), n ≤ 60 ∧ n ≤ os.length ∧ e 0 = v ∧ e 3 = .pointer (some ⟨bp, 0, none⟩) ∧ e 4 = .int .i64 (n : Int) ∧ nl ≤ 2 * n ∧ np ≤ 4 * n ∧ Bk w bp a b c d nl np VA VB VC VD ∧ (∀ k, BF bp a b c d nl np VA VB VC VD k → w0.heap.size ≤ k) ∧ Ext w0 w) (fun e w => 60 - (intOf (e 4)).toNat) ?_ ?_
  · exact ⟨0, _, _, _, _, 0, 0, _, _, _, _, by omega, Nat.zero_le _, rfl, rfl, rfl, by omega, by omega, hB, hBg, hx⟩
  rintro e w ⟨n, a, b, c, d, nl, np, VA, VB, VC, VD, hn2, hn, h0, h3, h4, hnl, hnp, hB, hBg, hx⟩
  have hm4 := h4
  refine W.seq ?_
  refine W.seq ?_
  refine W.region ?_
  refine WL.c rfl (o_mvh h4 ?_)
  refine WL.c rfl (o_mvh h0 ?_)
  refine WL.c rfl (o_lenR TI22 rfl (hS.ext hx) ?_)
  refine WL.c rfl (o_lt rfl rfl ?_)
  refine WL.c rfl (o_mvh (show _ = Value.bool _ from rfl) ?_)
  refine WL.sp 4 rfl (fun g14 => ?_) (fun g14 => ?_)
  · skip
    refine WL.g rfl (g14) rfl (o_mvh h4 ?_)
    refine WL.g rfl (g14) rfl (o_lt rfl rfl ?_)
    refine WL.c rfl (o_pickA rfl rfl ?_)
    refine WL.nil ?_
    refine W.cond rfl (fun c17 => ?_) (fun c17 => ?_)
    · try simp only [decide_eq_true_eq, decide_eq_false_iff_not, Bool.not_eq_true', Bool.not_eq_false', Bool.and_eq_true, Bool.or_eq_true, Bool.and_eq_false_iff, Bool.or_eq_false_iff] at c17
      have hn1 : n < os.length := by first | omega | simp_all
      have hn3 : n < 60 := by first | omega | simp_all
      obtain ⟨sb, so, sc, hve, hsc⟩ := Sl.opx (hS.ext hx) hn1
      rw [hve] at h0
      have hr := hO os[n] (List.getElem_mem _)
      refine W.skip ?_
      refine W.seq ?_
      refine W.block ?_
      refine W.seq ?_
      refine W.region ?_
      refine WL.c rfl (o_mvh h3 ?_)
      refine WL.c rfl (o_mvh h0 ?_)
      refine WL.c rfl (o_mvh h4 ?_)
      refine WL.c rfl (o_ixB (i := n) TI22 TI32 (show _ = Value.slice (some ⟨sb, so, none⟩) os.length sc from by first | rfl | assumption) (show _ = Value.int .i64 (n : Int) from by first | rfl | assumption) (by omega) ?_)
      refine WL.c rfl (o_ldA TI32 rfl rfl hsc rfl ?_)
      refine WL.c rfl (o_call Tryd.call10 (lc rfl (lc rfl ln)) ((plays_spec w0 bp a b c d nl np VA VB VC VD os[n] _ hB (by omega) (by omega) hx hBg hr.v hr.vl hr.vn hr.w_ hr.wl hr.sl hT h00).mono ?_))
      rintro v25 w25 ⟨rfl, a2, b2, c2, d2, nl2, np2, VA2, VB2, VC2, VD2, hB2, hnl2, hnp2, hx2, hBg2⟩
      clear hB hBg hx
      have hB := hB2
      have hBg := hBg2
      have hx := hx2
      clear hB2 hBg2 hx2
      refine WL.c rfl (o_ash (show _ = Value.bool _ from rfl) ?_)
      refine WL.nil ?_
      refine W.seq ?_
      refine W.region ?_
      refine WL.c rfl (o_mvh (show _ = Value.bool _ from rfl) ?_)
      refine WL.c rfl (o_not' rfl ?_)
      refine WL.c rfl (o_mvh (show _ = Value.bool _ from rfl) ?_)
      refine WL.g rfl (by simp) rfl (o_mvh h3 ?_)
      refine WL.g rfl (by simp) rfl (o_call Tryd.call11 (lc rfl ln) ((holds_spec bp a2 b2 c2 d2 nl2 np2 VA2 VB2 VC2 VD2 _ hB (by omega) (by omega)).mono ?_))
      rintro v30 w30 ⟨rfl, hx30⟩
      replace hx := hx.tr hx30
      replace hB := hB.ext hx30
      refine WL.g rfl (by simp) rfl (o_not' rfl ?_)
      refine WL.c rfl (o_pickO rfl rfl ?_)
      refine WL.nil ?_
      refine W.condF' rfl (by simp) ?_
      refine W.skip ?_
      refine W.region ?_
      refine WL.c rfl (o_mvh h4 ?_)
      refine WL.c rfl (o_addi rfl rfl (by omega) ?_)
      refine WL.c rfl (o_ash (show _ = Value.int _ _ from rfl) ?_)
      refine WL.nil ?_
      refine ⟨⟨n + 1, _, _, _, _, _, _, _, _, _, _, by omega, by omega, h0.trans hve.symm, h3, rfl, by omega, by omega, hB, hBg, hx⟩, ?_⟩
      show 60 - ((n : Int) + 1).toNat < _
      rw [hm4]; simp [intOf]; omega
    · try simp only [decide_eq_true_eq, decide_eq_false_iff_not, Bool.not_eq_true', Bool.not_eq_false', Bool.and_eq_true, Bool.or_eq_true, Bool.and_eq_false_iff, Bool.or_eq_false_iff] at c17
      refine W.exit ?_
      refine W.seq ?_
      refine W.region ?_
      refine WL.c rfl (o_ash (show _ = Value.bool _ from rfl) ?_)
      refine WL.nil ?_
      refine W.ret ?_
      refine ret1v rfl (show _ = Value.bool _ from rfl) ?_
      exact ⟨rfl, hx⟩
  · skip
    refine WL.s rfl (g14) rfl ?_
    refine WL.s rfl (g14) rfl ?_
    refine WL.c rfl (o_pickF rfl (g14) ?_)
    refine WL.nil ?_
    refine W.cond rfl (fun c17 => ?_) (fun c17 => ?_)
    · try simp only [decide_eq_true_eq, decide_eq_false_iff_not, Bool.not_eq_true', Bool.not_eq_false', Bool.and_eq_true, Bool.or_eq_true, Bool.and_eq_false_iff, Bool.or_eq_false_iff] at c17
      have hn1 : n < os.length := by first | omega | simp_all
      have hn3 : n < 60 := by first | omega | simp_all
      obtain ⟨sb, so, sc, hve, hsc⟩ := Sl.opx (hS.ext hx) hn1
      rw [hve] at h0
      have hr := hO os[n] (List.getElem_mem _)
      refine W.skip ?_
      refine W.seq ?_
      refine W.block ?_
      refine W.seq ?_
      refine W.region ?_
      refine WL.c rfl (o_mvh h3 ?_)
      refine WL.c rfl (o_mvh h0 ?_)
      refine WL.c rfl (o_mvh h4 ?_)
      refine WL.c rfl (o_ixB (i := n) TI22 TI32 (show _ = Value.slice (some ⟨sb, so, none⟩) os.length sc from by first | rfl | assumption) (show _ = Value.int .i64 (n : Int) from by first | rfl | assumption) (by omega) ?_)
      refine WL.c rfl (o_ldA TI32 rfl rfl hsc rfl ?_)
      refine WL.c rfl (o_call Tryd.call10 (lc rfl (lc rfl ln)) ((plays_spec w0 bp a b c d nl np VA VB VC VD os[n] _ hB (by omega) (by omega) hx hBg hr.v hr.vl hr.vn hr.w_ hr.wl hr.sl hT h00).mono ?_))
      rintro v25 w25 ⟨rfl, a2, b2, c2, d2, nl2, np2, VA2, VB2, VC2, VD2, hB2, hnl2, hnp2, hx2, hBg2⟩
      clear hB hBg hx
      have hB := hB2
      have hBg := hBg2
      have hx := hx2
      clear hB2 hBg2 hx2
      refine WL.c rfl (o_ash (show _ = Value.bool _ from rfl) ?_)
      refine WL.nil ?_
      refine W.seq ?_
      refine W.region ?_
      refine WL.c rfl (o_mvh (show _ = Value.bool _ from rfl) ?_)
      refine WL.c rfl (o_not' rfl ?_)
      refine WL.c rfl (o_mvh (show _ = Value.bool _ from rfl) ?_)
      refine WL.g rfl (by simp) rfl (o_mvh h3 ?_)
      refine WL.g rfl (by simp) rfl (o_call Tryd.call11 (lc rfl ln) ((holds_spec bp a2 b2 c2 d2 nl2 np2 VA2 VB2 VC2 VD2 _ hB (by omega) (by omega)).mono ?_))
      rintro v30 w30 ⟨rfl, hx30⟩
      replace hx := hx.tr hx30
      replace hB := hB.ext hx30
      refine WL.g rfl (by simp) rfl (o_not' rfl ?_)
      refine WL.c rfl (o_pickO rfl rfl ?_)
      refine WL.nil ?_
      refine W.condF' rfl (by simp) ?_
      refine W.skip ?_
      refine W.region ?_
      refine WL.c rfl (o_mvh h4 ?_)
      refine WL.c rfl (o_addi rfl rfl (by omega) ?_)
      refine WL.c rfl (o_ash (show _ = Value.int _ _ from rfl) ?_)
      refine WL.nil ?_
      refine ⟨⟨n + 1, _, _, _, _, _, _, _, _, _, _, by omega, by omega, h0.trans hve.symm, h3, rfl, by omega, by omega, hB, hBg, hx⟩, ?_⟩
      show 60 - ((n : Int) + 1).toNat < _
      rw [hm4]; simp [intOf]; omega
    · try simp only [decide_eq_true_eq, decide_eq_false_iff_not, Bool.not_eq_true', Bool.not_eq_false', Bool.and_eq_true, Bool.or_eq_true, Bool.and_eq_false_iff, Bool.or_eq_false_iff] at c17
      refine W.exit ?_
      refine W.seq ?_
      refine W.region ?_
      refine WL.c rfl (o_ash (show _ = Value.bool _ from rfl) ?_)
      refine WL.nil ?_
      refine W.ret ?_
      refine ret1v rfl (show _ = Value.bool _ from rfl) ?_
      exact ⟨rfl, hx⟩
end Go.Proofs.YtgmjfcekeglhjaaDoor
