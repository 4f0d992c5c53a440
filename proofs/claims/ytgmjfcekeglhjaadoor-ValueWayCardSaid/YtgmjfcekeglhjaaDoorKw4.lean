/-
  Walks and lemmas. Written by program out of specs of mine.
-/
import Derived.WalkKit
import Derived.WalkSpells
import Derived.WalkLawsBesides
import Derived.Deep.Quiet
import Derived.StillTail
import Derived.StringKeys
import Derived.Laws.StructEq
import Derived.Laws.Externs
import Derived.Laws.Tables
import Derived.Scope
import Derived.Laws.AppendOwn
import Derived.Maps.AppendAt
import Derived.Recover
import Derived.Test.YtgmjfcekeglhjaaDoorProg
import Derived.Maps.OwnSet
import Derived.Shelf.Strconv.Itoa0
import Derived.Shelf.Strconv.Itoa1
import Derived.Shelf.LaysM
import Derived.Shelf.Strconv.Itoa2
import Derived.Lib.ItoaMem
import Derived.Lib.ItoaLen
import Derived.DeepKeys3
import Derived.SizedLaws
import Derived.ChangeArms
import Derived.ChangeSlices
import Derived.Test.YtgmjfcekeglhjaaDoorRows
import Derived.ProofKit
import Derived.OpenShut
import Derived.ShutString
import Derived.ChangeOld
import Derived.Below
import Derived.JoinedCond
import Derived.SliceStrings
import Derived.Test.YtgmjfcekeglhjaaDoorCards
import Derived.Test.YtgmjfcekeglhjaaDoorTie
import Derived.Deep.DeepHandedRow
import Derived.Lib.LaidTab
import Derived.Test.YtgmjfcekeglhjaaDoorKw3
set_option linter.unusedSimpArgs false
set_option linter.unusedVariables false
set_option maxRecDepth 100000
set_option linter.unusedSimpArgs false
set_option linter.unusedVariables false
set_option maxRecDepth 100000
namespace Go.Proofs.YtgmjfcekeglhjaaDoor
open Go Go.Vc Go.RowKit Go.Proofs

theorem o_minI {P : Program} {e : Env} {w : World} {K : Value → World → Prop} {ty : TypeId} {x y : Operand} {t u : TypeId} {k : IntKind} {a b : Int} (hx : ev e x = .int k a) (hy : ev e y = .int k b) (kk : K (.int k (if b < a then b else a)) w) : OP P e (.call ⟨.builtin .min, #[x, y], #[t, u]⟩) ty w K := by
  refine OP.of ?_ kk
  simp [execOp, resolve, invoke, builtin, Builtin.min_, Builtin.min2, hx, hy]
theorem o_remI {P : Program} {e : Env} {w : World} {K : Value → World → Prop} {ty : TypeId} {x y : Operand} {t u : TypeId} {a b : Int} (hx : ev e x = .int .i64 a) (hy : ev e y = .int .i64 b) (hb : 0 < b) (kk : K (.int .i64 (a.tmod b)) w) : OP P e (.binOp .rem t x y u) ty w K := by
  exact o_rem hx hy (by omega) kk
theorem tmod_lim (a : Int) {b : Int} (hb : 0 < b) : -b < a.tmod b ∧ a.tmod b < b := by
  refine ⟨?_, Int.tmod_lt_of_pos a hb⟩
  by_cases h : 0 ≤ a
  · have := Int.tmod_nonneg b h
    omega
  · have h1 := Int.tmod_lt_of_pos (-a) hb
    rw [Int.neg_tmod] at h1
    omega
theorem chk_snoc {L : List Nd} {w : Int} (h : ∀ l, chkV (L ++ l) = chkG w L.length l) {x : Nd} (hx : rightN x = true) (hw : ¬ w = 0) (l : List Nd) : chkV ((L ++ [x]) ++ l) = chkG (w + (x.kids - 1)) (L ++ [x]).length l := by
  rw [List.append_assoc, h, List.singleton_append, chkG, if_neg (by rw [hx]; simp; exact hw), List.length_append]
  rfl

theorem rest_spec (n lo hi : Int) (w0 : World) (h1 : lo ≤ hi) (h2 : 0 ≤ lo) (h3 : hi ≤ 1000000000) : Ca Tryd.prog 28 #[.int .i64 n, .int .i64 lo, .int .i64 hi] w0 (fun v w' => (∃ q, v = .int .i64 q ∧ lo ≤ q ∧ q ≤ hi) ∧ w' = w0) := by
  refine Ca.of Tryd.func28 Tryd.ntmps28 rfl rfl ?_
  refine W.seq ?_
  refine W.region ?_
  refine WL.c rfl (o_ash (show _ = Value.int _ _ from rfl) ?_)
  refine WL.nil ?_
  refine W.seq ?_
  refine W.region ?_
  refine WL.c rfl (o_mvh (show _ = Value.int _ _ from rfl) ?_)
  refine WL.c rfl (o_mvh (show _ = Value.int _ _ from rfl) ?_)
  refine WL.c rfl (o_subi rfl rfl (by omega) ?_)
  refine WL.c rfl (o_addi rfl rfl (by omega) ?_)
  refine WL.c rfl (o_ash (show _ = Value.int _ _ from rfl) ?_)
  refine WL.nil ?_
  refine W.seq ?_
  refine W.region ?_
  refine WL.c rfl (o_mvh (show _ = Value.int _ _ from rfl) ?_)
  refine WL.c rfl (o_mvh (show _ = Value.int _ _ from rfl) ?_)
  refine WL.c rfl (o_mvh (show _ = Value.int _ _ from rfl) ?_)
  refine WL.c rfl (o_remI rfl rfl (by omega) ?_)
  refine WL.c rfl (o_mvh (show _ = Value.int _ _ from rfl) ?_)
  refine WL.c rfl (o_addi rfl rfl (by have := tmod_lim n (show 0 < hi - lo + 1 by omega); omega) ?_)
  refine WL.c rfl (o_mvh (show _ = Value.int _ _ from rfl) ?_)
  refine WL.c rfl (o_remI rfl rfl (by omega) ?_)
  refine WL.c rfl (o_addi rfl rfl (by have h4 := tmod_lim n (show 0 < hi - lo + 1 by omega); have h5 := tmod_lim (n.tmod (hi - lo + 1) + (hi - lo + 1)) (show 0 < hi - lo + 1 by omega); omega) ?_)
  refine WL.c rfl (o_ash (show _ = Value.int _ _ from rfl) ?_)
  refine WL.nil ?_
  refine W.ret ?_
  refine ret1v rfl (show _ = Value.int _ _ from rfl) ?_
  have h4 := tmod_lim n (show 0 < hi - lo + 1 by omega)
  have h5 := tmod_lim (n.tmod (hi - lo + 1) + (hi - lo + 1)) (show 0 < hi - lo + 1 by omega)
  have h6 : 0 ≤ (n.tmod (hi - lo + 1) + (hi - lo + 1)).tmod (hi - lo + 1) := Int.tmod_nonneg _ (by omega)
  exact ⟨⟨_, rfl, by omega, by omega⟩, rfl⟩
set_option maxHeartbeats 16000000 in
theorem made_spec (R : List Nd) (v : Value) (w0 : World) (hS : Sl w0 3 v R.length (nds R)) (hR : R.length ≤ 9223372036854775807) (hN : NOk R) : Ca Tryd.prog 22 #[v] w0 (fun r w' => ∃ t : Vt, t.wf ∧ NOk t.flat ∧ t.flat.length ≤ 1351 ∧ w'.ownsRow w0.heap.size 69 3 r t.flat.length (nds t.flat) ∧ Ext w0 w') := by
  have hx : Ext w0 w0 := Only.refl _ _
  refine Ca.of Tryd.func22 Tryd.ntmps22 rfl rfl ?_
  refine W.seq ?_
  refine W.region ?_
  refine WL.c rfl (o_ash (by first | exact (show _ = Value.slice _ _ _ from rfl) | exact rfl) ?_)
  refine WL.nil ?_
  refine W.seq ?_
  refine W.region ?_
  refine WL.c rfl (o_ash (by first | exact (show _ = Value.slice _ _ _ from rfl) | exact rfl) ?_)
  refine WL.nil ?_
  refine W.seq ?_
  refine W.region ?_
  refine WL.c rfl (o_ash (show _ = Value.int _ _ from rfl) ?_)
  refine WL.nil ?_
  refine W.seq ?_
  refine W.seq ?_
  refine W.region ?_
  refine WL.c rfl (o_ash (show _ = Value.int _ _ from rfl) ?_)
  refine WL.nil ?_
  refine W.block ?_
  refine W.loop (fun e w => ∃ (L : List Nd) (wt : Int) (ov : Value), e 0 = v ∧ e 3 = ov ∧ e 4 = .int .i64 wt ∧ e 5 = .int .i64 (L.length : Int) ∧ 0 ≤ wt ∧ (L.length : Int) + wt ≤ 1 + 9 * (min L.length 150 : Nat) ∧ (∀ l, chkV (L ++ l) = chkG wt L.length l) ∧ NOk L ∧ w.ownsRow w0.heap.size 69 3 ov L.length (nds L) ∧ Ext w0 w) (fun e w => 1352 - (intOf (e 5)).toNat) ?_ ?_
  · exact ⟨[], 1, _, rfl, rfl, rfl, rfl, by omega, by simp, fun l => rfl, fun x hx => (by cases hx), World.ownsRow_nil _ _ _ _, hx⟩
  rintro e w ⟨L, wt, ov, h0, h3, h4, h5, hw0, hwl, hchk, hNL, how, hx⟩
  have hm5 := h5
  have hLl : L.length ≤ 1351 := by omega
  refine W.seq ?_
  refine W.seq ?_
  refine W.region ?_
  refine WL.c rfl (o_mvh h4 ?_)
  refine WL.c rfl (o_gt rfl rfl ?_)
  refine WL.nil ?_
  refine W.cond rfl (fun c9 => ?_) (fun c9 => ?_)
  · try simp only [decide_eq_true_eq, decide_eq_false_iff_not, Bool.not_eq_true', Bool.not_eq_false', Bool.and_eq_true, Bool.or_eq_true, Bool.and_eq_false_iff, Bool.or_eq_false_iff] at c9
    obtain ⟨sp, sc, rfl, hsc⟩ := own_form how
    refine W.skip ?_
    refine W.seq ?_
    refine W.block ?_
    refine W.seq ?_
    refine W.region ?_
    refine WL.c rfl (o_alB TI69 ?_)
    intro w6 hC6 hx6 hs6
    obtain ⟨b6, hb6⟩ : ∃ b, b = w.heap.size := ⟨_, rfl⟩
    rw [← hb6] at hC6 ⊢
    replace hC6 : w6.heap[b6]? = some (.cells (ndV nd0).toArray 69 (0, 0)) := hC6
    have hz6 : w0.heap.size ≤ b6 := by rw [hb6]; exact hx.size
    have hoff : ∀ k, (Value.slice sp L.length sc).ownBlock = some k → ¬ k = b6 := fun k hk he => by have := (how.lt k hk).2; omega
    replace how := own_ext how hx6
    replace hx := hx.tr hx6
    clear hx6 hs6
    refine WL.nil ?_
    refine W.seq ?_
    refine W.seq ?_
    refine W.region ?_
    refine WL.cut (fun e1 w1 => e1 19 = .bool (decide (L.length < R.length ∧ L.length < 150)) ∧ e1 0 = v ∧ e1 3 = .slice sp L.length sc ∧ e1 4 = .int .i64 wt ∧ e1 5 = .int .i64 (L.length : Int) ∧ e1 6 = .pointer (some ⟨b6, 0, none⟩) ∧ w1 = w6) ?_ ?_
    · -- region 7
      refine WL.c rfl (o_mvh h5 ?_)
      refine WL.c rfl (o_mvh h0 ?_)
      refine WL.c rfl (o_lenR TI30 rfl (hS.ext hx) ?_)
      refine WL.c rfl (o_lt rfl rfl ?_)
      refine WL.c rfl (o_mvh (show _ = Value.bool _ from rfl) ?_)
      refine WL.sp 4 rfl (fun g16 => ?_) (fun g16 => ?_)
      · skip
        refine WL.g rfl (g16) rfl (o_mvh h5 ?_)
        refine WL.g rfl (g16) rfl (o_lt rfl rfl ?_)
        refine WL.c rfl (o_pickA rfl rfl ?_)
        exact WL.nil (⟨congrArg Value.bool (by rw [Bool.eq_iff_iff]; simp_all <;> omega), h0, h3, h4, h5, rfl, rfl⟩)
      · skip
        refine WL.s rfl (g16) rfl ?_
        refine WL.s rfl (g16) rfl ?_
        refine WL.c rfl (o_pickF rfl (g16) ?_)
        exact WL.nil (⟨congrArg Value.bool (by rw [Bool.eq_iff_iff]; simp_all <;> omega), h0, h3, h4, h5, rfl, rfl⟩)
    rintro e w ⟨h19, h0, h3, h4, h5, h6, hw1⟩
    subst hw1
    refine W.cut (fun e1 w1 => ∃ y : Nd, y.n < 18446744073709551616 ∧ w1.heap[b6]? = some (.cells (ndV y).toArray 69 (0, 0)) ∧ e1 0 = v ∧ e1 3 = .slice sp L.length sc ∧ e1 4 = .int .i64 wt ∧ e1 5 = .int .i64 (L.length : Int) ∧ e1 6 = .pointer (some ⟨b6, 0, none⟩) ∧ w1.ownsRow w0.heap.size 69 3 (.slice sp L.length sc) L.length (nds L) ∧ Ext w0 w1) ?_ ?_
    · -- both ways
      refine W.cond h19 (fun c19 => ?_) (fun c19 => ?_)
      · try simp only [decide_eq_true_eq, decide_eq_false_iff_not, Bool.not_eq_true', Bool.not_eq_false', Bool.and_eq_true, Bool.or_eq_true, Bool.and_eq_false_iff, Bool.or_eq_false_iff] at c19
        have hi1 : L.length < R.length := by omega
        obtain ⟨ub, uo, uc, hv, huc⟩ := Sl.nd (hS.ext hx) hi1
        rw [hv] at h0
        refine W.region ?_
        refine WL.c rfl (o_mvh h0 ?_)
        refine WL.c rfl (o_mvh h5 ?_)
        refine WL.c rfl (o_ixB (i := L.length) TI30 TI69 (show _ = Value.slice (some ⟨ub, uo, none⟩) R.length uc from by first | rfl | assumption) (show _ = Value.int .i64 (L.length : Int) from by first | rfl | assumption) (by omega) ?_)
        refine WL.c rfl (o_ldA TI69 rfl rfl huc rfl ?_)
        refine WL.u (o_stA TI69 h6 (show _ = Value.agg (ndV R[L.length]).toArray from rfl) rfl rfl hC6 rfl ?_)
        intro wz hCz hoz hsz
        replace hC6 : wz.heap[b6]? = some (.cells (ndV R[L.length]).toArray 69 (0, 0)) := hCz
        replace how := own_only how hoz (fun k hk he => by subst he; exact hoff k hk rfl)
        replace hx := hx.trans' hoz (fun _ h => h) (fun k hk he => by omega)
        clear hCz hoz hsz
        refine WL.nil ?_
        first | exact ⟨R[L.length], hN _ (List.getElem_mem hi1), hC6, h0.trans hv.symm, h3, h4, h5, h6, how, hx⟩ | exact ⟨nd0, by decide, hC6, h0, h3, h4, h5, h6, how, hx⟩
      · try simp only [decide_eq_true_eq, decide_eq_false_iff_not, Bool.not_eq_true', Bool.not_eq_false', Bool.and_eq_true, Bool.or_eq_true, Bool.and_eq_false_iff, Bool.or_eq_false_iff] at c19
        refine W.skip ?_
        first | exact ⟨R[L.length], hN _ (List.getElem_mem hi1), hC6, h0.trans hv.symm, h3, h4, h5, h6, how, hx⟩ | exact ⟨nd0, by decide, hC6, h0, h3, h4, h5, h6, how, hx⟩
    rintro e w ⟨y, hyn, hC6, h0, h3, h4, h5, h6, how, hx⟩
    refine W.seq ?_
    refine W.region ?_
    refine WL.c rfl (o_fa 0 TI69 rfl TI3 rfl h6 ?_)
    refine WL.c rfl (o_ld TI3 rfl rfl (cell_of hC6 rfl) ?_)
    refine WL.c rfl (o_call Tryd.call28 (lc rfl (lc rfl (lc rfl ln))) ((rest_spec y.kind 1 6 _ (by decide) (by decide) (by decide)).mono ?_))
    rintro v26 w26 ⟨⟨q, rfl, hq1, hq6⟩, rfl⟩
    refine WL.c rfl (o_fa 0 TI69 rfl TI3 rfl h6 ?_)
    refine WL.u (o_stB TI3 rfl (show _ = Value.int .i64 q from rfl) rfl hC6 (show 0 < 3 by decide) ?_)
    intro w27 hB27 ho27 hs27
    replace hC6 : w27.heap[b6]? = some (.cells (ndV ⟨q, y.n, y.kids⟩).toArray 69 (0, 0)) := hB27
    replace hx := hx.trans' ho27 (fun _ h => h) (fun k hk he => by omega)
    replace how := own_only how ho27 (fun k hk he => by subst he; exact hoff k hk rfl)
    clear hB27 ho27 hs27
    refine WL.nil ?_
    refine W.seq ?_
    refine W.region ?_
    refine WL.c rfl (o_mvh h3 ?_)
    refine WL.c rfl (o_lenR TI30 rfl (Sl.own how) ?_)
    refine WL.c rfl (o_subi rfl rfl (by omega) ?_)
    refine WL.c rfl (o_mvh h4 ?_)
    refine WL.c rfl (o_subi rfl rfl (by omega) ?_)
    refine WL.c rfl (o_maxI rfl rfl ?_)
    refine WL.c rfl (o_ash (show _ = Value.int _ _ from rfl) ?_)
    refine WL.nil ?_
    obtain ⟨lf, hlf, hlf0, hlf1⟩ : ∃ lf, lf = (if (0 : Int) < 300 - (L.length : Int) - wt then 300 - (L.length : Int) - wt else 0) ∧ 0 ≤ lf ∧ lf ≤ 300 := ⟨_, rfl, by split <;> omega, by split <;> omega⟩
    rw [← hlf]
    refine W.seq ?_
    refine W.seq ?_
    refine W.region ?_
    refine WL.cut (fun e1 w1 => e1 41 = .bool (decide (R.length ≤ L.length ∨ 150 ≤ L.length)) ∧ e1 0 = v ∧ e1 3 = .slice sp L.length sc ∧ e1 4 = .int .i64 wt ∧ e1 5 = .int .i64 (L.length : Int) ∧ e1 6 = .pointer (some ⟨b6, 0, none⟩) ∧ e1 7 = .int .i64 lf ∧ w1 = w27) ?_ ?_
    · -- region 11
      refine WL.c rfl (o_mvh h5 ?_)
      refine WL.c rfl (o_mvh h0 ?_)
      refine WL.c rfl (o_lenR TI30 rfl (hS.ext hx) ?_)
      refine WL.c rfl (o_ge rfl rfl ?_)
      refine WL.c rfl (o_mvh (show _ = Value.bool _ from rfl) ?_)
      refine WL.sp 4 rfl (fun g38 => ?_) (fun g38 => ?_)
      · skip
        refine WL.s rfl (g38) rfl ?_
        refine WL.s rfl (g38) rfl ?_
        refine WL.c rfl (o_pickT rfl (g38) ?_)
        exact WL.nil (⟨congrArg Value.bool (by rw [Bool.eq_iff_iff]; simp_all <;> omega), h0, h3, h4, h5, h6, rfl, rfl⟩)
      · skip
        refine WL.g rfl (g38) rfl (o_mvh h5 ?_)
        refine WL.g rfl (g38) rfl (o_ge rfl rfl ?_)
        refine WL.c rfl (o_pickO rfl rfl ?_)
        exact WL.nil (⟨congrArg Value.bool (by rw [Bool.eq_iff_iff]; simp_all <;> omega), h0, h3, h4, h5, h6, rfl, rfl⟩)
    rintro e w ⟨h41, h0, h3, h4, h5, h6, h7, hw1⟩
    subst hw1
    refine W.cut (fun e1 w1 => ∃ kd : Int, 1 ≤ kd ∧ kd ≤ 6 ∧ (150 ≤ L.length → kd = 1) ∧ w1.heap[b6]? = some (.cells (ndV ⟨kd, y.n, y.kids⟩).toArray 69 (0, 0)) ∧ e1 0 = v ∧ e1 3 = .slice sp L.length sc ∧ e1 4 = .int .i64 wt ∧ e1 5 = .int .i64 (L.length : Int) ∧ e1 6 = .pointer (some ⟨b6, 0, none⟩) ∧ w1.ownsRow w0.heap.size 69 3 (.slice sp L.length sc) L.length (nds L) ∧ Ext w0 w1 ∧ e1 7 = .int .i64 lf) ?_ ?_
    · -- both ways
      refine W.cond h41 (fun c41 => ?_) (fun c41 => ?_)
      · try simp only [decide_eq_true_eq, decide_eq_false_iff_not, Bool.not_eq_true', Bool.not_eq_false', Bool.and_eq_true, Bool.or_eq_true, Bool.and_eq_false_iff, Bool.or_eq_false_iff] at c41
        refine W.region ?_
        refine WL.c rfl (o_fa 0 TI69 rfl TI3 rfl h6 ?_)
        refine WL.u (o_stB TI3 rfl (show _ = Value.int .i64 1 from rfl) rfl hC6 (show 0 < 3 by decide) ?_)
        intro w42 hB42 ho42 hs42
        replace hC6 : w42.heap[b6]? = some (.cells (ndV ⟨1, y.n, y.kids⟩).toArray 69 (0, 0)) := hB42
        replace hx := hx.trans' ho42 (fun _ h => h) (fun k hk he => by omega)
        replace how := own_only how ho42 (fun k hk he => by subst he; exact hoff k hk rfl)
        clear hB42 ho42 hs42
        refine WL.nil ?_
        first | exact ⟨1, by decide, by decide, fun _ => rfl, hC6, h0, h3, h4, h5, h6, how, hx, h7⟩ | exact ⟨q, hq1, hq6, fun h => absurd (Or.inr h : R.length ≤ L.length ∨ 150 ≤ L.length) (by simpa using c41), hC6, h0, h3, h4, h5, h6, how, hx, h7⟩
      · try simp only [decide_eq_true_eq, decide_eq_false_iff_not, Bool.not_eq_true', Bool.not_eq_false', Bool.and_eq_true, Bool.or_eq_true, Bool.and_eq_false_iff, Bool.or_eq_false_iff] at c41
        refine W.skip ?_
        first | exact ⟨1, by decide, by decide, fun _ => rfl, hC6, h0, h3, h4, h5, h6, how, hx, h7⟩ | exact ⟨q, hq1, hq6, fun h => absurd (Or.inr h : R.length ≤ L.length ∨ 150 ≤ L.length) (by simpa using c41), hC6, h0, h3, h4, h5, h6, how, hx, h7⟩
    rintro e w ⟨kd, hk1, hk6, hk150, hC6, h0, h3, h4, h5, h6, how, hx, h7⟩
    refine W.seq ?_
    refine W.seq ?_
    refine W.region ?_
    refine WL.c rfl (o_fa 0 TI69 rfl TI3 rfl h6 ?_)
    refine WL.c rfl (o_ld TI3 rfl rfl (cell_of hC6 rfl) ?_)
    refine WL.nil ?_
    refine W.block ?_
    refine W.seq ?_
    refine W.region ?_
    refine WL.c rfl (o_eq rfl rfl ?_)
    refine WL.c rfl (o_ash (show _ = Value.bool _ from rfl) ?_)
    refine WL.nil ?_
    refine W.cut (fun e1 w1 => ∃ x : Nd, rightN x = true ∧ (150 ≤ L.length → x.kids = 0) ∧ x.kids ≤ 9 ∧ x.n < 18446744073709551616 ∧ w1.heap[b6]? = some (.cells (ndV x).toArray 69 (0, 0)) ∧ e1 0 = v ∧ e1 3 = .slice sp L.length sc ∧ e1 4 = .int .i64 wt ∧ e1 5 = .int .i64 (L.length : Int) ∧ e1 6 = .pointer (some ⟨b6, 0, none⟩) ∧ w1.ownsRow w0.heap.size 69 3 (.slice sp L.length sc) L.length (nds L) ∧ Ext w0 w1) ?_ ?_
    · -- both ways
      refine W.cond rfl (fun c45 => ?_) (fun c45 => ?_)
      · try simp only [decide_eq_true_eq, decide_eq_false_iff_not, Bool.not_eq_true', Bool.not_eq_false', Bool.and_eq_true, Bool.or_eq_true, Bool.and_eq_false_iff, Bool.or_eq_false_iff] at c45
        refine W.region ?_
        refine WL.c rfl (o_fa 2 TI69 rfl TI3 rfl h6 ?_)
        refine WL.u (o_stB TI3 rfl (show _ = Value.int .i64 0 from rfl) rfl hC6 (show 2 < 3 by decide) ?_)
        intro w47 hB47 ho47 hs47
        replace hC6 : w47.heap[b6]? = some (.cells (ndV ⟨kd, y.n, 0⟩).toArray 69 (0, 0)) := hB47
        replace hx := hx.trans' ho47 (fun _ h => h) (fun k hk he => by omega)
        replace how := own_only how ho47 (fun k hk he => by subst he; exact hoff k hk rfl)
        clear hB47 ho47 hs47
        refine WL.nil ?_
        (refine ⟨_, ?_, ?_, ?_, ?_, hC6, h0, h3, h4, h5, h6, how, hx⟩ <;> first | (show _ ≤ (9 : Int); omega) | (show _ < _; omega) | (intro h150; have := hk150 h150; omega) | (simp_all [rightN, numB, leastK, mostK]; done) | (simp_all [rightN, numB, leastK, mostK]; omega))
      · try simp only [decide_eq_true_eq, decide_eq_false_iff_not, Bool.not_eq_true', Bool.not_eq_false', Bool.and_eq_true, Bool.or_eq_true, Bool.and_eq_false_iff, Bool.or_eq_false_iff] at c45
        refine W.seq ?_
        refine W.region ?_
        refine WL.c rfl (o_eq rfl rfl ?_)
        refine WL.c rfl (o_ash (show _ = Value.bool _ from rfl) ?_)
        refine WL.nil ?_
        refine W.cond rfl (fun c48 => ?_) (fun c48 => ?_)
        · try simp only [decide_eq_true_eq, decide_eq_false_iff_not, Bool.not_eq_true', Bool.not_eq_false', Bool.and_eq_true, Bool.or_eq_true, Bool.and_eq_false_iff, Bool.or_eq_false_iff] at c48
          refine W.seq ?_
          refine W.region ?_
          refine WL.c rfl (o_fa 1 TI69 rfl TI43 rfl h6 ?_)
          refine WL.c rfl (o_ld TI43 rfl rfl (cell_of hC6 rfl) ?_)
          refine WL.c rfl (n_rem (b := 2) rfl rfl (by decide) ?_)
          refine WL.c rfl (o_fa 1 TI69 rfl TI43 rfl h6 ?_)
          refine WL.u (o_stB TI43 rfl (show _ = Value.int .u64 ((y.n % 2 : Nat) : Int) from rfl) rfl hC6 (show 1 < 3 by decide) ?_)
          intro w53 hB53 ho53 hs53
          replace hC6 : w53.heap[b6]? = some (.cells (ndV ⟨kd, y.n % 2, y.kids⟩).toArray 69 (0, 0)) := hB53
          replace hx := hx.trans' ho53 (fun _ h => h) (fun k hk he => by omega)
          replace how := own_only how ho53 (fun k hk he => by subst he; exact hoff k hk rfl)
          clear hB53 ho53 hs53
          refine WL.nil ?_
          refine W.region ?_
          refine WL.c rfl (o_fa 2 TI69 rfl TI3 rfl h6 ?_)
          refine WL.u (o_stB TI3 rfl (show _ = Value.int .i64 0 from rfl) rfl hC6 (show 2 < 3 by decide) ?_)
          intro w54 hB54 ho54 hs54
          replace hC6 : w54.heap[b6]? = some (.cells (ndV ⟨kd, y.n % 2, 0⟩).toArray 69 (0, 0)) := hB54
          replace hx := hx.trans' ho54 (fun _ h => h) (fun k hk he => by omega)
          replace how := own_only how ho54 (fun k hk he => by subst he; exact hoff k hk rfl)
          clear hB54 ho54 hs54
          refine WL.nil ?_
          (refine ⟨_, ?_, ?_, ?_, ?_, hC6, h0, h3, h4, h5, h6, how, hx⟩ <;> first | (show _ ≤ (9 : Int); omega) | (show _ < _; omega) | (intro h150; have := hk150 h150; omega) | (simp_all [rightN, numB, leastK, mostK]; done) | (simp_all [rightN, numB, leastK, mostK]; omega))
        · try simp only [decide_eq_true_eq, decide_eq_false_iff_not, Bool.not_eq_true', Bool.not_eq_false', Bool.and_eq_true, Bool.or_eq_true, Bool.and_eq_false_iff, Bool.or_eq_false_iff] at c48
          refine W.seq ?_
          refine W.region ?_
          refine WL.c rfl (o_eq rfl rfl ?_)
          refine WL.c rfl (o_ash (show _ = Value.bool _ from rfl) ?_)
          refine WL.nil ?_
          refine W.cond rfl (fun c55 => ?_) (fun c55 => ?_)
          · try simp only [decide_eq_true_eq, decide_eq_false_iff_not, Bool.not_eq_true', Bool.not_eq_false', Bool.and_eq_true, Bool.or_eq_true, Bool.and_eq_false_iff, Bool.or_eq_false_iff] at c55
            refine W.seq ?_
            refine W.region ?_
            refine WL.c rfl (o_fa 1 TI69 rfl TI43 rfl h6 ?_)
            refine WL.u (o_stB TI43 rfl (show _ = Value.int .u64 0 from rfl) rfl hC6 (show 1 < 3 by decide) ?_)
            intro w57 hB57 ho57 hs57
            replace hC6 : w57.heap[b6]? = some (.cells (ndV ⟨kd, 0, y.kids⟩).toArray 69 (0, 0)) := hB57
            replace hx := hx.trans' ho57 (fun _ h => h) (fun k hk he => by omega)
            replace how := own_only how ho57 (fun k hk he => by subst he; exact hoff k hk rfl)
            clear hB57 ho57 hs57
            refine WL.nil ?_
            refine W.region ?_
            refine WL.c rfl (o_fa 2 TI69 rfl TI3 rfl h6 ?_)
            refine WL.c rfl (o_ld TI3 rfl rfl (cell_of hC6 rfl) ?_)
            refine WL.c rfl (o_mvh h7 ?_)
            refine WL.c rfl (o_minI rfl rfl ?_)
            refine WL.c rfl (o_call Tryd.call28 (lc rfl (lc rfl (lc rfl ln))) ((rest_spec y.kids 0 (if (9 : Int) < lf then 9 else lf) _ (by split <;> omega) (by decide) (by split <;> omega)).mono ?_))
            rintro v62 w62 ⟨⟨q2, rfl, hq20, hq2b⟩, rfl⟩
            have hq29 : q2 ≤ 9 := by split at hq2b <;> omega
            refine WL.c rfl (o_fa 2 TI69 rfl TI3 rfl h6 ?_)
            refine WL.u (o_stB TI3 rfl (show _ = Value.int .i64 q2 from rfl) rfl hC6 (show 2 < 3 by decide) ?_)
            intro w63 hB63 ho63 hs63
            replace hC6 : w63.heap[b6]? = some (.cells (ndV ⟨kd, 0, q2⟩).toArray 69 (0, 0)) := hB63
            replace hx := hx.trans' ho63 (fun _ h => h) (fun k hk he => by omega)
            replace how := own_only how ho63 (fun k hk he => by subst he; exact hoff k hk rfl)
            clear hB63 ho63 hs63
            refine WL.nil ?_
            (refine ⟨_, ?_, ?_, ?_, ?_, hC6, h0, h3, h4, h5, h6, how, hx⟩ <;> first | (show _ ≤ (9 : Int); omega) | (show _ < _; omega) | (intro h150; have := hk150 h150; omega) | (simp_all [rightN, numB, leastK, mostK]; done) | (simp_all [rightN, numB, leastK, mostK]; omega))
          · try simp only [decide_eq_true_eq, decide_eq_false_iff_not, Bool.not_eq_true', Bool.not_eq_false', Bool.and_eq_true, Bool.or_eq_true, Bool.and_eq_false_iff, Bool.or_eq_false_iff] at c55
            refine W.seq ?_
            refine W.region ?_
            refine WL.c rfl (o_eq rfl rfl ?_)
            refine WL.c rfl (o_ash (show _ = Value.bool _ from rfl) ?_)
            refine WL.nil ?_
            refine W.cond rfl (fun c64 => ?_) (fun c64 => ?_)
            · try simp only [decide_eq_true_eq, decide_eq_false_iff_not, Bool.not_eq_true', Bool.not_eq_false', Bool.and_eq_true, Bool.or_eq_true, Bool.and_eq_false_iff, Bool.or_eq_false_iff] at c64
              refine W.seq ?_
              refine W.region ?_
              refine WL.c rfl (o_fa 1 TI69 rfl TI43 rfl h6 ?_)
              refine WL.u (o_stB TI43 rfl (show _ = Value.int .u64 0 from rfl) rfl hC6 (show 1 < 3 by decide) ?_)
              intro w66 hB66 ho66 hs66
              replace hC6 : w66.heap[b6]? = some (.cells (ndV ⟨kd, 0, y.kids⟩).toArray 69 (0, 0)) := hB66
              replace hx := hx.trans' ho66 (fun _ h => h) (fun k hk he => by omega)
              replace how := own_only how ho66 (fun k hk he => by subst he; exact hoff k hk rfl)
              clear hB66 ho66 hs66
              refine WL.nil ?_
              refine W.region ?_
              refine WL.c rfl (o_fa 2 TI69 rfl TI3 rfl h6 ?_)
              refine WL.c rfl (o_ld TI3 rfl rfl (cell_of hC6 rfl) ?_)
              refine WL.c rfl (o_mvh h7 ?_)
              refine WL.c rfl (o_minI rfl rfl ?_)
              refine WL.c rfl (o_maxI rfl rfl ?_)
              refine WL.c rfl (o_call Tryd.call28 (lc rfl (lc rfl (lc rfl ln))) ((rest_spec y.kids 1 (if (1 : Int) < (if (6 : Int) < lf then 6 else lf) then (if (6 : Int) < lf then 6 else lf) else 1) _ (by split <;> split <;> omega) (by decide) (by split <;> split <;> omega)).mono ?_))
              rintro v72 w72 ⟨⟨q2, rfl, hq20, hq2b⟩, rfl⟩
              have hq29 : q2 ≤ 9 := by split at hq2b <;> split at hq2b <;> omega
              refine WL.c rfl (o_fa 2 TI69 rfl TI3 rfl h6 ?_)
              refine WL.u (o_stB TI3 rfl (show _ = Value.int .i64 q2 from rfl) rfl hC6 (show 2 < 3 by decide) ?_)
              intro w73 hB73 ho73 hs73
              replace hC6 : w73.heap[b6]? = some (.cells (ndV ⟨kd, 0, q2⟩).toArray 69 (0, 0)) := hB73
              replace hx := hx.trans' ho73 (fun _ h => h) (fun k hk he => by omega)
              replace how := own_only how ho73 (fun k hk he => by subst he; exact hoff k hk rfl)
              clear hB73 ho73 hs73
              refine WL.nil ?_
              (refine ⟨_, ?_, ?_, ?_, ?_, hC6, h0, h3, h4, h5, h6, how, hx⟩ <;> first | (show _ ≤ (9 : Int); omega) | (show _ < _; omega) | (intro h150; have := hk150 h150; omega) | (simp_all [rightN, numB, leastK, mostK]; done) | (simp_all [rightN, numB, leastK, mostK]; omega))
            · try simp only [decide_eq_true_eq, decide_eq_false_iff_not, Bool.not_eq_true', Bool.not_eq_false', Bool.and_eq_true, Bool.or_eq_true, Bool.and_eq_false_iff, Bool.or_eq_false_iff] at c64
              refine W.seq ?_
              refine W.region ?_
              refine WL.c rfl (o_eq rfl rfl ?_)
              refine WL.c rfl (o_ash (show _ = Value.bool _ from rfl) ?_)
              refine WL.nil ?_
              refine W.cond rfl (fun c74 => ?_) (fun c74 => ?_)
              · try simp only [decide_eq_true_eq, decide_eq_false_iff_not, Bool.not_eq_true', Bool.not_eq_false', Bool.and_eq_true, Bool.or_eq_true, Bool.and_eq_false_iff, Bool.or_eq_false_iff] at c74
                refine W.seq ?_
                refine W.region ?_
                refine WL.c rfl (o_fa 1 TI69 rfl TI43 rfl h6 ?_)
                refine WL.u (o_stB TI43 rfl (show _ = Value.int .u64 0 from rfl) rfl hC6 (show 1 < 3 by decide) ?_)
                intro w76 hB76 ho76 hs76
                replace hC6 : w76.heap[b6]? = some (.cells (ndV ⟨kd, 0, y.kids⟩).toArray 69 (0, 0)) := hB76
                replace hx := hx.trans' ho76 (fun _ h => h) (fun k hk he => by omega)
                replace how := own_only how ho76 (fun k hk he => by subst he; exact hoff k hk rfl)
                clear hB76 ho76 hs76
                refine WL.nil ?_
                refine W.region ?_
                refine WL.c rfl (o_fa 2 TI69 rfl TI3 rfl h6 ?_)
                refine WL.c rfl (o_ld TI3 rfl rfl (cell_of hC6 rfl) ?_)
                refine WL.c rfl (o_call Tryd.call28 (lc rfl (lc rfl (lc rfl ln))) ((rest_spec y.kids 0 1 _ (by decide) (by decide) (by decide)).mono ?_))
                rintro v79 w79 ⟨⟨q2, rfl, hq20, hq2b⟩, rfl⟩
                refine WL.c rfl (o_fa 2 TI69 rfl TI3 rfl h6 ?_)
                refine WL.u (o_stB TI3 rfl (show _ = Value.int .i64 q2 from rfl) rfl hC6 (show 2 < 3 by decide) ?_)
                intro w80 hB80 ho80 hs80
                replace hC6 : w80.heap[b6]? = some (.cells (ndV ⟨kd, 0, q2⟩).toArray 69 (0, 0)) := hB80
                replace hx := hx.trans' ho80 (fun _ h => h) (fun k hk he => by omega)
                replace how := own_only how ho80 (fun k hk he => by subst he; exact hoff k hk rfl)
                clear hB80 ho80 hs80
                refine WL.nil ?_
                (refine ⟨_, ?_, ?_, ?_, ?_, hC6, h0, h3, h4, h5, h6, how, hx⟩ <;> first | (show _ ≤ (9 : Int); omega) | (show _ < _; omega) | (intro h150; have := hk150 h150; omega) | (simp_all [rightN, numB, leastK, mostK]; done) | (simp_all [rightN, numB, leastK, mostK]; omega))
              · try simp only [decide_eq_true_eq, decide_eq_false_iff_not, Bool.not_eq_true', Bool.not_eq_false', Bool.and_eq_true, Bool.or_eq_true, Bool.and_eq_false_iff, Bool.or_eq_false_iff] at c74
                refine W.seq ?_
                refine W.region ?_
                refine WL.c rfl (o_eq rfl rfl ?_)
                refine WL.c rfl (o_ash (show _ = Value.bool _ from rfl) ?_)
                refine WL.nil ?_
                refine W.cond rfl (fun c81 => ?_) (fun c81 => ?_)
                · try simp only [decide_eq_true_eq, decide_eq_false_iff_not, Bool.not_eq_true', Bool.not_eq_false', Bool.and_eq_true, Bool.or_eq_true, Bool.and_eq_false_iff, Bool.or_eq_false_iff] at c81
                  refine W.seq ?_
                  refine W.region ?_
                  refine WL.c rfl (o_fa 1 TI69 rfl TI43 rfl h6 ?_)
                  refine WL.c rfl (o_ld TI43 rfl rfl (cell_of hC6 rfl) ?_)
                  refine WL.c rfl (n_rem (b := 256) rfl rfl (by decide) ?_)
                  refine WL.c rfl (o_fa 1 TI69 rfl TI43 rfl h6 ?_)
                  refine WL.u (o_stB TI43 rfl (show _ = Value.int .u64 ((y.n % 256 : Nat) : Int) from rfl) rfl hC6 (show 1 < 3 by decide) ?_)
                  intro w86 hB86 ho86 hs86
                  replace hC6 : w86.heap[b6]? = some (.cells (ndV ⟨kd, y.n % 256, y.kids⟩).toArray 69 (0, 0)) := hB86
                  replace hx := hx.trans' ho86 (fun _ h => h) (fun k hk he => by omega)
                  replace how := own_only how ho86 (fun k hk he => by subst he; exact hoff k hk rfl)
                  clear hB86 ho86 hs86
                  refine WL.nil ?_
                  refine W.region ?_
                  refine WL.c rfl (o_fa 2 TI69 rfl TI3 rfl h6 ?_)
                  refine WL.u (o_stB TI3 rfl (show _ = Value.int .i64 1 from rfl) rfl hC6 (show 2 < 3 by decide) ?_)
                  intro w87 hB87 ho87 hs87
                  replace hC6 : w87.heap[b6]? = some (.cells (ndV ⟨kd, y.n % 256, 1⟩).toArray 69 (0, 0)) := hB87
                  replace hx := hx.trans' ho87 (fun _ h => h) (fun k hk he => by omega)
                  replace how := own_only how ho87 (fun k hk he => by subst he; exact hoff k hk rfl)
                  clear hB87 ho87 hs87
                  refine WL.nil ?_
                  (refine ⟨_, ?_, ?_, ?_, ?_, hC6, h0, h3, h4, h5, h6, how, hx⟩ <;> first | (show _ ≤ (9 : Int); omega) | (show _ < _; omega) | (intro h150; have := hk150 h150; omega) | (simp_all [rightN, numB, leastK, mostK]; done) | (simp_all [rightN, numB, leastK, mostK]; omega))
                · try simp only [decide_eq_true_eq, decide_eq_false_iff_not, Bool.not_eq_true', Bool.not_eq_false', Bool.and_eq_true, Bool.or_eq_true, Bool.and_eq_false_iff, Bool.or_eq_false_iff] at c81
                  exfalso; omega
    rintro e w ⟨x, hrt, hk0, hk9, hxn, hC6, h0, h3, h4, h5, h6, how, hx⟩
    refine W.seq ?_
    refine W.region ?_
    refine WL.c rfl (o_mvh h3 ?_)
    refine WL.c rfl (o_ldA TI69 rfl h6 (show Cells _ b6 0 (ndV x) from Cells.of hC6 0 _ (by simp)) rfl ?_)
    refine WL.ap1 (w0.heap.size) rfl rfl TI30 TI69 (show _ = Value.agg (ndV x).toArray from rfl) rfl how (by decide) (by decide) rfl (fun a ha => by simp [Value.cells, ndV] at ha; rcases ha with rfl | rfl | rfl <;> rfl) rfl (by rw [maxLen_eq]; omega) (by omega) hx.size ?_
    intro v91 w91 hown ho
    replace hC6 := ho.blk hC6 (fun hk => hoff _ hk rfl)
    replace hx := hx.trans' ho (fun _ h => h) (fun b hb he => by have := (how.lt b he).1; omega)
    replace hown : w91.ownsRow w0.heap.size 69 3 v91 (L ++ [x]).length (nds (L ++ [x])) := by rw [nds_snoc, List.length_append]; exact hown
    clear how
    have how := hown
    clear hown ho
    refine WL.c rfl (o_ash (by first | exact (show _ = Value.slice _ _ _ from rfl) | exact rfl) ?_)
    refine WL.nil ?_
    refine W.region ?_
    refine WL.c rfl (o_mvh h4 ?_)
    refine WL.c rfl (o_subi rfl rfl (by omega) ?_)
    refine WL.c rfl (o_fa 2 TI69 rfl TI3 rfl h6 ?_)
    refine WL.c rfl (o_ld TI3 rfl rfl (cell_of hC6 rfl) ?_)
    refine WL.c rfl (o_addi rfl rfl (by have := (right_kids hrt).1; omega) ?_)
    refine WL.c rfl (o_ash (show _ = Value.int _ _ from rfl) ?_)
    refine WL.nil ?_
    refine W.region ?_
    refine WL.c rfl (o_mvh h5 ?_)
    refine WL.c rfl (o_addi rfl rfl (by omega) ?_)
    refine WL.c rfl (o_ash (show _ = Value.int _ _ from rfl) ?_)
    refine WL.nil ?_
    have hLs : (L ++ [x]).length = L.length + 1 := by simp
    refine ⟨⟨L ++ [x], wt + (x.kids - 1), _, h0, rfl, by show Value.int _ _ = _; congr 1; omega, by rw [hLs]; rfl, by have := (right_kids hrt).1; omega, by rw [hLs]; by_cases h150 : 150 ≤ L.length; have := hk0 h150; omega; omega, chk_snoc hchk hrt (by omega), fun y hy => by
      rcases List.mem_append.1 hy with hy | hy
      · exact hNL y hy
      · rw [List.mem_singleton.1 hy]; exact hxn, how, hx⟩, ?_⟩
    show 1352 - ((L.length : Int) + 1).toNat < _
    rw [hm5]; simp [intOf]; omega
  · try simp only [decide_eq_true_eq, decide_eq_false_iff_not, Bool.not_eq_true', Bool.not_eq_false', Bool.and_eq_true, Bool.or_eq_true, Bool.and_eq_false_iff, Bool.or_eq_false_iff] at c9
    have hwz : wt = 0 := by omega
    subst hwz
    have hc0 := hchk []
    rw [List.append_nil, chkG, if_neg (by decide)] at hc0
    obtain ⟨t, ht, htl⟩ := chk_ok.1 (show (chkV L).1 = 0 by rw [hc0])
    refine W.exit ?_
    refine W.seq ?_
    refine W.region ?_
    refine WL.c rfl (o_mvh h3 ?_)
    refine WL.c rfl (o_ash (by first | exact (show _ = Value.slice _ _ _ from rfl) | exact rfl) ?_)
    refine WL.nil ?_
    refine W.ret ?_
    refine ret1v rfl rfl ?_
    exact ⟨t, ht, by rw [htl]; exact hNL, by rw [htl]; exact hLl, by rw [htl]; exact how, hx⟩
end Go.Proofs.YtgmjfcekeglhjaaDoor

set_option linter.unusedSimpArgs false
set_option linter.unusedVariables false
set_option maxRecDepth 100000
namespace Go.Proofs.YtgmjfcekeglhjaaDoor
open Go Go.Vc Go.RowKit Go.Proofs

theorem there_in {L : List Nd} (hc : (chkV L).1 = 0) {p : Nat} (hp : p < L.length) : thereV L p = 0 := by
  rw [thereV, if_neg (fun h => h hc), if_neg (by omega)]
theorem kidE_in {L : List Nd} (hc : (chkV L).1 = 0) {p : Nat} (hp : p < L.length) (k : Int) : kidE L p k = if k < 0 ∨ L[p].kids ≤ k then 3 else 0 := by
  rw [kidE, if_neg (fun h => h (there_in hc hp)), Int.toNat_natCast, List.getD_eq_getElem?_getD, List.getElem?_eq_getElem hp]
  rfl
theorem way_kid {L : List Nd} (hc : (chkV L).1 = 0) {p nd q : Nat} {qs : List Nat} (hp : p < L.length) (hn : p < nextV L nd) (h : Way L p nd (q :: qs)) :
    ∃ h1 : nd < L.length, (q : Int) < L[nd].kids ∧ nd < kidP L (nd + 1) q ∧ kidP L (nd + 1) q ≤ p ∧ p < nextV L (kidP L (nd + 1) q) ∧ Way L p (kidP L (nd + 1) q) qs := by
  cases h with
  | step h1 h2 h3 h4 =>
    have hnl : nd < L.length := by omega
    have hk0 := (right_kids (node_at hc hnl).choose_spec.choose_spec.1).1
    have hq : (q : Int) < L[nd].kids := by
      refine Classical.not_not.1 (fun hq => ?_)
      have e := kid_end hc hnl (k := L[nd].kids.toNat) (by omega)
      have m := kid_mono (L := L) (p := nd + 1) (a := L[nd].kids.toNat) (b := q) (by omega)
      omega
    exact ⟨hnl, hq, (kid_lt hc hnl hq).2, h2, h3, h4⟩
theorem chk_take : ∀ (l : List Nd) (w : Int) (i k : Nat), (chkG w i l).1 = 0 → 0 ≤ w → k < l.length → chkG w i (l.take k) = (40, ((i + k : Nat) : Int))
  | [], w, i, k, _, _, h => by simp at h
  | x :: l, w, i, k, h, hw, hk => by
    rw [chkG] at h
    by_cases hb : w = 0 ∨ rightN x = false
    · rw [if_pos hb] at h; cases h
    · rw [if_neg hb] at h
      cases k with
      | zero => rw [List.take_zero, chkG, if_pos (by omega), Nat.add_zero]
      | succ k =>
        have hr : rightN x = true := by cases hr : rightN x with | true => rfl | false => exact absurd (.inr hr) hb
        have := (right_kids hr).1
        rw [List.take_succ_cons, chkG, if_neg hb, chk_take l _ (i + 1) k h (by omega) (by simpa using hk), show i + 1 + k = i + (k + 1) by omega]
theorem chkV_take {L : List Nd} (hc : (chkV L).1 = 0) {k : Nat} (hk : k < L.length) : chkV (L.take k) = (40, (k : Int)) := by
  have := chk_take L 1 0 k hc (by decide) hk
  rw [Nat.zero_add] at this
  exact this
theorem next_0 {L : List Nd} (hc : (chkV L).1 = 0) : nextV L 0 = L.length := by
  obtain ⟨t, hw, rfl⟩ := chk_ok.1 hc
  have := next_tree (v := t.flat) (p := 0) (t := t) (post := []) (by simp) hw
  rw [Nat.zero_add] at this
  exact this
theorem nds_at {L : List Nd} {p c : Nat} (hp : p < L.length) (hc : c < 3) : (nds L)[p * 3 + c]? = (ndV L[p])[c]? := by
  have h := nds_get (L := L.take p) (M := L.drop (p + 1)) (x := L[p]) hc
  rw [List.getElem_cons_drop hp, List.take_append_drop, List.length_take, Nat.min_eq_left (by omega)] at h
  exact h

theorem nds_take : ∀ (L : List Nd) (p : Nat), (nds L).take (p * 3) = nds (L.take p)
  | [], p => by simp [nds]
  | x :: L, 0 => by simp [nds]
  | x :: L, p + 1 => by
    have := nds_take L p
    rw [show nds (x :: L) = ndV x ++ nds L by simp [nds], List.take_succ_cons, show nds (x :: L.take p) = ndV x ++ nds (L.take p) by simp [nds], ← this, show (p + 1) * 3 = (ndV x).length + p * 3 by rw [ndV_len]; omega, List.take_length_add_append]

set_option maxHeartbeats 16000000 in
theorem way_walk (w0 : World) (v : Value) (R : List Nd) (hS : Sl w0 3 v R.length (nds R)) (hR : R.length ≤ 9223372036854775807) (hN : NOk R) (at_ : Int) (_hb : -9223372036854775808 ≤ at_ ∧ at_ ≤ 9223372036854775807) (hT : Tab w0) (h00 : 0 < w0.heap.size) : Ca Tryd.prog 7 #[v, .int .i64 at_] w0 (fun r w' => r = .bool true ∧ Ext w0 w') := by
  refine Ca.of Tryd.func7 Tryd.ntmps7 rfl rfl ?_
  refine W.seq ?_
  refine W.region ?_
  refine WL.c rfl (o_ash (show _ = Value.bool _ from rfl) ?_)
  refine WL.nil ?_
  refine W.seq ?_
  refine W.seq ?_
  refine W.region ?_
  refine WL.c rfl (o_call Tryd.call9 ln ((awake_spec _ hT h00).mono ?_))
  rintro v21 w21 ⟨rfl, hx21⟩
  have hx := hx21
  refine WL.c rfl (o_not' rfl ?_)
  refine WL.nil ?_
  refine W.condF' rfl (by decide) ?_
  refine W.skip ?_
  refine W.seq ?_
  refine W.region ?_
  refine WL.c rfl (o_mvh (by first | exact (show _ = Value.slice _ _ _ from rfl) | exact rfl) ?_)
  refine WL.c rfl (o_call Tryd.call22 (lc rfl ln) ((made_spec R v _ (hS.ext hx) hR hN).mono ?_))
  rintro nv w24 ⟨t, htw, htn, htl, hv, hx24⟩
  replace hv := own_mono hv hx.size
  replace hx := hx.tr hx24
  have htp := t.flat_pos
  obtain ⟨L, hLL⟩ : ∃ L, L = t.flat := ⟨_, rfl⟩
  have hcL : (chkV L).1 = 0 := chk_ok.2 ⟨t, htw, hLL.symm⟩
  rw [← hLL] at htl htp hv htn
  refine WL.c rfl (o_ash (by first | exact (show _ = Value.slice _ _ _ from rfl) | exact rfl) ?_)
  refine WL.nil ?_
  refine W.seq ?_
  refine W.region ?_
  refine WL.c rfl (o_mvh (show _ = Value.int _ _ from rfl) ?_)
  refine WL.c rfl (o_mvh (by first | exact (show _ = Value.slice _ _ _ from rfl) | exact rfl) ?_)
  refine WL.c rfl (o_lenR TI30 rfl (Sl.own hv) ?_)
  refine WL.c rfl (o_subi rfl rfl (by omega) ?_)
  refine WL.c rfl (o_call Tryd.call28 (lc rfl (lc rfl (lc rfl ln))) ((rest_spec at_ 0 ((L.length : Int) - 1) _ (by omega) (by decide) (by omega)).mono ?_))
  rintro v29 w29 ⟨⟨q, rfl, hq0, hq1⟩, rfl⟩
  obtain ⟨p, rfl⟩ : ∃ p : Nat, q = (p : Int) := ⟨q.toNat, by omega⟩
  have hp : p < L.length := by omega
  have hll : L.length ≤ 5864062014805 := by omega
  have hth := there_in hcL hp
  refine WL.c rfl (o_ash (show _ = Value.int _ _ from rfl) ?_)
  refine WL.nil ?_
  refine W.seq ?_
  refine W.region ?_
  refine WL.c rfl (o_mvh (by first | exact (show _ = Value.slice _ _ _ from rfl) | exact rfl) ?_)
  refine WL.c rfl (o_mvh (show _ = Value.int _ _ from rfl) ?_)
  refine WL.c rfl (o_call Tryd.call29 (lc rfl (lc rfl ln)) ((vPath_spec L nv p _ (Sl.own hv) hll).mono ?_))
  rintro v33 w33 ⟨pv, ps, rfl, hpv, hw, -, hpl, hx33⟩
  rw [hth] at hw ⊢
  replace hw := hw rfl
  rw [Int.toNat_natCast] at hw
  replace hpv := own_mono hpv hx.size
  replace hx := hx.tr hx33
  replace hv := own_ext hv hx33
  refine WL.c rfl (o_mvh (by first | exact (show _ = Value.tuple _ from rfl) | exact rfl) ?_)
  refine WL.c rfl (o_ext rfl rfl ?_)
  refine WL.c rfl (o_ext rfl rfl ?_)
  refine WL.c rfl (o_ash (by first | exact (show _ = Value.slice _ _ _ from rfl) | exact rfl) ?_)
  refine WL.c rfl (o_ash (show _ = Value.int _ _ from rfl) ?_)
  refine WL.nil ?_
  refine W.seq ?_
  refine W.seq ?_
  refine W.region ?_
  refine WL.c rfl (o_mvh (show _ = Value.int _ _ from rfl) ?_)
  refine WL.c rfl (o_call Tryd.call15 (lc rfl ln) ((num_spec 0 _).mono ?_))
  rintro v37 w37 ⟨rfl, rfl⟩
  refine WL.c rfl (o_ne rfl rfl ?_)
  refine WL.nil ?_
  refine W.condF' rfl (by decide) ?_
  refine W.skip ?_
  refine W.seq ?_
  refine W.region ?_
  refine WL.c rfl (o_ash (show _ = Value.int _ _ from rfl) ?_)
  refine WL.nil ?_
  refine W.seq ?_
  refine W.seq ?_
  refine W.region ?_
  refine WL.c rfl (o_ash (show _ = Value.int _ _ from rfl) ?_)
  refine WL.nil ?_
  refine W.block ?_
  refine W.loop (fun e w => ∃ (i nd : Nat), i ≤ ps.length ∧ e 5 = nv ∧ e 6 = .int .i64 (p : Int) ∧ e 7 = pv ∧ e 9 = .int .i64 (nd : Int) ∧ e 10 = .int .i64 (i : Int) ∧ Way L p nd (ps.drop i) ∧ p < nextV L nd ∧ w.ownsRow w0.heap.size 69 3 nv L.length (nds L) ∧ w.ownsRow w0.heap.size 3 1 pv ps.length (ints ps) ∧ Ext w0 w) (fun e w => ps.length - (intOf (e 10)).toNat) ?_ ?_
  · exact ⟨0, 0, Nat.zero_le _, rfl, rfl, rfl, rfl, rfl, hw, by rw [next_0 hcL]; exact hp, hv, hpv, hx⟩
  rintro e w ⟨i, nd, hi, h5, h6, h7, h9, h10, hw, hnx, hv, hpv, hx⟩
  have hm10 := h10
  refine W.seq ?_
  refine W.seq ?_
  refine W.region ?_
  refine WL.c rfl (o_mvh h10 ?_)
  refine WL.c rfl (o_mvh h7 ?_)
  refine WL.c rfl (o_lenR TI75 rfl (Sl.own hpv) ?_)
  refine WL.c rfl (o_lt rfl rfl ?_)
  refine WL.nil ?_
  refine W.cond rfl (fun c42 => ?_) (fun c42 => ?_)
  · try simp only [decide_eq_true_eq, decide_eq_false_iff_not, Bool.not_eq_true', Bool.not_eq_false', Bool.and_eq_true, Bool.or_eq_true, Bool.and_eq_false_iff, Bool.or_eq_false_iff] at c42
    have hi1 : i < ps.length := by omega
    obtain ⟨pb, po, pc, hpe, hpc⟩ := Sl.intat (Sl.own hpv) hi1
    rw [hpe] at h7
    rw [← List.getElem_cons_drop hi1] at hw
    obtain ⟨hw1, hw2, hw3, hw4, hw5, hw6⟩ := way_kid hcL hp hnx hw
    have hke : kidE L nd ps[i] = 0 := by rw [kidE_in hcL hw1, if_neg (by omega)]
    refine W.skip ?_
    refine W.seq ?_
    refine W.block ?_
    refine W.seq ?_
    refine W.region ?_
    refine WL.c rfl (o_mvh h5 ?_)
    refine WL.c rfl (o_mvh h9 ?_)
    refine WL.c rfl (o_mvh h7 ?_)
    refine WL.c rfl (o_mvh h10 ?_)
    refine WL.c rfl (o_ixB (i := i) TI75 TI3 (show _ = Value.slice (some ⟨pb, po, none⟩) ps.length pc from by first | rfl | assumption) (show _ = Value.int .i64 (i : Int) from by first | rfl | assumption) (by omega) ?_)
    refine WL.c rfl (o_ld TI3 rfl rfl hpc ?_)
    refine WL.c rfl (o_call Tryd.call30 (lc rfl (lc rfl (lc rfl ln))) ((vKid_spec L nv nd ps[i] _ (Sl.own hv) hll).mono ?_))
    rintro v52 w52 ⟨rfl, hx52⟩
    rw [hke, if_pos rfl, Int.toNat_natCast, Int.toNat_natCast]
    replace hx := hx.tr hx52
    replace hv := own_ext hv hx52
    replace hpv := own_ext hpv hx52
    refine WL.c rfl (o_mvh (by first | exact (show _ = Value.tuple _ from rfl) | exact rfl) ?_)
    refine WL.c rfl (o_ext rfl rfl ?_)
    refine WL.c rfl (o_ext rfl rfl ?_)
    refine WL.c rfl (o_ash (show _ = Value.int _ _ from rfl) ?_)
    refine WL.c rfl (o_ash (show _ = Value.int _ _ from rfl) ?_)
    refine WL.nil ?_
    refine W.seq ?_
    refine W.seq ?_
    refine W.region ?_
    refine WL.c rfl (o_mvh (show _ = Value.int _ _ from rfl) ?_)
    refine WL.c rfl (o_call Tryd.call15 (lc rfl ln) ((num_spec 0 _).mono ?_))
    rintro v56 w56 ⟨rfl, rfl⟩
    refine WL.c rfl (o_ne rfl rfl ?_)
    refine WL.c rfl (o_mvh (show _ = Value.bool _ from rfl) ?_)
    refine WL.g rfl (by decide) rfl (o_mvh (show _ = Value.int _ _ from rfl) ?_)
    refine WL.g rfl (by decide) rfl (o_mvh h9 ?_)
    refine WL.g rfl (by decide) rfl (o_le rfl rfl ?_)
    refine WL.c rfl (o_pickO rfl rfl ?_)
    refine WL.nil ?_
    refine W.condF' rfl (by simp; omega) ?_
    refine W.skip ?_
    refine W.region ?_
    refine WL.c rfl (o_mvh (show _ = Value.int _ _ from rfl) ?_)
    refine WL.c rfl (o_ash (show _ = Value.int _ _ from rfl) ?_)
    refine WL.nil ?_
    refine W.region ?_
    refine WL.c rfl (o_mvh h10 ?_)
    refine WL.c rfl (o_addi rfl rfl (by omega) ?_)
    refine WL.c rfl (o_ash (show _ = Value.int _ _ from rfl) ?_)
    refine WL.nil ?_
    refine ⟨⟨i + 1, _, by omega, h5, h6, h7.trans hpe.symm, rfl, rfl, hw6, hw5, hv, hpv, hx⟩, ?_⟩
    show ps.length - ((i : Int) + 1).toNat < _
    rw [hm10]; simp [intOf]; omega
  · try simp only [decide_eq_true_eq, decide_eq_false_iff_not, Bool.not_eq_true', Bool.not_eq_false', Bool.and_eq_true, Bool.or_eq_true, Bool.and_eq_false_iff, Bool.or_eq_false_iff] at c42
    have hi1 : i = ps.length := by omega
    rw [hi1, List.drop_length] at hw
    obtain rfl : p = nd := by cases hw; rfl
    refine W.exit ?_
    refine W.seq ?_
    refine W.region ?_
    refine WL.c rfl (o_mvh h5 ?_)
    refine WL.c rfl (o_mvh h6 ?_)
    refine WL.c rfl (o_call Tryd.call31 (lc rfl (lc rfl ln)) ((vNext_spec L nv p _ (Sl.own hv) hll).mono ?_))
    rintro v67 w67 ⟨rfl, hx67⟩
    rw [hth, if_pos rfl, Int.toNat_natCast]
    replace hx := hx.tr hx67
    replace hv := own_ext hv hx67
    refine WL.c rfl (o_mvh (by first | exact (show _ = Value.tuple _ from rfl) | exact rfl) ?_)
    refine WL.c rfl (o_ext rfl rfl ?_)
    refine WL.c rfl (o_ext rfl rfl ?_)
    refine WL.c rfl (o_ash (show _ = Value.int _ _ from rfl) ?_)
    refine WL.c rfl (o_ash (show _ = Value.int _ _ from rfl) ?_)
    refine WL.nil ?_
    refine W.seq ?_
    refine W.seq ?_
    refine W.region ?_
    refine WL.cut (fun e1 w1 => e1 87 = .bool false ∧ e1 5 = nv ∧ e1 6 = .int .i64 (p : Int) ∧ e1 13 = .int .i64 (nextV L p : Int) ∧ w1 = w67) ?_ ?_
    · -- region 17
      refine WL.c rfl (o_mvh h9 ?_)
      refine WL.c rfl (o_mvh h6 ?_)
      refine WL.c rfl (o_ne rfl rfl ?_)
      refine WL.c rfl (o_mvh (show _ = Value.bool _ from rfl) ?_)
      refine WL.g rfl (by simp) rfl (o_mvh (show _ = Value.int _ _ from rfl) ?_)
      refine WL.g rfl (by simp) rfl (o_call Tryd.call15 (lc rfl ln) ((num_spec 0 _).mono ?_))
      rintro v75 w75 ⟨rfl, rfl⟩
      refine WL.g rfl (by simp) rfl (o_ne rfl rfl ?_)
      refine WL.c rfl (o_pickO rfl rfl ?_)
      refine WL.c rfl (o_mvh (show _ = Value.bool _ from rfl) ?_)
      refine WL.g rfl (by simp) rfl (o_mvh h6 ?_)
      refine WL.g rfl (by simp) rfl (o_eq rfl rfl ?_)
      refine WL.g rfl (by simp) rfl (o_mvh (show _ = Value.bool _ from rfl) ?_)
      refine WL.sp 11 rfl (fun g81 => ?_) (fun g81 => ?_)
      · skip
        refine WL.g rfl (g81) rfl (o_mvh (show _ = Value.int _ _ from rfl) ?_)
        refine WL.g rfl (g81) rfl (o_mvh h5 ?_)
        refine WL.g rfl (g81) rfl (o_lenR TI30 rfl (Sl.own hv) ?_)
        refine WL.g rfl (g81) rfl (o_ne rfl rfl ?_)
        refine WL.g rfl (by simp) rfl (o_pickA rfl rfl ?_)
        refine WL.c rfl (o_pickO rfl rfl ?_)
        exact WL.nil (⟨congrArg Value.bool (by
          have hn0 := next_0 hcL
          first | rfl | (simp only [decide_eq_true_eq] at g81; have hp0 : p = 0 := by omega
                         subst hp0; simp [hn0]) | (simp_all; done)), h5, h6, rfl, rfl⟩)
      · skip
        refine WL.s rfl (g81) rfl ?_
        refine WL.s rfl (g81) rfl ?_
        refine WL.s rfl (g81) rfl ?_
        refine WL.s rfl (g81) rfl ?_
        refine WL.g rfl (by simp) rfl (o_pickF rfl (g81) ?_)
        refine WL.c rfl (o_pickO rfl rfl ?_)
        exact WL.nil (⟨congrArg Value.bool (by
          have hn0 := next_0 hcL
          first | rfl | (simp only [decide_eq_true_eq] at g81; have hp0 : p = 0 := by omega
                         subst hp0; simp [hn0]) | (simp_all; done)), h5, h6, rfl, rfl⟩)
    rintro e w ⟨h87, h5, h6, h13, hw1⟩
    subst hw1
    refine W.condF' h87 (rfl) ?_
    refine W.skip ?_
    refine W.seq ?_
    refine W.region ?_
    refine WL.c rfl (o_mvh h6 ?_)
    refine WL.c rfl (o_addi rfl rfl (by omega) ?_)
    refine WL.c rfl (o_ash (show _ = Value.int _ _ from rfl) ?_)
    refine WL.nil ?_
    refine W.seq ?_
    refine W.seq ?_
    have hkd := right_kids (node_at hcL hp).choose_spec.choose_spec.1
    refine W.region ?_
    refine WL.c rfl (o_ash (show _ = Value.int _ _ from rfl) ?_)
    refine WL.nil ?_
    refine W.block ?_
    refine W.loop (fun e w => ∃ (i : Nat), (i : Int) ≤ L[p].kids ∧ e 5 = nv ∧ e 6 = .int .i64 (p : Int) ∧ e 13 = .int .i64 (nextV L p : Int) ∧ e 15 = .int .i64 (kidP L (p + 1) i : Int) ∧ e 16 = .int .i64 (i : Int) ∧ w.ownsRow w0.heap.size 69 3 nv L.length (nds L) ∧ Ext w0 w) (fun e w => L[p].kids.toNat - (intOf (e 16)).toNat) ?_ ?_
    · exact ⟨0, hkd.1, h5, h6, h13, rfl, rfl, hv, hx⟩
    rintro e w ⟨i, hi, h5, h6, h13, h15, h16, hv, hx⟩
    have hm16 := h16
    obtain ⟨nb, nc, rfl, hnb⟩ := own_some hv (by omega)
    refine W.seq ?_
    refine W.seq ?_
    refine W.region ?_
    refine WL.c rfl (o_mvh h16 ?_)
    refine WL.c rfl (o_mvh h5 ?_)
    refine WL.c rfl (o_mvh h6 ?_)
    refine WL.c rfl (o_ixB (i := p) TI30 TI69 (show _ = Value.slice (some ⟨nb, 0, none⟩) L.length nc from by first | rfl | assumption) (show _ = Value.int .i64 (p : Int) from by first | rfl | assumption) (by omega) ?_)
    refine WL.c rfl (o_fa 2 TI69 rfl TI3 rfl rfl ?_)
    refine WL.c rfl (o_ld TI3 rfl rfl (own_cell (j := 0 + p * 3 + 2) hv (by rw [Nat.zero_add]; exact (nds_at hp (by decide)).trans rfl)) ?_)
    refine WL.c rfl (o_lt rfl rfl ?_)
    refine WL.nil ?_
    refine W.cond rfl (fun c96 => ?_) (fun c96 => ?_)
    · try simp only [decide_eq_true_eq, decide_eq_false_iff_not, Bool.not_eq_true', Bool.not_eq_false', Bool.and_eq_true, Bool.or_eq_true, Bool.and_eq_false_iff, Bool.or_eq_false_iff] at c96
      have hi1 : (i : Int) < L[p].kids := by omega
      have hke : kidE L p i = 0 := by rw [kidE_in hcL hp, if_neg (by omega)]
      obtain ⟨hk1, hk2⟩ := kid_lt hcL hp hi1
      have hth2 := there_in hcL hk1
      refine W.skip ?_
      refine W.seq ?_
      refine W.block ?_
      refine W.seq ?_
      refine W.region ?_
      refine WL.c rfl (o_mvh h5 ?_)
      refine WL.c rfl (o_mvh h6 ?_)
      refine WL.c rfl (o_mvh h16 ?_)
      refine WL.c rfl (o_call Tryd.call30 (lc rfl (lc rfl (lc rfl ln))) ((vKid_spec L _ p i _ (Sl.own hv) hll).mono ?_))
      rintro v103 w103 ⟨rfl, hx103⟩
      rw [hke, if_pos rfl, Int.toNat_natCast, Int.toNat_natCast]
      replace hx := hx.tr hx103
      replace hv := own_ext hv hx103
      refine WL.c rfl (o_mvh (by first | exact (show _ = Value.tuple _ from rfl) | exact rfl) ?_)
      refine WL.c rfl (o_ext rfl rfl ?_)
      refine WL.c rfl (o_ext rfl rfl ?_)
      refine WL.c rfl (o_ash (show _ = Value.int _ _ from rfl) ?_)
      refine WL.c rfl (o_ash (show _ = Value.int _ _ from rfl) ?_)
      refine WL.nil ?_
      refine W.seq ?_
      refine W.seq ?_
      refine W.region ?_
      refine WL.c rfl (o_mvh (show _ = Value.int _ _ from rfl) ?_)
      refine WL.c rfl (o_call Tryd.call15 (lc rfl ln) ((num_spec 0 _).mono ?_))
      rintro v107 w107 ⟨rfl, rfl⟩
      refine WL.c rfl (o_ne rfl rfl ?_)
      refine WL.c rfl (o_mvh (show _ = Value.bool _ from rfl) ?_)
      refine WL.g rfl (by decide) rfl (o_mvh (show _ = Value.int _ _ from rfl) ?_)
      refine WL.g rfl (by decide) rfl (o_mvh h15 ?_)
      refine WL.g rfl (by decide) rfl (o_ne rfl rfl ?_)
      refine WL.c rfl (o_pickO rfl rfl ?_)
      refine WL.nil ?_
      refine W.condF' rfl (by simp) ?_
      refine W.skip ?_
      refine W.seq ?_
      refine W.region ?_
      refine WL.c rfl (o_mvh h5 ?_)
      refine WL.c rfl (o_mvh (show _ = Value.int _ _ from rfl) ?_)
      refine WL.c rfl (o_call Tryd.call31 (lc rfl (lc rfl ln)) ((vNext_spec L _ (kidP L (p + 1) i) _ (Sl.own hv) hll).mono ?_))
      rintro v117 w117 ⟨rfl, hx117⟩
      rw [hth2, if_pos rfl, Int.toNat_natCast]
      replace hx := hx.tr hx117
      replace hv := own_ext hv hx117
      refine WL.c rfl (o_mvh (by first | exact (show _ = Value.tuple _ from rfl) | exact rfl) ?_)
      refine WL.c rfl (o_ext rfl rfl ?_)
      refine WL.c rfl (o_ext rfl rfl ?_)
      refine WL.c rfl (o_ash (show _ = Value.int _ _ from rfl) ?_)
      refine WL.c rfl (o_ash (show _ = Value.int _ _ from rfl) ?_)
      refine WL.nil ?_
      refine W.seq ?_
      refine W.region ?_
      refine WL.c rfl (o_mvh (show _ = Value.int _ _ from rfl) ?_)
      refine WL.c rfl (o_call Tryd.call15 (lc rfl ln) ((num_spec 0 _).mono ?_))
      rintro v121 w121 ⟨rfl, rfl⟩
      refine WL.c rfl (o_ne rfl rfl ?_)
      refine WL.nil ?_
      refine W.condF' rfl (by decide) ?_
      refine W.skip ?_
      refine W.region ?_
      refine WL.c rfl (o_mvh h16 ?_)
      refine WL.c rfl (o_addi rfl rfl (by omega) ?_)
      refine WL.c rfl (o_ash (show _ = Value.int _ _ from rfl) ?_)
      refine WL.nil ?_
      refine ⟨⟨i + 1, by omega, h5, h6, h13, rfl, rfl, hv, hx⟩, ?_⟩
      show L[p].kids.toNat - ((i : Int) + 1).toNat < _
      rw [hm16]; simp [intOf]; omega
    · try simp only [decide_eq_true_eq, decide_eq_false_iff_not, Bool.not_eq_true', Bool.not_eq_false', Bool.and_eq_true, Bool.or_eq_true, Bool.and_eq_false_iff, Bool.or_eq_false_iff] at c96
      have hi1 : (i : Int) = L[p].kids := by omega
      have hke : kidE L p L[p].kids = 3 := by rw [kidE_in hcL hp, if_pos (by omega)]
      refine W.exit ?_
      refine W.seq ?_
      refine W.region ?_
      refine WL.c rfl (o_mvh h5 ?_)
      refine WL.c rfl (o_mvh h6 ?_)
      refine WL.c rfl (o_mvh h5 ?_)
      refine WL.c rfl (o_mvh h6 ?_)
      refine WL.c rfl (o_ixB (i := p) TI30 TI69 (show _ = Value.slice (some ⟨nb, 0, none⟩) L.length nc from by first | rfl | assumption) (show _ = Value.int .i64 (p : Int) from by first | rfl | assumption) (by omega) ?_)
      refine WL.c rfl (o_fa 2 TI69 rfl TI3 rfl rfl ?_)
      refine WL.c rfl (o_ld TI3 rfl rfl (own_cell (j := 0 + p * 3 + 2) hv (by rw [Nat.zero_add]; exact (nds_at hp (by decide)).trans rfl)) ?_)
      refine WL.c rfl (o_call Tryd.call30 (lc rfl (lc rfl (lc rfl ln))) ((vKid_spec L _ p L[p].kids _ (Sl.own hv) hll).mono ?_))
      rintro v131 w131 ⟨rfl, hx131⟩
      rw [hke, if_neg (by decide)]
      replace hx := hx.tr hx131
      replace hv := own_ext hv hx131
      refine WL.c rfl (o_mvh (by first | exact (show _ = Value.tuple _ from rfl) | exact rfl) ?_)
      refine WL.c rfl (o_ext rfl rfl ?_)
      refine WL.c rfl (o_ext rfl rfl ?_)
      refine WL.c rfl (o_ash (show _ = Value.int _ _ from rfl) ?_)
      refine WL.c rfl (o_ash (show _ = Value.int _ _ from rfl) ?_)
      refine WL.nil ?_
      refine W.seq ?_
      refine W.region ?_
      refine WL.c rfl (o_mvh h15 ?_)
      refine WL.c rfl (o_mvh h13 ?_)
      refine WL.c rfl (o_eq rfl rfl ?_)
      refine WL.c rfl (o_mvh (show _ = Value.bool _ from rfl) ?_)
      refine WL.g rfl (by rw [decide_eq_true_eq, kid_end hcL hp hi1]) rfl (o_mvh (show _ = Value.int _ _ from rfl) ?_)
      refine WL.g rfl (by rw [decide_eq_true_eq, kid_end hcL hp hi1]) rfl (o_call Tryd.call15 (lc rfl ln) ((num_spec 3 _).mono ?_))
      rintro v139 w139 ⟨rfl, rfl⟩
      refine WL.g rfl (by rw [decide_eq_true_eq, kid_end hcL hp hi1]) rfl (o_eq rfl rfl ?_)
      refine WL.c rfl (o_pickA rfl rfl ?_)
      refine WL.c rfl (o_mvh (show _ = Value.bool _ from rfl) ?_)
      refine WL.g rfl (by simp [kid_end hcL hp hi1]) rfl (o_mvh h5 ?_)
      refine WL.g rfl (by simp [kid_end hcL hp hi1]) rfl (o_mvh h6 ?_)
      refine WL.g rfl (by simp [kid_end hcL hp hi1]) rfl (o_sl0 TI30 TI69 (h := p) (show _ = Value.slice (some ⟨nb, 0, none⟩) L.length nc from by first | rfl | assumption) (show _ = Value.int .i64 (p : Int) from by first | rfl | assumption) (by obtain ⟨a, c, h1, h2⟩ := own_form hv; cases h1; omega) ?_)
      have hsl : Sl w139 3 (.slice (some ⟨nb, 0, none⟩) p nc) (L.take p).length (nds (L.take p)) := by
        have h1 := own_take hv (show p ≤ L.length by omega)
        rw [nds_take] at h1
        have h3 : (L.take p).length = p := by rw [List.length_take]; omega
        rw [h3]
        exact Sl.own h1
      refine WL.g rfl (by simp [kid_end hcL hp hi1]) rfl (o_call Tryd.call27 (lc rfl ln) ((vcheck_spec (L.take p) (.slice (some ⟨nb, 0, none⟩) p nc) _ hsl (by rw [List.length_take]; omega)).mono ?_))
      rintro v146 w146 ⟨rfl, hx146⟩
      rw [chkV_take hcL hp]
      refine WL.g rfl (by simp [kid_end hcL hp hi1]) rfl (o_mvh h6 ?_)
      refine WL.g rfl (by simp [kid_end hcL hp hi1]) rfl (o_call Tryd.call25 (lc rfl (lc rfl (lc rfl ln))) ((fault_spec 40 p 40 p _).mono ?_))
      rintro v148 w148 ⟨rfl, hx148⟩
      refine WL.c rfl (o_pickA rfl rfl ?_)
      refine WL.c rfl (o_ash (show _ = Value.bool _ from rfl) ?_)
      refine WL.nil ?_
      refine W.ret ?_
      refine ret1v rfl (show _ = Value.bool _ from rfl) ?_
      exact ⟨congrArg Value.bool (by simp [kid_end hcL hp hi1]), (hx.tr hx146).tr hx148⟩
end Go.Proofs.YtgmjfcekeglhjaaDoor

set_option linter.unusedSimpArgs false
set_option linter.unusedVariables false
namespace Go.Vc
open Go Go.RowKit Go.ChangeShapes Go.WideShapes

theorem addr_add (a : Addr) (m k : Nat) : (a.add m).add k = a.add (m + k) := by
  unfold Addr.add
  by_cases hm : m = 0 <;> by_cases hk : k = 0 <;> simp [hm, hk, Nat.add_assoc]

theorem list_of {α : Type} (p : Nat → α → Prop) : ∀ n, (∀ i, i < n → ∃ o, p i o) → ∃ os : List α, os.length = n ∧ ∀ i (h : i < os.length), p i os[i]
  | 0, _ => ⟨[], rfl, fun i h => by simp at h⟩
  | n + 1, h => by
    obtain ⟨os, h1, h2⟩ := list_of p n (fun i hi => h i (by omega))
    obtain ⟨o, ho⟩ := h n (by omega)
    refine ⟨os ++ [o], by simp [h1], fun i hi => ?_⟩
    by_cases e : i < os.length
    · rw [List.getElem_append_left e]; exact h2 i e
    · simp at hi
      have e2 : i = n := by omega
      subst e2
      rw [List.getElem_append_right (by omega)]
      simpa [h1] using ho
theorem flatMap_get {α : Type} {cells : α → List Value} {s : Nat} (hlen : ∀ o, (cells o).length = s) : ∀ (os : List α) (idx : Nat) (v : Value), (os.flatMap cells)[idx]? = some v → ∃ i j, ∃ h : i < os.length, idx = i * s + j ∧ (cells os[i])[j]? = some v
  | [], idx, v, h => by simp at h
  | o :: os, idx, v, h => by
    rw [List.flatMap_cons] at h
    by_cases e : idx < s
    · rw [List.getElem?_append_left (by rw [hlen]; exact e)] at h
      exact ⟨0, idx, by simp, by omega, h⟩
    · rw [List.getElem?_append_right (by rw [hlen]; omega), hlen] at h
      obtain ⟨i, j, hi, h1, h2⟩ := flatMap_get hlen os (idx - s) v h
      refine ⟨i + 1, j, by simp; omega, ?_, by simpa using h2⟩
      rw [Nat.add_mul]; omega
/-- its weights are within reach -/
def Small {H : Type} (P : Program) (t : TypeId) (d : DataW H) : Prop := ∀ n ∈ d.weights P t, n ≤ reachBytes
theorem Small.size {H : Type} {P : Program} {t e : TypeId} {elems spare : List (DataW H)} (h : Small P t (.slice elems spare)) (hu : P.underlying t = some (.slice e)) : (elems.length + spare.length) * P.bytesOf e ≤ reachBytes :=
  h _ (by simp only [DataW.weights, hu]; exact List.mem_cons_self ..)
theorem Small.part {H : Type} {P : Program} {t u : TypeId} {fs : Array Field} {parts : List (DataW H)} {i : Nat} {d : DataW H} (h : Small P t (.agg parts)) (hu : P.underlying t = some (.struct fs)) (hf : (fs.toList.map (·.type))[i]? = some u) (hd : parts[i]? = some d) : Small P u d := fun n hn =>
  h n (by simp only [DataW.weights, hu]; exact DataW.weights_mem_each hf hd n hn)
section
variable {H : Type} {enc : TypeId × Value → H} {P : Program} {W : World} {held : Bool}
theorem open_struct_len {t : TypeId} {fs : Array Field} {s : Nat} (hu : P.underlying t = some (.struct fs)) (hs : P.cellsOf t = s) {fuel : Nat} {cs : List Value} {x : DataW H × List MemPlace} (h : DataW.trod enc P W 0 (fun _ => true) held fuel t cs = some x) : cs.length = s := by
  obtain ⟨xs, n, -, -, h1, -⟩ := DataW.trod_struct hu h
  rw [h1, hs]
end
end Go.Vc

set_option linter.unusedSimpArgs false
set_option linter.unusedVariables false
set_option maxRecDepth 100000
namespace Go.Proofs.YtgmjfcekeglhjaaDoor
open Go Go.Vc Go.RowKit Go.Proofs

section
variable {H : Type} {enc : TypeId × Value → H} {P : Program} {W : World} {held : Bool}
/-- a slice of what is opened by 'hc', of any size -/
theorem open_rowsN {α : Type} {t e : TypeId} (s : Nat) (cells : α → List Value) (p : α → Prop) (hu : P.underlying t = some (.slice e)) (hs : P.cellsOf e = s) (hs0 : 0 < s) (hlen : ∀ o, (cells o).length = s)
    (hc : ∀ (n : Nat) (cs : List Value) (y : DataW H × List MemPlace), DataW.trod enc P W 0 (fun _ => true) held n e cs = some y → ∃ o, cs = cells o ∧ p o)
    {fuel : Nat} {v : Value} {x : DataW H × List MemPlace} (h : DataW.trod enc P W 0 (fun _ => true) held fuel t [v] = some x) :
    ∃ os : List α, os.length ≤ maxLen ∧ Sl W s v os.length (os.flatMap cells) ∧ ∀ o ∈ os, p o := by
  rcases DataW.trod_slice hu h with ⟨hcs, hd⟩ | ⟨a, len, cap, elems, rest, n, -, hcs, hx, -, hl, hm, hle, hel, -, -⟩
  · simp only [List.cons.injEq, and_true] at hcs
    subst hcs
    exact ⟨[], Nat.zero_le _, Sl.nil W s, fun o h => by cases h⟩
  · simp only [List.cons.injEq, and_true] at hcs
    subst hcs
    subst hx
    have key : ∀ i, i < len → ∃ o : α, (∀ j v, (cells o)[j]? = some v → W.cell? (a.add (i * s + j)) = some v) ∧ p o := by
      intro i hi
      have he := hel i hi
      rw [List.getElem?_eq_getElem (by omega), hs, Option.bind_eq_some_iff] at he
      obtain ⟨cs, h1, h2⟩ := he
      obtain ⟨-, h4, h5⟩ := World.cells?_some h1
      obtain ⟨o, ho, hp⟩ := hc n cs _ h2
      subst ho
      refine ⟨o, fun j v hj => ?_, hp⟩
      have hjs : j < s := by have := (List.getElem?_eq_some_iff.1 hj).1; rw [hlen] at this; exact this
      have := h5 j hjs
      rw [← hj, ← this, addr_add]
    obtain ⟨os, ho1, ho2⟩ := list_of _ len key
    refine ⟨os, by omega, ⟨?_, ?_⟩, fun o ho => ?_⟩
    · clear ho2 ho1
      induction os with
      | nil => simp
      | cons o os ih => rw [List.flatMap_cons, List.length_append, hlen, ih, List.length_cons, Nat.add_mul]; omega
    · by_cases h0 : len = 0
      · subst h0; exact .inl ⟨ho1, _, _, rfl⟩
      · obtain ⟨b, off, spot⟩ := a
        have h00 := (ho2 0 (by omega)).1 0 ((cells (os[0]'(by omega)))[0]'(by rw [hlen]; exact hs0)) (List.getElem?_eq_getElem _)
        have hsp : spot = none := by simpa [Addr.add] using World.cell?_spot h00
        subst hsp
        refine .inr ⟨b, off, cap, by rw [ho1], by omega, fun idx u hu => ?_⟩
        obtain ⟨i, j, hi, h1, h2⟩ := flatMap_get hlen os idx u hu
        have h3 := (ho2 i hi).1 j u h2
        rw [h1, ← h3, add_none]
    · obtain ⟨i, hi, rfl⟩ := List.getElem_of_mem ho
      exact (ho2 i hi).2
theorem open_fieldN {t u : TypeId} {fs : Array Field} {f : Field} (i off s : Nat) (hu : P.underlying t = some (.struct fs)) (hf : fs[i]? = some f) (ht : f.type = u) (ho : f.offset = off) (hs : P.cellsOf u = s) {fuel : Nat} {cs : List Value} {x : DataW H × List MemPlace}
    (h : DataW.trod enc P W 0 (fun _ => true) held fuel t cs = some x) : ∃ n y, DataW.trod enc P W 0 (fun _ => true) held n u ((cs.drop off).take s) = some y := by
  subst ht ho hs
  obtain ⟨xs, n, -, hx, -, hl, hall⟩ := DataW.trod_struct hu h
  have hi : i < fs.size := (Array.getElem?_eq_some_iff.1 hf).1
  have h1 := hall i f hf
  rw [List.getElem?_eq_getElem (by omega)] at h1
  exact ⟨n, _, h1⟩
theorem three_cells {cs : List Value} (h : cs.length = 3) : ∃ a b c, cs = [a, b, c] := by
  match cs, h with
  | [a, b, c], _ => exact ⟨a, b, c, rfl⟩
theorem open_node {n : Nat} {cs : List Value} {y : DataW H × List MemPlace} (h : DataW.trod enc Tryd.prog W 0 (fun _ => true) held n 69 cs = some y) : ∃ x : Nd, cs = ndV x ∧ x.n < 18446744073709551616 := by
  have hl := open_struct_len (s := 3) Tryd.underlying69 (by kernel_rfl) h
  obtain ⟨a, b, c, rfl⟩ := three_cells hl
  obtain ⟨n0, y0, h0⟩ := open_fieldN 0 0 1 Tryd.underlying69 rfl rfl rfl (by kernel_rfl) h
  obtain ⟨n1, y1, h1⟩ := open_fieldN 1 1 1 Tryd.underlying69 rfl rfl rfl (by kernel_rfl) h
  obtain ⟨n2, y2, h2⟩ := open_fieldN 2 2 1 Tryd.underlying69 rfl rfl rfl (by kernel_rfl) h
  obtain ⟨k, hk, -, -⟩ := DataW.trod_int Tryd.underlying3 h0
  obtain ⟨m, hm, -, wm⟩ := DataW.trod_int Tryd.underlying43 h1
  obtain ⟨q, hq, -, -⟩ := DataW.trod_int Tryd.underlying3 h2
  simp only [List.drop_zero, List.drop_succ_cons, List.take_succ_cons, List.take_zero, List.cons.injEq, and_true] at hk hm hq
  simp [Lit.wf, IntKind.min, IntKind.max, IntKind.signed, IntKind.bits] at wm
  refine ⟨⟨k, m.toNat, q⟩, ?_, by show m.toNat < _; omega⟩
  rw [hk, hm, hq]
  have : m = ((m.toNat : Nat) : Int) := by omega
  rw [this]
  rfl
theorem open_nodes {fuel : Nat} {v : Value} {x : DataW H × List MemPlace} (h : DataW.trod enc Tryd.prog W 0 (fun _ => true) held fuel 30 [v] = some x) : ∃ R : List Nd, Sl W 3 v R.length (nds R) ∧ R.length ≤ 9223372036854775807 ∧ NOk R := by
  obtain ⟨R, h1, h2, h3⟩ := open_rowsN 3 ndV (fun x => x.n < 18446744073709551616) Tryd.underlying30 (by kernel_rfl) (by decide) (fun _ => rfl) (fun n cs y hy => open_node hy) h
  exact ⟨R, h2, by rw [maxLen_eq] at h1; omega, h3⟩
end

end Go.Proofs.YtgmjfcekeglhjaaDoor
