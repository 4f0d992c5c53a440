/-
  Walks and lemmas. Written by program out of specs of mine.
-/
import Derived.WalkKit
import Derived.WalkSpells
import Derived.WalkLawsBesides
import Derived.Deep.Quiet
import Derived.StillTail
import Derived.StringKeys
import Derived.Laws.StructEq
import Derived.Laws.Externs
import Derived.Laws.Tables
import Derived.Scope
import Derived.Laws.AppendOwn
import Derived.Maps.AppendAt
import Derived.Recover
import Derived.Test.YtgmjfcekeglhjaaDoorProg
import Derived.Maps.OwnSet
import Derived.Shelf.Strconv.Itoa0
import Derived.Shelf.Strconv.Itoa1
import Derived.Shelf.LaysM
import Derived.Shelf.Strconv.Itoa2
import Derived.Lib.ItoaMem
import Derived.Lib.ItoaLen
import Derived.DeepKeys3
import Derived.SizedLaws
import Derived.ChangeArms
import Derived.ChangeSlices
import Derived.Lib.ConvBytes
import Derived.Test.YtgmjfcekeglhjaaDoorRows
import Derived.ProofKit
import Derived.OpenShut
import Derived.ShutString
import Derived.ChangeOld
import Derived.Below
import Derived.JoinedCond
import Derived.SliceStrings
import Derived.Test.YtgmjfcekeglhjaaDoorCards
import Derived.Test.YtgmjfcekeglhjaaDoorTie
import Derived.Deep.DeepHandedRow
import Derived.Lib.LaidTab
import Derived.Test.YtgmjfcekeglhjaaDoorKp3
set_option linter.unusedSimpArgs false
set_option linter.unusedVariables false
set_option maxRecDepth 100000
set_option linter.unusedSimpArgs false
set_option linter.unusedVariables false
set_option maxRecDepth 100000
namespace Go.Proofs.YtgmjfcekeglhjaaDoor
open Go Go.Vc Go.RowKit Go.Proofs

theorem o_minI {P : Program} {e : Env} {w : World} {K : Value → World → Prop} {ty : TypeId} {x y : Operand} {t u : TypeId} {k : IntKind} {a b : Int} (hx : ev e x = .int k a) (hy : ev e y = .int k b) (kk : K (.int k (if b < a then b else a)) w) : OP P e (.call ⟨.builtin .min, #[x, y], #[t, u]⟩) ty w K := by
  refine OP.of ?_ kk
  simp [execOp, resolve, invoke, builtin, Builtin.min_, Builtin.min2, hx, hy]
theorem o_remI {P : Program} {e : Env} {w : World} {K : Value → World → Prop} {ty : TypeId} {x y : Operand} {t u : TypeId} {a b : Int} (hx : ev e x = .int .i64 a) (hy : ev e y = .int .i64 b) (hb : 0 < b) (kk : K (.int .i64 (a.tmod b)) w) : OP P e (.binOp .rem t x y u) ty w K := by
  exact o_rem hx hy (by omega) kk
theorem tmod_lim (a : Int) {b : Int} (hb : 0 < b) : -b < a.tmod b ∧ a.tmod b < b := by
  refine ⟨?_, Int.tmod_lt_of_pos a hb⟩
  by_cases h : 0 ≤ a
  · have := Int.tmod_nonneg b h
    omega
  · have h1 := Int.tmod_lt_of_pos (-a) hb
    rw [Int.neg_tmod] at h1
    omega
theorem chk_snoc {L : List Nd} {w : Int} (h : ∀ l, chkV (L ++ l) = chkG w L.length l) {x : Nd} (hx : rightN x = true) (hw : ¬ w = 0) (l : List Nd) : chkV ((L ++ [x]) ++ l) = chkG (w + (x.kids - 1)) (L ++ [x]).length l := by
  rw [List.append_assoc, h, List.singleton_append, chkG, if_neg (by rw [hx]; simp; exact hw), List.length_append]
  rfl

theorem rest_spec (n lo hi : Int) (w0 : World) (h1 : lo ≤ hi) (h2 : 0 ≤ lo) (h3 : hi ≤ 1000000000) : Ca Tryd.prog 28 #[.int .i64 n, .int .i64 lo, .int .i64 hi] w0 (fun v w' => (∃ q, v = .int .i64 q ∧ lo ≤ q ∧ q ≤ hi) ∧ w' = w0) := by
  refine Ca.of Tryd.func28 Tryd.ntmps28 rfl rfl ?_
  refine W.seq ?_
  refine W.region ?_
  refine WL.c rfl (o_ash (show _ = Value.int _ _ from rfl) ?_)
  refine WL.nil ?_
  refine W.seq ?_
  refine W.region ?_
  refine WL.c rfl (o_mvh (show _ = Value.int _ _ from rfl) ?_)
  refine WL.c rfl (o_mvh (show _ = Value.int _ _ from rfl) ?_)
  refine WL.c rfl (o_subi rfl rfl (by omega) ?_)
  refine WL.c rfl (o_addi rfl rfl (by omega) ?_)
  refine WL.c rfl (o_ash (show _ = Value.int _ _ from rfl) ?_)
  refine WL.nil ?_
  refine W.seq ?_
  refine W.region ?_
  refine WL.c rfl (o_mvh (show _ = Value.int _ _ from rfl) ?_)
  refine WL.c rfl (o_mvh (show _ = Value.int _ _ from rfl) ?_)
  refine WL.c rfl (o_mvh (show _ = Value.int _ _ from rfl) ?_)
  refine WL.c rfl (o_remI rfl rfl (by omega) ?_)
  refine WL.c rfl (o_mvh (show _ = Value.int _ _ from rfl) ?_)
  refine WL.c rfl (o_addi rfl rfl (by have := tmod_lim n (show 0 < hi - lo + 1 by omega); omega) ?_)
  refine WL.c rfl (o_mvh (show _ = Value.int _ _ from rfl) ?_)
  refine WL.c rfl (o_remI rfl rfl (by omega) ?_)
  refine WL.c rfl (o_addi rfl rfl (by have h4 := tmod_lim n (show 0 < hi - lo + 1 by omega); have h5 := tmod_lim (n.tmod (hi - lo + 1) + (hi - lo + 1)) (show 0 < hi - lo + 1 by omega); omega) ?_)
  refine WL.c rfl (o_ash (show _ = Value.int _ _ from rfl) ?_)
  refine WL.nil ?_
  refine W.ret ?_
  refine ret1v rfl (show _ = Value.int _ _ from rfl) ?_
  have h4 := tmod_lim n (show 0 < hi - lo + 1 by omega)
  have h5 := tmod_lim (n.tmod (hi - lo + 1) + (hi - lo + 1)) (show 0 < hi - lo + 1 by omega)
  have h6 : 0 ≤ (n.tmod (hi - lo + 1) + (hi - lo + 1)).tmod (hi - lo + 1) := Int.tmod_nonneg _ (by omega)
  exact ⟨⟨_, rfl, by omega, by omega⟩, rfl⟩
set_option maxHeartbeats 16000000 in
theorem made_spec (R : List Nd) (v : Value) (w0 : World) (hS : Sl w0 3 v R.length (nds R)) (hR : R.length ≤ 9223372036854775807) (hN : NOk R) : Ca Tryd.prog 22 #[v] w0 (fun r w' => ∃ t : Vt, t.wf ∧ NOk t.flat ∧ t.flat.length ≤ 1351 ∧ w'.ownsRow w0.heap.size 69 3 r t.flat.length (nds t.flat) ∧ Ext w0 w') := by
  have hx : Ext w0 w0 := Only.refl _ _
  refine Ca.of Tryd.func22 Tryd.ntmps22 rfl rfl ?_
  refine W.seq ?_
  refine W.region ?_
  refine WL.c rfl (o_ash (by first | exact (show _ = Value.slice _ _ _ from rfl) | exact rfl) ?_)
  refine WL.nil ?_
  refine W.seq ?_
  refine W.region ?_
  refine WL.c rfl (o_ash (by first | exact (show _ = Value.slice _ _ _ from rfl) | exact rfl) ?_)
  refine WL.nil ?_
  refine W.seq ?_
  refine W.region ?_
  refine WL.c rfl (o_ash (show _ = Value.int _ _ from rfl) ?_)
  refine WL.nil ?_
  refine W.seq ?_
  refine W.seq ?_
  refine W.region ?_
  refine WL.c rfl (o_ash (show _ = Value.int _ _ from rfl) ?_)
  refine WL.nil ?_
  refine W.block ?_
  refine W.loop (fun e w => ∃ (L : List Nd) (wt : Int) (ov : Value), e 0 = v ∧ e 3 = ov ∧ e 4 = .int .i64 wt ∧ e 5 = .int .i64 (L.length : Int) ∧ 0 ≤ wt ∧ (L.length : Int) + wt ≤ 1 + 9 * (min L.length 150 : Nat) ∧ (∀ l, chkV (L ++ l) = chkG wt L.length l) ∧ NOk L ∧ w.ownsRow w0.heap.size 69 3 ov L.length (nds L) ∧ Ext w0 w) (fun e w => 1352 - (intOf (e 5)).toNat) ?_ ?_
  · exact ⟨[], 1, _, rfl, rfl, rfl, rfl, by omega, by simp, fun l => rfl, fun x hx => (by cases hx), World.ownsRow_nil _ _ _ _, hx⟩
  rintro e w ⟨L, wt, ov, h0, h3, h4, h5, hw0, hwl, hchk, hNL, how, hx⟩
  have hm5 := h5
  have hLl : L.length ≤ 1351 := by omega
  refine W.seq ?_
  refine W.seq ?_
  refine W.region ?_
  refine WL.c rfl (o_mvh h4 ?_)
  refine WL.c rfl (o_gt rfl rfl ?_)
  refine WL.nil ?_
  refine W.cond rfl (fun c9 => ?_) (fun c9 => ?_)
  · try simp only [decide_eq_true_eq, decide_eq_false_iff_not, Bool.not_eq_true', Bool.not_eq_false', Bool.and_eq_true, Bool.or_eq_true, Bool.and_eq_false_iff, Bool.or_eq_false_iff] at c9
    obtain ⟨sp, sc, rfl, hsc⟩ := own_form how
    refine W.skip ?_
    refine W.seq ?_
    refine W.block ?_
    refine W.seq ?_
    refine W.region ?_
    refine WL.c rfl (o_alB TI69 ?_)
    intro w6 hC6 hx6 hs6
    obtain ⟨b6, hb6⟩ : ∃ b, b = w.heap.size := ⟨_, rfl⟩
    rw [← hb6] at hC6 ⊢
    replace hC6 : w6.heap[b6]? = some (.cells (ndV nd0).toArray 69 (0, 0)) := hC6
    have hz6 : w0.heap.size ≤ b6 := by rw [hb6]; exact hx.size
    have hoff : ∀ k, (Value.slice sp L.length sc).ownBlock = some k → ¬ k = b6 := fun k hk he => by have := (how.lt k hk).2; omega
    replace how := own_ext how hx6
    replace hx := hx.tr hx6
    clear hx6 hs6
    refine WL.nil ?_
    refine W.seq ?_
    refine W.seq ?_
    refine W.region ?_
    refine WL.cut (fun e1 w1 => e1 19 = .bool (decide (L.length < R.length ∧ L.length < 150)) ∧ e1 0 = v ∧ e1 3 = .slice sp L.length sc ∧ e1 4 = .int .i64 wt ∧ e1 5 = .int .i64 (L.length : Int) ∧ e1 6 = .pointer (some ⟨b6, 0, none⟩) ∧ w1 = w6) ?_ ?_
    · -- region 7
      refine WL.c rfl (o_mvh h5 ?_)
      refine WL.c rfl (o_mvh h0 ?_)
      refine WL.c rfl (o_lenR TI30 rfl (hS.ext hx) ?_)
      refine WL.c rfl (o_lt rfl rfl ?_)
      refine WL.c rfl (o_mvh (show _ = Value.bool _ from rfl) ?_)
      refine WL.sp 4 rfl (fun g16 => ?_) (fun g16 => ?_)
      · skip
        refine WL.g rfl (g16) rfl (o_mvh h5 ?_)
        refine WL.g rfl (g16) rfl (o_lt rfl rfl ?_)
        refine WL.c rfl (o_pickA rfl rfl ?_)
        exact WL.nil (⟨congrArg Value.bool (by rw [Bool.eq_iff_iff]; simp_all <;> omega), h0, h3, h4, h5, rfl, rfl⟩)
      · skip
        refine WL.s rfl (g16) rfl ?_
        refine WL.s rfl (g16) rfl ?_
        refine WL.c rfl (o_pickF rfl (g16) ?_)
        exact WL.nil (⟨congrArg Value.bool (by rw [Bool.eq_iff_iff]; simp_all <;> omega), h0, h3, h4, h5, rfl, rfl⟩)
    rintro e w ⟨h19, h0, h3, h4, h5, h6, hw1⟩
    subst hw1
    refine W.cut (fun e1 w1 => ∃ y : Nd, y.n < 18446744073709551616 ∧ w1.heap[b6]? = some (.cells (ndV y).toArray 69 (0, 0)) ∧ e1 0 = v ∧ e1 3 = .slice sp L.length sc ∧ e1 4 = .int .i64 wt ∧ e1 5 = .int .i64 (L.length : Int) ∧ e1 6 = .pointer (some ⟨b6, 0, none⟩) ∧ w1.ownsRow w0.heap.size 69 3 (.slice sp L.length sc) L.length (nds L) ∧ Ext w0 w1) ?_ ?_
    · -- both ways
      refine W.cond h19 (fun c19 => ?_) (fun c19 => ?_)
      · try simp only [decide_eq_true_eq, decide_eq_false_iff_not, Bool.not_eq_true', Bool.not_eq_false', Bool.and_eq_true, Bool.or_eq_true, Bool.and_eq_false_iff, Bool.or_eq_false_iff] at c19
        have hi1 : L.length < R.length := by omega
        obtain ⟨ub, uo, uc, hv, huc⟩ := Sl.nd (hS.ext hx) hi1
        rw [hv] at h0
        refine W.region ?_
        refine WL.c rfl (o_mvh h0 ?_)
        refine WL.c rfl (o_mvh h5 ?_)
        refine WL.c rfl (o_ixB (i := L.length) TI30 TI69 (show _ = Value.slice (some ⟨ub, uo, none⟩) R.length uc from by first | rfl | assumption) (show _ = Value.int .i64 (L.length : Int) from by first | rfl | assumption) (by omega) ?_)
        refine WL.c rfl (o_ldA TI69 rfl rfl huc rfl ?_)
        refine WL.u (o_stA TI69 h6 (show _ = Value.agg (ndV R[L.length]).toArray from rfl) rfl rfl hC6 rfl ?_)
        intro wz hCz hoz hsz
        replace hC6 : wz.heap[b6]? = some (.cells (ndV R[L.length]).toArray 69 (0, 0)) := hCz
        replace how := own_only how hoz (fun k hk he => by subst he; exact hoff k hk rfl)
        replace hx := hx.trans' hoz (fun _ h => h) (fun k hk he => by omega)
        clear hCz hoz hsz
        refine WL.nil ?_
        first | exact ⟨R[L.length], hN _ (List.getElem_mem hi1), hC6, h0.trans hv.symm, h3, h4, h5, h6, how, hx⟩ | exact ⟨nd0, by decide, hC6, h0, h3, h4, h5, h6, how, hx⟩
      · try simp only [decide_eq_true_eq, decide_eq_false_iff_not, Bool.not_eq_true', Bool.not_eq_false', Bool.and_eq_true, Bool.or_eq_true, Bool.and_eq_false_iff, Bool.or_eq_false_iff] at c19
        refine W.skip ?_
        first | exact ⟨R[L.length], hN _ (List.getElem_mem hi1), hC6, h0.trans hv.symm, h3, h4, h5, h6, how, hx⟩ | exact ⟨nd0, by decide, hC6, h0, h3, h4, h5, h6, how, hx⟩
    rintro e w ⟨y, hyn, hC6, h0, h3, h4, h5, h6, how, hx⟩
    refine W.seq ?_
    refine W.region ?_
    refine WL.c rfl (o_fa 0 TI69 rfl TI3 rfl h6 ?_)
    refine WL.c rfl (o_ld TI3 rfl rfl (cell_of hC6 rfl) ?_)
    refine WL.c rfl (o_call Tryd.call28 (lc rfl (lc rfl (lc rfl ln))) ((rest_spec y.kind 1 6 _ (by decide) (by decide) (by decide)).mono ?_))
    rintro v26 w26 ⟨⟨q, rfl, hq1, hq6⟩, rfl⟩
    refine WL.c rfl (o_fa 0 TI69 rfl TI3 rfl h6 ?_)
    refine WL.u (o_stB TI3 rfl (show _ = Value.int .i64 q from rfl) rfl hC6 (show 0 < 3 by decide) ?_)
    intro w27 hB27 ho27 hs27
    replace hC6 : w27.heap[b6]? = some (.cells (ndV ⟨q, y.n, y.kids⟩).toArray 69 (0, 0)) := hB27
    replace hx := hx.trans' ho27 (fun _ h => h) (fun k hk he => by omega)
    replace how := own_only how ho27 (fun k hk he => by subst he; exact hoff k hk rfl)
    clear hB27 ho27 hs27
    refine WL.nil ?_
    refine W.seq ?_
    refine W.region ?_
    refine WL.c rfl (o_mvh h3 ?_)
    refine WL.c rfl (o_lenR TI30 rfl (Sl.own how) ?_)
    refine WL.c rfl (o_subi rfl rfl (by omega) ?_)
    refine WL.c rfl (o_mvh h4 ?_)
    refine WL.c rfl (o_subi rfl rfl (by omega) ?_)
    refine WL.c rfl (o_maxI rfl rfl ?_)
    refine WL.c rfl (o_ash (show _ = Value.int _ _ from rfl) ?_)
    refine WL.nil ?_
    obtain ⟨lf, hlf, hlf0, hlf1⟩ : ∃ lf, lf = (if (0 : Int) < 300 - (L.length : Int) - wt then 300 - (L.length : Int) - wt else 0) ∧ 0 ≤ lf ∧ lf ≤ 300 := ⟨_, rfl, by split <;> omega, by split <;> omega⟩
    rw [← hlf]
    refine W.seq ?_
    refine W.seq ?_
    refine W.region ?_
    refine WL.cut (fun e1 w1 => e1 41 = .bool (decide (R.length ≤ L.length ∨ 150 ≤ L.length)) ∧ e1 0 = v ∧ e1 3 = .slice sp L.length sc ∧ e1 4 = .int .i64 wt ∧ e1 5 = .int .i64 (L.length : Int) ∧ e1 6 = .pointer (some ⟨b6, 0, none⟩) ∧ e1 7 = .int .i64 lf ∧ w1 = w27) ?_ ?_
    · -- region 11
      refine WL.c rfl (o_mvh h5 ?_)
      refine WL.c rfl (o_mvh h0 ?_)
      refine WL.c rfl (o_lenR TI30 rfl (hS.ext hx) ?_)
      refine WL.c rfl (o_ge rfl rfl ?_)
      refine WL.c rfl (o_mvh (show _ = Value.bool _ from rfl) ?_)
      refine WL.sp 4 rfl (fun g38 => ?_) (fun g38 => ?_)
      · skip
        refine WL.s rfl (g38) rfl ?_
        refine WL.s rfl (g38) rfl ?_
        refine WL.c rfl (o_pickT rfl (g38) ?_)
        exact WL.nil (⟨congrArg Value.bool (by rw [Bool.eq_iff_iff]; simp_all <;> omega), h0, h3, h4, h5, h6, rfl, rfl⟩)
      · skip
        refine WL.g rfl (g38) rfl (o_mvh h5 ?_)
        refine WL.g rfl (g38) rfl (o_ge rfl rfl ?_)
        refine WL.c rfl (o_pickO rfl rfl ?_)
        exact WL.nil (⟨congrArg Value.bool (by rw [Bool.eq_iff_iff]; simp_all <;> omega), h0, h3, h4, h5, h6, rfl, rfl⟩)
    rintro e w ⟨h41, h0, h3, h4, h5, h6, h7, hw1⟩
    subst hw1
    refine W.cut (fun e1 w1 => ∃ kd : Int, 1 ≤ kd ∧ kd ≤ 6 ∧ (150 ≤ L.length → kd = 1) ∧ w1.heap[b6]? = some (.cells (ndV ⟨kd, y.n, y.kids⟩).toArray 69 (0, 0)) ∧ e1 0 = v ∧ e1 3 = .slice sp L.length sc ∧ e1 4 = .int .i64 wt ∧ e1 5 = .int .i64 (L.length : Int) ∧ e1 6 = .pointer (some ⟨b6, 0, none⟩) ∧ w1.ownsRow w0.heap.size 69 3 (.slice sp L.length sc) L.length (nds L) ∧ Ext w0 w1 ∧ e1 7 = .int .i64 lf) ?_ ?_
    · -- both ways
      refine W.cond h41 (fun c41 => ?_) (fun c41 => ?_)
      · try simp only [decide_eq_true_eq, decide_eq_false_iff_not, Bool.not_eq_true', Bool.not_eq_false', Bool.and_eq_true, Bool.or_eq_true, Bool.and_eq_false_iff, Bool.or_eq_false_iff] at c41
        refine W.region ?_
        refine WL.c rfl (o_fa 0 TI69 rfl TI3 rfl h6 ?_)
        refine WL.u (o_stB TI3 rfl (show _ = Value.int .i64 1 from rfl) rfl hC6 (show 0 < 3 by decide) ?_)
        intro w42 hB42 ho42 hs42
        replace hC6 : w42.heap[b6]? = some (.cells (ndV ⟨1, y.n, y.kids⟩).toArray 69 (0, 0)) := hB42
        replace hx := hx.trans' ho42 (fun _ h => h) (fun k hk he => by omega)
        replace how := own_only how ho42 (fun k hk he => by subst he; exact hoff k hk rfl)
        clear hB42 ho42 hs42
        refine WL.nil ?_
        first | exact ⟨1, by decide, by decide, fun _ => rfl, hC6, h0, h3, h4, h5, h6, how, hx, h7⟩ | exact ⟨q, hq1, hq6, fun h => absurd (Or.inr h : R.length ≤ L.length ∨ 150 ≤ L.length) (by simpa using c41), hC6, h0, h3, h4, h5, h6, how, hx, h7⟩
      · try simp only [decide_eq_true_eq, decide_eq_false_iff_not, Bool.not_eq_true', Bool.not_eq_false', Bool.and_eq_true, Bool.or_eq_true, Bool.and_eq_false_iff, Bool.or_eq_false_iff] at c41
        refine W.skip ?_
        first | exact ⟨1, by decide, by decide, fun _ => rfl, hC6, h0, h3, h4, h5, h6, how, hx, h7⟩ | exact ⟨q, hq1, hq6, fun h => absurd (Or.inr h : R.length ≤ L.length ∨ 150 ≤ L.length) (by simpa using c41), hC6, h0, h3, h4, h5, h6, how, hx, h7⟩
    rintro e w ⟨kd, hk1, hk6, hk150, hC6, h0, h3, h4, h5, h6, how, hx, h7⟩
    refine W.seq ?_
    refine W.seq ?_
    refine W.region ?_
    refine WL.c rfl (o_fa 0 TI69 rfl TI3 rfl h6 ?_)
    refine WL.c rfl (o_ld TI3 rfl rfl (cell_of hC6 rfl) ?_)
    refine WL.nil ?_
    refine W.block ?_
    refine W.seq ?_
    refine W.region ?_
    refine WL.c rfl (o_eq rfl rfl ?_)
    refine WL.c rfl (o_ash (show _ = Value.bool _ from rfl) ?_)
    refine WL.nil ?_
    refine W.cut (fun e1 w1 => ∃ x : Nd, rightN x = true ∧ (150 ≤ L.length → x.kids = 0) ∧ x.kids ≤ 9 ∧ x.n < 18446744073709551616 ∧ w1.heap[b6]? = some (.cells (ndV x).toArray 69 (0, 0)) ∧ e1 0 = v ∧ e1 3 = .slice sp L.length sc ∧ e1 4 = .int .i64 wt ∧ e1 5 = .int .i64 (L.length : Int) ∧ e1 6 = .pointer (some ⟨b6, 0, none⟩) ∧ w1.ownsRow w0.heap.size 69 3 (.slice sp L.length sc) L.length (nds L) ∧ Ext w0 w1) ?_ ?_
    · -- both ways
      refine W.cond rfl (fun c45 => ?_) (fun c45 => ?_)
      · try simp only [decide_eq_true_eq, decide_eq_false_iff_not, Bool.not_eq_true', Bool.not_eq_false', Bool.and_eq_true, Bool.or_eq_true, Bool.and_eq_false_iff, Bool.or_eq_false_iff] at c45
        refine W.region ?_
        refine WL.c rfl (o_fa 2 TI69 rfl TI3 rfl h6 ?_)
        refine WL.u (o_stB TI3 rfl (show _ = Value.int .i64 0 from rfl) rfl hC6 (show 2 < 3 by decide) ?_)
        intro w47 hB47 ho47 hs47
        replace hC6 : w47.heap[b6]? = some (.cells (ndV ⟨kd, y.n, 0⟩).toArray 69 (0, 0)) := hB47
        replace hx := hx.trans' ho47 (fun _ h => h) (fun k hk he => by omega)
        replace how := own_only how ho47 (fun k hk he => by subst he; exact hoff k hk rfl)
        clear hB47 ho47 hs47
        refine WL.nil ?_
        (refine ⟨_, ?_, ?_, ?_, ?_, hC6, h0, h3, h4, h5, h6, how, hx⟩ <;> first | (show _ ≤ (9 : Int); omega) | (show _ < _; omega) | (intro h150; have := hk150 h150; omega) | (simp_all [rightN, numB, leastK, mostK]; done) | (simp_all [rightN, numB, leastK, mostK]; omega))
      · try simp only [decide_eq_true_eq, decide_eq_false_iff_not, Bool.not_eq_true', Bool.not_eq_false', Bool.and_eq_true, Bool.or_eq_true, Bool.and_eq_false_iff, Bool.or_eq_false_iff] at c45
        refine W.seq ?_
        refine W.region ?_
        refine WL.c rfl (o_eq rfl rfl ?_)
        refine WL.c rfl (o_ash (show _ = Value.bool _ from rfl) ?_)
        refine WL.nil ?_
        refine W.cond rfl (fun c48 => ?_) (fun c48 => ?_)
        · try simp only [decide_eq_true_eq, decide_eq_false_iff_not, Bool.not_eq_true', Bool.not_eq_false', Bool.and_eq_true, Bool.or_eq_true, Bool.and_eq_false_iff, Bool.or_eq_false_iff] at c48
          refine W.seq ?_
          refine W.region ?_
          refine WL.c rfl (o_fa 1 TI69 rfl TI43 rfl h6 ?_)
          refine WL.c rfl (o_ld TI43 rfl rfl (cell_of hC6 rfl) ?_)
          refine WL.c rfl (n_rem (b := 2) rfl rfl (by decide) ?_)
          refine WL.c rfl (o_fa 1 TI69 rfl TI43 rfl h6 ?_)
          refine WL.u (o_stB TI43 rfl (show _ = Value.int .u64 ((y.n % 2 : Nat) : Int) from rfl) rfl hC6 (show 1 < 3 by decide) ?_)
          intro w53 hB53 ho53 hs53
          replace hC6 : w53.heap[b6]? = some (.cells (ndV ⟨kd, y.n % 2, y.kids⟩).toArray 69 (0, 0)) := hB53
          replace hx := hx.trans' ho53 (fun _ h => h) (fun k hk he => by omega)
          replace how := own_only how ho53 (fun k hk he => by subst he; exact hoff k hk rfl)
          clear hB53 ho53 hs53
          refine WL.nil ?_
          refine W.region ?_
          refine WL.c rfl (o_fa 2 TI69 rfl TI3 rfl h6 ?_)
          refine WL.u (o_stB TI3 rfl (show _ = Value.int .i64 0 from rfl) rfl hC6 (show 2 < 3 by decide) ?_)
          intro w54 hB54 ho54 hs54
          replace hC6 : w54.heap[b6]? = some (.cells (ndV ⟨kd, y.n % 2, 0⟩).toArray 69 (0, 0)) := hB54
          replace hx := hx.trans' ho54 (fun _ h => h) (fun k hk he => by omega)
          replace how := own_only how ho54 (fun k hk he => by subst he; exact hoff k hk rfl)
          clear hB54 ho54 hs54
          refine WL.nil ?_
          (refine ⟨_, ?_, ?_, ?_, ?_, hC6, h0, h3, h4, h5, h6, how, hx⟩ <;> first | (show _ ≤ (9 : Int); omega) | (show _ < _; omega) | (intro h150; have := hk150 h150; omega) | (simp_all [rightN, numB, leastK, mostK]; done) | (simp_all [rightN, numB, leastK, mostK]; omega))
        · try simp only [decide_eq_true_eq, decide_eq_false_iff_not, Bool.not_eq_true', Bool.not_eq_false', Bool.and_eq_true, Bool.or_eq_true, Bool.and_eq_false_iff, Bool.or_eq_false_iff] at c48
          refine W.seq ?_
          refine W.region ?_
          refine WL.c rfl (o_eq rfl rfl ?_)
          refine WL.c rfl (o_ash (show _ = Value.bool _ from rfl) ?_)
          refine WL.nil ?_
          refine W.cond rfl (fun c55 => ?_) (fun c55 => ?_)
          · try simp only [decide_eq_true_eq, decide_eq_false_iff_not, Bool.not_eq_true', Bool.not_eq_false', Bool.and_eq_true, Bool.or_eq_true, Bool.and_eq_false_iff, Bool.or_eq_false_iff] at c55
            refine W.seq ?_
            refine W.region ?_
            refine WL.c rfl (o_fa 1 TI69 rfl TI43 rfl h6 ?_)
            refine WL.u (o_stB TI43 rfl (show _ = Value.int .u64 0 from rfl) rfl hC6 (show 1 < 3 by decide) ?_)
            intro w57 hB57 ho57 hs57
            replace hC6 : w57.heap[b6]? = some (.cells (ndV ⟨kd, 0, y.kids⟩).toArray 69 (0, 0)) := hB57
            replace hx := hx.trans' ho57 (fun _ h => h) (fun k hk he => by omega)
            replace how := own_only how ho57 (fun k hk he => by subst he; exact hoff k hk rfl)
            clear hB57 ho57 hs57
            refine WL.nil ?_
            refine W.region ?_
            refine WL.c rfl (o_fa 2 TI69 rfl TI3 rfl h6 ?_)
            refine WL.c rfl (o_ld TI3 rfl rfl (cell_of hC6 rfl) ?_)
            refine WL.c rfl (o_mvh h7 ?_)
            refine WL.c rfl (o_minI rfl rfl ?_)
            refine WL.c rfl (o_call Tryd.call28 (lc rfl (lc rfl (lc rfl ln))) ((rest_spec y.kids 0 (if (9 : Int) < lf then 9 else lf) _ (by split <;> omega) (by decide) (by split <;> omega)).mono ?_))
            rintro v62 w62 ⟨⟨q2, rfl, hq20, hq2b⟩, rfl⟩
            have hq29 : q2 ≤ 9 := by split at hq2b <;> omega
            refine WL.c rfl (o_fa 2 TI69 rfl TI3 rfl h6 ?_)
            refine WL.u (o_stB TI3 rfl (show _ = Value.int .i64 q2 from rfl) rfl hC6 (show 2 < 3 by decide) ?_)
            intro w63 hB63 ho63 hs63
            replace hC6 : w63.heap[b6]? = some (.cells (ndV ⟨kd, 0, q2⟩).toArray 69 (0, 0)) := hB63
            replace hx := hx.trans' ho63 (fun _ h => h) (fun k hk he => by omega)
            replace how := own_only how ho63 (fun k hk he => by subst he; exact hoff k hk rfl)
            clear hB63 ho63 hs63
            refine WL.nil ?_
            (refine ⟨_, ?_, ?_, ?_, ?_, hC6, h0, h3, h4, h5, h6, how, hx⟩ <;> first | (show _ ≤ (9 : Int); omega) | (show _ < _; omega) | (intro h150; have := hk150 h150; omega) | (simp_all [rightN, numB, leastK, mostK]; done) | (simp_all [rightN, numB, leastK, mostK]; omega))
          · try simp only [decide_eq_true_eq, decide_eq_false_iff_not, Bool.not_eq_true', Bool.not_eq_false', Bool.and_eq_true, Bool.or_eq_true, Bool.and_eq_false_iff, Bool.or_eq_false_iff] at c55
            refine W.seq ?_
            refine W.region ?_
            refine WL.c rfl (o_eq rfl rfl ?_)
            refine WL.c rfl (o_ash (show _ = Value.bool _ from rfl) ?_)
            refine WL.nil ?_
            refine W.cond rfl (fun c64 => ?_) (fun c64 => ?_)
            · try simp only [decide_eq_true_eq, decide_eq_false_iff_not, Bool.not_eq_true', Bool.not_eq_false', Bool.and_eq_true, Bool.or_eq_true, Bool.and_eq_false_iff, Bool.or_eq_false_iff] at c64
              refine W.seq ?_
              refine W.region ?_
              refine WL.c rfl (o_fa 1 TI69 rfl TI43 rfl h6 ?_)
              refine WL.u (o_stB TI43 rfl (show _ = Value.int .u64 0 from rfl) rfl hC6 (show 1 < 3 by decide) ?_)
              intro w66 hB66 ho66 hs66
              replace hC6 : w66.heap[b6]? = some (.cells (ndV ⟨kd, 0, y.kids⟩).toArray 69 (0, 0)) := hB66
              replace hx := hx.trans' ho66 (fun _ h => h) (fun k hk he => by omega)
              replace how := own_only how ho66 (fun k hk he => by subst he; exact hoff k hk rfl)
              clear hB66 ho66 hs66
              refine WL.nil ?_
              refine W.region ?_
              refine WL.c rfl (o_fa 2 TI69 rfl TI3 rfl h6 ?_)
              refine WL.c rfl (o_ld TI3 rfl rfl (cell_of hC6 rfl) ?_)
              refine WL.c rfl (o_mvh h7 ?_)
              refine WL.c rfl (o_minI rfl rfl ?_)
              refine WL.c rfl (o_maxI rfl rfl ?_)
              refine WL.c rfl (o_call Tryd.call28 (lc rfl (lc rfl (lc rfl ln))) ((rest_spec y.kids 1 (if (1 : Int) < (if (6 : Int) < lf then 6 else lf) then (if (6 : Int) < lf then 6 else lf) else 1) _ (by split <;> split <;> omega) (by decide) (by split <;> split <;> omega)).mono ?_))
              rintro v72 w72 ⟨⟨q2, rfl, hq20, hq2b⟩, rfl⟩
              have hq29 : q2 ≤ 9 := by split at hq2b <;> split at hq2b <;> omega
              refine WL.c rfl (o_fa 2 TI69 rfl TI3 rfl h6 ?_)
              refine WL.u (o_stB TI3 rfl (show _ = Value.int .i64 q2 from rfl) rfl hC6 (show 2 < 3 by decide) ?_)
              intro w73 hB73 ho73 hs73
              replace hC6 : w73.heap[b6]? = some (.cells (ndV ⟨kd, 0, q2⟩).toArray 69 (0, 0)) := hB73
              replace hx := hx.trans' ho73 (fun _ h => h) (fun k hk he => by omega)
              replace how := own_only how ho73 (fun k hk he => by subst he; exact hoff k hk rfl)
              clear hB73 ho73 hs73
              refine WL.nil ?_
              (refine ⟨_, ?_, ?_, ?_, ?_, hC6, h0, h3, h4, h5, h6, how, hx⟩ <;> first | (show _ ≤ (9 : Int); omega) | (show _ < _; omega) | (intro h150; have := hk150 h150; omega) | (simp_all [rightN, numB, leastK, mostK]; done) | (simp_all [rightN, numB, leastK, mostK]; omega))
            · try simp only [decide_eq_true_eq, decide_eq_false_iff_not, Bool.not_eq_true', Bool.not_eq_false', Bool.and_eq_true, Bool.or_eq_true, Bool.and_eq_false_iff, Bool.or_eq_false_iff] at c64
              refine W.seq ?_
              refine W.region ?_
              refine WL.c rfl (o_eq rfl rfl ?_)
              refine WL.c rfl (o_ash (show _ = Value.bool _ from rfl) ?_)
              refine WL.nil ?_
              refine W.cond rfl (fun c74 => ?_) (fun c74 => ?_)
              · try simp only [decide_eq_true_eq, decide_eq_false_iff_not, Bool.not_eq_true', Bool.not_eq_false', Bool.and_eq_true, Bool.or_eq_true, Bool.and_eq_false_iff, Bool.or_eq_false_iff] at c74
                refine W.seq ?_
                refine W.region ?_
                refine WL.c rfl (o_fa 1 TI69 rfl TI43 rfl h6 ?_)
                refine WL.u (o_stB TI43 rfl (show _ = Value.int .u64 0 from rfl) rfl hC6 (show 1 < 3 by decide) ?_)
                intro w76 hB76 ho76 hs76
                replace hC6 : w76.heap[b6]? = some (.cells (ndV ⟨kd, 0, y.kids⟩).toArray 69 (0, 0)) := hB76
                replace hx := hx.trans' ho76 (fun _ h => h) (fun k hk he => by omega)
                replace how := own_only how ho76 (fun k hk he => by subst he; exact hoff k hk rfl)
                clear hB76 ho76 hs76
                refine WL.nil ?_
                refine W.region ?_
                refine WL.c rfl (o_fa 2 TI69 rfl TI3 rfl h6 ?_)
                refine WL.c rfl (o_ld TI3 rfl rfl (cell_of hC6 rfl) ?_)
                refine WL.c rfl (o_call Tryd.call28 (lc rfl (lc rfl (lc rfl ln))) ((rest_spec y.kids 0 1 _ (by decide) (by decide) (by decide)).mono ?_))
                rintro v79 w79 ⟨⟨q2, rfl, hq20, hq2b⟩, rfl⟩
                refine WL.c rfl (o_fa 2 TI69 rfl TI3 rfl h6 ?_)
                refine WL.u (o_stB TI3 rfl (show _ = Value.int .i64 q2 from rfl) rfl hC6 (show 2 < 3 by decide) ?_)
                intro w80 hB80 ho80 hs80
                replace hC6 : w80.heap[b6]? = some (.cells (ndV ⟨kd, 0, q2⟩).toArray 69 (0, 0)) := hB80
                replace hx := hx.trans' ho80 (fun _ h => h) (fun k hk he => by omega)
                replace how := own_only how ho80 (fun k hk he => by subst he; exact hoff k hk rfl)
                clear hB80 ho80 hs80
                refine WL.nil ?_
                (refine ⟨_, ?_, ?_, ?_, ?_, hC6, h0, h3, h4, h5, h6, how, hx⟩ <;> first | (show _ ≤ (9 : Int); omega) | (show _ < _; omega) | (intro h150; have := hk150 h150; omega) | (simp_all [rightN, numB, leastK, mostK]; done) | (simp_all [rightN, numB, leastK, mostK]; omega))
              · try simp only [decide_eq_true_eq, decide_eq_false_iff_not, Bool.not_eq_true', Bool.not_eq_false', Bool.and_eq_true, Bool.or_eq_true, Bool.and_eq_false_iff, Bool.or_eq_false_iff] at c74
                refine W.seq ?_
                refine W.region ?_
                refine WL.c rfl (o_eq rfl rfl ?_)
                refine WL.c rfl (o_ash (show _ = Value.bool _ from rfl) ?_)
                refine WL.nil ?_
                refine W.cond rfl (fun c81 => ?_) (fun c81 => ?_)
                · try simp only [decide_eq_true_eq, decide_eq_false_iff_not, Bool.not_eq_true', Bool.not_eq_false', Bool.and_eq_true, Bool.or_eq_true, Bool.and_eq_false_iff, Bool.or_eq_false_iff] at c81
                  refine W.seq ?_
                  refine W.region ?_
                  refine WL.c rfl (o_fa 1 TI69 rfl TI43 rfl h6 ?_)
                  refine WL.c rfl (o_ld TI43 rfl rfl (cell_of hC6 rfl) ?_)
                  refine WL.c rfl (n_rem (b := 256) rfl rfl (by decide) ?_)
                  refine WL.c rfl (o_fa 1 TI69 rfl TI43 rfl h6 ?_)
                  refine WL.u (o_stB TI43 rfl (show _ = Value.int .u64 ((y.n % 256 : Nat) : Int) from rfl) rfl hC6 (show 1 < 3 by decide) ?_)
                  intro w86 hB86 ho86 hs86
                  replace hC6 : w86.heap[b6]? = some (.cells (ndV ⟨kd, y.n % 256, y.kids⟩).toArray 69 (0, 0)) := hB86
                  replace hx := hx.trans' ho86 (fun _ h => h) (fun k hk he => by omega)
                  replace how := own_only how ho86 (fun k hk he => by subst he; exact hoff k hk rfl)
                  clear hB86 ho86 hs86
                  refine WL.nil ?_
                  refine W.region ?_
                  refine WL.c rfl (o_fa 2 TI69 rfl TI3 rfl h6 ?_)
                  refine WL.u (o_stB TI3 rfl (show _ = Value.int .i64 1 from rfl) rfl hC6 (show 2 < 3 by decide) ?_)
                  intro w87 hB87 ho87 hs87
                  replace hC6 : w87.heap[b6]? = some (.cells (ndV ⟨kd, y.n % 256, 1⟩).toArray 69 (0, 0)) := hB87
                  replace hx := hx.trans' ho87 (fun _ h => h) (fun k hk he => by omega)
                  replace how := own_only how ho87 (fun k hk he => by subst he; exact hoff k hk rfl)
                  clear hB87 ho87 hs87
                  refine WL.nil ?_
                  (refine ⟨_, ?_, ?_, ?_, ?_, hC6, h0, h3, h4, h5, h6, how, hx⟩ <;> first | (show _ ≤ (9 : Int); omega) | (show _ < _; omega) | (intro h150; have := hk150 h150; omega) | (simp_all [rightN, numB, leastK, mostK]; done) | (simp_all [rightN, numB, leastK, mostK]; omega))
                · try simp only [decide_eq_true_eq, decide_eq_false_iff_not, Bool.not_eq_true', Bool.not_eq_false', Bool.and_eq_true, Bool.or_eq_true, Bool.and_eq_false_iff, Bool.or_eq_false_iff] at c81
                  exfalso; omega
    rintro e w ⟨x, hrt, hk0, hk9, hxn, hC6, h0, h3, h4, h5, h6, how, hx⟩
    refine W.seq ?_
    refine W.region ?_
    refine WL.c rfl (o_mvh h3 ?_)
    refine WL.c rfl (o_ldA TI69 rfl h6 (show Cells _ b6 0 (ndV x) from Cells.of hC6 0 _ (by simp)) rfl ?_)
    refine WL.ap1 (w0.heap.size) rfl rfl TI30 TI69 (show _ = Value.agg (ndV x).toArray from rfl) rfl how (by decide) (by decide) rfl (fun a ha => by simp [Value.cells, ndV] at ha; rcases ha with rfl | rfl | rfl <;> rfl) rfl (by rw [maxLen_eq]; omega) (by omega) hx.size ?_
    intro v91 w91 hown ho
    replace hC6 := ho.blk hC6 (fun hk => hoff _ hk rfl)
    replace hx := hx.trans' ho (fun _ h => h) (fun b hb he => by have := (how.lt b he).1; omega)
    replace hown : w91.ownsRow w0.heap.size 69 3 v91 (L ++ [x]).length (nds (L ++ [x])) := by rw [nds_snoc, List.length_append]; exact hown
    clear how
    have how := hown
    clear hown ho
    refine WL.c rfl (o_ash (by first | exact (show _ = Value.slice _ _ _ from rfl) | exact rfl) ?_)
    refine WL.nil ?_
    refine W.region ?_
    refine WL.c rfl (o_mvh h4 ?_)
    refine WL.c rfl (o_subi rfl rfl (by omega) ?_)
    refine WL.c rfl (o_fa 2 TI69 rfl TI3 rfl h6 ?_)
    refine WL.c rfl (o_ld TI3 rfl rfl (cell_of hC6 rfl) ?_)
    refine WL.c rfl (o_addi rfl rfl (by have := (right_kids hrt).1; omega) ?_)
    refine WL.c rfl (o_ash (show _ = Value.int _ _ from rfl) ?_)
    refine WL.nil ?_
    refine W.region ?_
    refine WL.c rfl (o_mvh h5 ?_)
    refine WL.c rfl (o_addi rfl rfl (by omega) ?_)
    refine WL.c rfl (o_ash (show _ = Value.int _ _ from rfl) ?_)
    refine WL.nil ?_
    have hLs : (L ++ [x]).length = L.length + 1 := by simp
    refine ⟨⟨L ++ [x], wt + (x.kids - 1), _, h0, rfl, by show Value.int _ _ = _; congr 1; omega, by rw [hLs]; rfl, by have := (right_kids hrt).1; omega, by rw [hLs]; by_cases h150 : 150 ≤ L.length; have := hk0 h150; omega; omega, chk_snoc hchk hrt (by omega), fun y hy => by
      rcases List.mem_append.1 hy with hy | hy
      · exact hNL y hy
      · rw [List.mem_singleton.1 hy]; exact hxn, how, hx⟩, ?_⟩
    show 1352 - ((L.length : Int) + 1).toNat < _
    rw [hm5]; simp [intOf]; omega
  · try simp only [decide_eq_true_eq, decide_eq_false_iff_not, Bool.not_eq_true', Bool.not_eq_false', Bool.and_eq_true, Bool.or_eq_true, Bool.and_eq_false_iff, Bool.or_eq_false_iff] at c9
    have hwz : wt = 0 := by omega
    subst hwz
    have hc0 := hchk []
    rw [List.append_nil, chkG, if_neg (by decide)] at hc0
    obtain ⟨t, ht, htl⟩ := chk_ok.1 (show (chkV L).1 = 0 by rw [hc0])
    refine W.exit ?_
    refine W.seq ?_
    refine W.region ?_
    refine WL.c rfl (o_mvh h3 ?_)
    refine WL.c rfl (o_ash (by first | exact (show _ = Value.slice _ _ _ from rfl) | exact rfl) ?_)
    refine WL.nil ?_
    refine W.ret ?_
    refine ret1v rfl rfl ?_
    exact ⟨t, ht, by rw [htl]; exact hNL, by rw [htl]; exact hLl, by rw [htl]; exact how, hx⟩
end Go.Proofs.YtgmjfcekeglhjaaDoor

set_option linter.unusedSimpArgs false
set_option linter.unusedVariables false
namespace Go.Vc
open Go Go.RowKit Go.ChangeShapes Go.WideShapes

theorem addr_add (a : Addr) (m k : Nat) : (a.add m).add k = a.add (m + k) := by
  unfold Addr.add
  by_cases hm : m = 0 <;> by_cases hk : k = 0 <;> simp [hm, hk, Nat.add_assoc]

theorem list_of {α : Type} (p : Nat → α → Prop) : ∀ n, (∀ i, i < n → ∃ o, p i o) → ∃ os : List α, os.length = n ∧ ∀ i (h : i < os.length), p i os[i]
  | 0, _ => ⟨[], rfl, fun i h => by simp at h⟩
  | n + 1, h => by
    obtain ⟨os, h1, h2⟩ := list_of p n (fun i hi => h i (by omega))
    obtain ⟨o, ho⟩ := h n (by omega)
    refine ⟨os ++ [o], by simp [h1], fun i hi => ?_⟩
    by_cases e : i < os.length
    · rw [List.getElem_append_left e]; exact h2 i e
    · simp at hi
      have e2 : i = n := by omega
      subst e2
      rw [List.getElem_append_right (by omega)]
      simpa [h1] using ho
theorem flatMap_get {α : Type} {cells : α → List Value} {s : Nat} (hlen : ∀ o, (cells o).length = s) : ∀ (os : List α) (idx : Nat) (v : Value), (os.flatMap cells)[idx]? = some v → ∃ i j, ∃ h : i < os.length, idx = i * s + j ∧ (cells os[i])[j]? = some v
  | [], idx, v, h => by simp at h
  | o :: os, idx, v, h => by
    rw [List.flatMap_cons] at h
    by_cases e : idx < s
    · rw [List.getElem?_append_left (by rw [hlen]; exact e)] at h
      exact ⟨0, idx, by simp, by omega, h⟩
    · rw [List.getElem?_append_right (by rw [hlen]; omega), hlen] at h
      obtain ⟨i, j, hi, h1, h2⟩ := flatMap_get hlen os (idx - s) v h
      refine ⟨i + 1, j, by simp; omega, ?_, by simpa using h2⟩
      rw [Nat.add_mul]; omega
/-- its weights are within reach -/
def Small {H : Type} (P : Program) (t : TypeId) (d : DataW H) : Prop := ∀ n ∈ d.weights P t, n ≤ reachBytes
theorem Small.size {H : Type} {P : Program} {t e : TypeId} {elems spare : List (DataW H)} (h : Small P t (.slice elems spare)) (hu : P.underlying t = some (.slice e)) : (elems.length + spare.length) * P.bytesOf e ≤ reachBytes :=
  h _ (by simp only [DataW.weights, hu]; exact List.mem_cons_self ..)
theorem Small.part {H : Type} {P : Program} {t u : TypeId} {fs : Array Field} {parts : List (DataW H)} {i : Nat} {d : DataW H} (h : Small P t (.agg parts)) (hu : P.underlying t = some (.struct fs)) (hf : (fs.toList.map (·.type))[i]? = some u) (hd : parts[i]? = some d) : Small P u d := fun n hn =>
  h n (by simp only [DataW.weights, hu]; exact DataW.weights_mem_each hf hd n hn)
section
variable {H : Type} {enc : TypeId × Value → H} {P : Program} {W : World} {held : Bool}
theorem open_struct_len {t : TypeId} {fs : Array Field} {s : Nat} (hu : P.underlying t = some (.struct fs)) (hs : P.cellsOf t = s) {fuel : Nat} {cs : List Value} {x : DataW H × List MemPlace} (h : DataW.trod enc P W 0 (fun _ => true) held fuel t cs = some x) : cs.length = s := by
  obtain ⟨xs, n, -, -, h1, -⟩ := DataW.trod_struct hu h
  rw [h1, hs]
end
end Go.Vc

set_option linter.unusedSimpArgs false
set_option linter.unusedVariables false
set_option maxRecDepth 100000
namespace Go.Proofs.YtgmjfcekeglhjaaDoor
open Go Go.Vc Go.RowKit Go.Proofs

section
variable {H : Type} {enc : TypeId × Value → H} {P : Program} {W : World} {held : Bool}
/-- a slice of what is opened by 'hc', of any size -/
theorem open_rowsN {α : Type} {t e : TypeId} (s : Nat) (cells : α → List Value) (p : α → Prop) (hu : P.underlying t = some (.slice e)) (hs : P.cellsOf e = s) (hs0 : 0 < s) (hlen : ∀ o, (cells o).length = s)
    (hc : ∀ (n : Nat) (cs : List Value) (y : DataW H × List MemPlace), DataW.trod enc P W 0 (fun _ => true) held n e cs = some y → ∃ o, cs = cells o ∧ p o)
    {fuel : Nat} {v : Value} {x : DataW H × List MemPlace} (h : DataW.trod enc P W 0 (fun _ => true) held fuel t [v] = some x) :
    ∃ os : List α, os.length ≤ maxLen ∧ Sl W s v os.length (os.flatMap cells) ∧ ∀ o ∈ os, p o := by
  rcases DataW.trod_slice hu h with ⟨hcs, hd⟩ | ⟨a, len, cap, elems, rest, n, -, hcs, hx, -, hl, hm, hle, hel, -, -⟩
  · simp only [List.cons.injEq, and_true] at hcs
    subst hcs
    exact ⟨[], Nat.zero_le _, Sl.nil W s, fun o h => by cases h⟩
  · simp only [List.cons.injEq, and_true] at hcs
    subst hcs
    subst hx
    have key : ∀ i, i < len → ∃ o : α, (∀ j v, (cells o)[j]? = some v → W.cell? (a.add (i * s + j)) = some v) ∧ p o := by
      intro i hi
      have he := hel i hi
      rw [List.getElem?_eq_getElem (by omega), hs, Option.bind_eq_some_iff] at he
      obtain ⟨cs, h1, h2⟩ := he
      obtain ⟨-, h4, h5⟩ := World.cells?_some h1
      obtain ⟨o, ho, hp⟩ := hc n cs _ h2
      subst ho
      refine ⟨o, fun j v hj => ?_, hp⟩
      have hjs : j < s := by have := (List.getElem?_eq_some_iff.1 hj).1; rw [hlen] at this; exact this
      have := h5 j hjs
      rw [← hj, ← this, addr_add]
    obtain ⟨os, ho1, ho2⟩ := list_of _ len key
    refine ⟨os, by omega, ⟨?_, ?_⟩, fun o ho => ?_⟩
    · clear ho2 ho1
      induction os with
      | nil => simp
      | cons o os ih => rw [List.flatMap_cons, List.length_append, hlen, ih, List.length_cons, Nat.add_mul]; omega
    · by_cases h0 : len = 0
      · subst h0; exact .inl ⟨ho1, _, _, rfl⟩
      · obtain ⟨b, off, spot⟩ := a
        have h00 := (ho2 0 (by omega)).1 0 ((cells (os[0]'(by omega)))[0]'(by rw [hlen]; exact hs0)) (List.getElem?_eq_getElem _)
        have hsp : spot = none := by simpa [Addr.add] using World.cell?_spot h00
        subst hsp
        refine .inr ⟨b, off, cap, by rw [ho1], by omega, fun idx u hu => ?_⟩
        obtain ⟨i, j, hi, h1, h2⟩ := flatMap_get hlen os idx u hu
        have h3 := (ho2 i hi).1 j u h2
        rw [h1, ← h3, add_none]
    · obtain ⟨i, hi, rfl⟩ := List.getElem_of_mem ho
      exact (ho2 i hi).2
theorem open_fieldN {t u : TypeId} {fs : Array Field} {f : Field} (i off s : Nat) (hu : P.underlying t = some (.struct fs)) (hf : fs[i]? = some f) (ht : f.type = u) (ho : f.offset = off) (hs : P.cellsOf u = s) {fuel : Nat} {cs : List Value} {x : DataW H × List MemPlace}
    (h : DataW.trod enc P W 0 (fun _ => true) held fuel t cs = some x) : ∃ n y, DataW.trod enc P W 0 (fun _ => true) held n u ((cs.drop off).take s) = some y := by
  subst ht ho hs
  obtain ⟨xs, n, -, hx, -, hl, hall⟩ := DataW.trod_struct hu h
  have hi : i < fs.size := (Array.getElem?_eq_some_iff.1 hf).1
  have h1 := hall i f hf
  rw [List.getElem?_eq_getElem (by omega)] at h1
  exact ⟨n, _, h1⟩
theorem three_cells {cs : List Value} (h : cs.length = 3) : ∃ a b c, cs = [a, b, c] := by
  match cs, h with
  | [a, b, c], _ => exact ⟨a, b, c, rfl⟩
theorem open_node {n : Nat} {cs : List Value} {y : DataW H × List MemPlace} (h : DataW.trod enc Tryd.prog W 0 (fun _ => true) held n 69 cs = some y) : ∃ x : Nd, cs = ndV x ∧ x.n < 18446744073709551616 := by
  have hl := open_struct_len (s := 3) Tryd.underlying69 (by kernel_rfl) h
  obtain ⟨a, b, c, rfl⟩ := three_cells hl
  obtain ⟨n0, y0, h0⟩ := open_fieldN 0 0 1 Tryd.underlying69 rfl rfl rfl (by kernel_rfl) h
  obtain ⟨n1, y1, h1⟩ := open_fieldN 1 1 1 Tryd.underlying69 rfl rfl rfl (by kernel_rfl) h
  obtain ⟨n2, y2, h2⟩ := open_fieldN 2 2 1 Tryd.underlying69 rfl rfl rfl (by kernel_rfl) h
  obtain ⟨k, hk, -, -⟩ := DataW.trod_int Tryd.underlying3 h0
  obtain ⟨m, hm, -, wm⟩ := DataW.trod_int Tryd.underlying43 h1
  obtain ⟨q, hq, -, -⟩ := DataW.trod_int Tryd.underlying3 h2
  simp only [List.drop_zero, List.drop_succ_cons, List.take_succ_cons, List.take_zero, List.cons.injEq, and_true] at hk hm hq
  simp [Lit.wf, IntKind.min, IntKind.max, IntKind.signed, IntKind.bits] at wm
  refine ⟨⟨k, m.toNat, q⟩, ?_, by show m.toNat < _; omega⟩
  rw [hk, hm, hq]
  have : m = ((m.toNat : Nat) : Int) := by omega
  rw [this]
  rfl
theorem open_nodes {fuel : Nat} {v : Value} {x : DataW H × List MemPlace} (h : DataW.trod enc Tryd.prog W 0 (fun _ => true) held fuel 30 [v] = some x) : ∃ R : List Nd, Sl W 3 v R.length (nds R) ∧ R.length ≤ 9223372036854775807 ∧ NOk R := by
  obtain ⟨R, h1, h2, h3⟩ := open_rowsN 3 ndV (fun x => x.n < 18446744073709551616) Tryd.underlying30 (by kernel_rfl) (by decide) (fun _ => rfl) (fun n cs y hy => open_node hy) h
  exact ⟨R, h2, by rw [maxLen_eq] at h1; omega, h3⟩
end

end Go.Proofs.YtgmjfcekeglhjaaDoor

set_option linter.unusedSimpArgs false
set_option linter.unusedVariables false
set_option maxRecDepth 100000
namespace Go.Proofs.YtgmjfcekeglhjaaDoor
open Go Go.Vc Go.RowKit Go.Proofs

def runS : Md → List Zf → List UInt8 → Option (Md × List Zf)
  | m, K, [] => some (m, K)
  | m, K, c :: l => match stepZ m K c with | some s => runS s.1 s.2 l | none => none
theorem prs_run : ∀ (l1 l2 : List UInt8) (m : Md) (K : List Zf) (i : Nat) (s : Md × List Zf), runS m K l1 = some s → prsZ m K (l1 ++ l2) i = prsZ s.1 s.2 l2 (i + l1.length)
  | [], l2, m, K, i, s, h => by
    simp only [runS, Option.some.injEq] at h
    subst h
    rfl
  | c :: l, l2, m, K, i, s, h => by
    rw [runS] at h
    cases hs : stepZ m K c with
    | none => rw [hs] at h; cases h
    | some x =>
      rw [hs] at h
      rw [List.cons_append, prs_step (m' := x.1) (K' := x.2) (by rw [hs]), prs_run l l2 x.1 x.2 (i + 1) s h, List.length_cons, show i + 1 + l.length = i + (l.length + 1) by omega]
/-- where it dies, with anything behind -/
theorem prs_dies : ∀ (l1 : List UInt8) (m : Md) (K : List Zf) (i : Nat), runS m K l1 = none → ∃ j, j < l1.length ∧ ∀ l2, prsZ m K (l1 ++ l2) i = (none, i + j)
  | [], m, K, i, h => by cases h
  | c :: l, m, K, i, h => by
    rw [runS] at h
    cases hs : stepZ m K c with
    | none => exact ⟨0, Nat.succ_pos _, fun l2 => by rw [List.cons_append, prs_none hs]; rfl⟩
    | some x =>
      rw [hs] at h
      obtain ⟨j, hj, h1⟩ := prs_dies l x.1 x.2 (i + 1) h
      exact ⟨j + 1, Nat.succ_lt_succ hj, fun l2 => by rw [List.cons_append, prs_step (m' := x.1) (K' := x.2) (by rw [hs]), h1, show i + 1 + j = i + (j + 1) by omega]⟩
theorem run_none : ∀ (l : List UInt8) (m : Md) (K : List Zf) (i p : Nat), prsZ m K l i = (none, p) → ∃ j s, p = i + j ∧ j ≤ l.length ∧ runS m K (l.take j) = some s
  | [], m, K, i, p, h => by
    rw [prsZ] at h
    cases hf : finZ m K with
    | some t => rw [hf] at h; cases h
    | none =>
      rw [hf] at h
      simp only [Prod.mk.injEq, true_and] at h
      exact ⟨0, (m, K), by omega, Nat.le_refl _, rfl⟩
  | c :: l, m, K, i, p, h => by
    cases hs : stepZ m K c with
    | none =>
      rw [prs_none hs] at h
      simp only [Prod.mk.injEq, true_and] at h
      exact ⟨0, (m, K), by omega, Nat.zero_le _, rfl⟩
    | some x =>
      rw [prs_step (m' := x.1) (K' := x.2) (by rw [hs])] at h
      obtain ⟨j, s, h1, h2, h3⟩ := run_none l x.1 x.2 (i + 1) p h
      exact ⟨j + 1, s, by omega, Nat.succ_le_succ h2, by rw [List.take_succ_cons, runS, hs]; exact h3⟩
theorem run_some {T : List UInt8} {t : Vt} {p : Nat} {m : Md} {K : List Zf} {i : Nat} (h : prsZ m K T i = (some t, p)) : ∃ s, runS m K T = some s ∧ finZ s.1 s.2 = some t ∧ p = 0 := by
  cases hr : runS m K T with
  | none =>
    obtain ⟨j, -, h1⟩ := prs_dies T m K i hr
    have := h1 []
    rw [List.append_nil, h] at this
    cases this
  | some s =>
    have h1 := prs_run T [] m K i s hr
    rw [List.append_nil, h] at h1
    refine ⟨s, rfl, ?_⟩
    rw [prsZ] at h1
    cases hf : finZ s.1 s.2 with
    | none => rw [hf] at h1; cases h1
    | some u =>
      rw [hf] at h1
      simp only [Prod.mk.injEq, Option.some.injEq] at h1
      exact ⟨by rw [h1.1], h1.2⟩
theorem run_take : ∀ (l : List UInt8) (m : Md) (K : List Zf) (k : Nat) (s : Md × List Zf), runS m K l = some s → ∃ s2, runS m K (l.take k) = some s2
  | [], m, K, k, s, h => ⟨s, by rw [List.take_nil]; exact h⟩
  | c :: l, m, K, 0, s, h => ⟨(m, K), rfl⟩
  | c :: l, m, K, k + 1, s, h => by
    rw [runS] at h
    cases hs : stepZ m K c with
    | none => rw [hs] at h; cases h
    | some x =>
      rw [hs] at h
      obtain ⟨s2, h2⟩ := run_take l x.1 x.2 k s h
      exact ⟨s2, by rw [List.take_succ_cons, runS, hs]; exact h2⟩
/-- a front that can go on: the place is its end -/
theorem par_front {T : List UInt8} {s : Md × List Zf} (h : runS .bgn [] T = some s) : (∃ t, parZ T = (some t, 0)) ∨ parZ T = (none, T.length) := by
  have h1 := prs_run T [] .bgn [] 0 s h
  rw [List.append_nil, Nat.zero_add] at h1
  rw [parZ, h1, prsZ]
  cases finZ s.1 s.2 with
  | none => exact .inr rfl
  | some t => exact .inl ⟨t, rfl⟩
theorem par_cut {t : Vt} (h : tOk t) (k : Nat) : (∃ u, parZ (t.txt.take k) = (some u, 0)) ∨ parZ (t.txt.take k) = (none, min k t.txt.length) := by
  obtain ⟨s, hs, -⟩ := run_some (par_txt h)
  obtain ⟨s2, h2⟩ := run_take t.txt .bgn [] k s hs
  have := par_front h2
  rw [List.length_take] at this
  exact this
/-- a text that begins like a value's: the place is not ahead of there; up to the place it can go on -/
theorem par_spoilt {t : Vt} (h : tOk t) {T : List UInt8} {k : Nat} (hk : k ≤ T.length) (he : T.take k = t.txt.take k) {p : Nat} (hp : parZ T = (none, p)) :
    k ≤ p ∧ p ≤ T.length ∧ ((∃ u, parZ (T.take p) = (some u, 0)) ∨ parZ (T.take p) = (none, p)) := by
  obtain ⟨s, hs, -⟩ := run_some (par_txt h)
  obtain ⟨s2, h2⟩ := run_take t.txt .bgn [] k s hs
  rw [← he] at h2
  obtain ⟨j, s3, h3, h4, h5⟩ := run_none T .bgn [] 0 p hp
  obtain rfl : p = j := by omega
  refine ⟨?_, h4, ?_⟩
  · have h6 := prs_run (T.take k) (T.drop k) .bgn [] 0 s2 h2
    rw [List.take_append_drop, List.length_take, Nat.min_eq_left hk, Nat.zero_add] at h6
    have h7 : prsZ s2.1 s2.2 (T.drop k) k = (none, p) := by rw [← h6]; exact hp
    obtain ⟨q, -, h8, -⟩ := run_none _ _ _ _ _ h7
    omega
  · have := par_front h5
    rw [List.length_take, Nat.min_eq_left h4] at this
    exact this
end Go.Proofs.YtgmjfcekeglhjaaDoor

set_option linter.unusedSimpArgs false
set_option linter.unusedVariables false
set_option maxRecDepth 100000
namespace Go.Proofs.YtgmjfcekeglhjaaDoor
open Go Go.Vc Go.RowKit Go.Proofs

mutual
theorem txt_len : ∀ (t : Vt), NOk t.flat → t.txt.length + 2 ≤ 27 * t.flat.length
  | .node x ks, h => by
    have h1 := leafT_le (h x (by simp [Vt.flat]))
    have h2 := shutT_le x.kind
    have h3 := txts_len ks false (fun y hy => h y (by simp [Vt.flat, hy]))
    rw [Vt.txt, Vt.flat, List.length_append, List.length_append, List.length_cons]
    omega
theorem txts_len : ∀ (ts : Vts) (d : Bool), NOk ts.flat → (ts.txtS d).length ≤ 27 * ts.flat.length
  | .nil, d, _ => Nat.zero_le _
  | .cons t ts, d, h => by
    have h1 := txt_len t (fun y hy => h y (by simp [Vts.flat, hy]))
    have h2 := txts_len ts true (fun y hy => h y (by simp [Vts.flat, hy]))
    have h3 : (if d then [44, 32] else [] : List UInt8).length ≤ 2 := by split <;> simp
    rw [Vts.txtS, Vts.flat, List.length_append, List.length_append, List.length_append]
    omega
end
theorem parse_cases {T : List UInt8} {r : Value} {w w' : World} (hT : T.length ≤ 1048576) (h : Ext w w' ∧ (1048576 < T.length → r = .tuple #[.slice none 0 0, .agg #[.int .i64 4, .int .i64 0]]) ∧ (T.length ≤ 1048576 → ((parZ T).1 = none → r = .tuple #[.slice none 0 0, .agg #[.int .i64 41, .int .i64 ((parZ T).2 : Int)]] ∧ (parZ T).2 ≤ T.length) ∧ ∀ u, (parZ T).1 = some u → u.flat.length ≤ T.length ∧ ∃ nv, r = .tuple #[nv, .agg #[.int .i64 0, .int .i64 0]] ∧ w'.ownsRow w.heap.size 69 3 nv u.flat.length (nds u.flat))) :
    Ext w w' ∧ ∃ (er p : Int) (yv : Value) (ul : List Nd), r = .tuple #[yv, .agg #[.int .i64 er, .int .i64 p]] ∧ w'.ownsRow w.heap.size 69 3 yv ul.length (nds ul) ∧ ul.length ≤ T.length ∧
      ((parZ T = (none, p.toNat) ∧ er = 41 ∧ 0 ≤ p ∧ p ≤ T.length ∧ ul = []) ∨ (er = 0 ∧ p = 0 ∧ ∃ u, parZ T = (some u, 0) ∧ tOk u ∧ u.txt = T ∧ u.flat = ul)) := by
  obtain ⟨hx, -, h2⟩ := h
  obtain ⟨h3, h4⟩ := h2 hT
  refine ⟨hx, ?_⟩
  cases hp : (parZ T).1 with
  | none =>
    obtain ⟨rfl, h5⟩ := h3 hp
    exact ⟨41, ((parZ T).2 : Int), _, [], rfl, World.ownsRow_nil _ _ _ _, Nat.zero_le _, .inl ⟨by rw [Int.toNat_natCast, ← hp], rfl, by omega, by omega, rfl⟩⟩
  | some u =>
    obtain ⟨h5, nv, rfl, h6⟩ := h4 u hp
    obtain ⟨h7, h8, h9⟩ := par_sound hp
    exact ⟨0, 0, nv, u.flat, rfl, h6, h5, .inr ⟨rfl, rfl, u, by rw [← h9, ← hp], h7, h8, rfl⟩⟩
end Go.Proofs.YtgmjfcekeglhjaaDoor

set_option linter.unusedSimpArgs false
set_option linter.unusedVariables false
set_option maxRecDepth 100000
namespace Go.Proofs.YtgmjfcekeglhjaaDoor
open Go Go.Vc Go.RowKit Go.Proofs

/-- a row of bytes that a string was turned into -/
def ByR (w : World) (g : Nat) (xs : List UInt8) : Prop := ∃ (pad : List Value) (fr : Nat × Nat), w.heap[g]? = some (.cells (xs.map bv ++ pad).toArray 5 fr) ∧ xs.length ≤ fr.1
theorem ByR.only {w w' : World} {F : Nat → Prop} {g : Nat} {xs : List UInt8} (h : ByR w g xs) (ho : Only F w w') (hF : ¬ F g) : ByR w' g xs := by
  obtain ⟨pad, fr, h1, h2⟩ := h
  exact ⟨pad, fr, ho.blk h1 hF, h2⟩
theorem ByR.ext {w w' : World} {g : Nat} {xs : List UInt8} (h : ByR w g xs) (ho : Ext w w') : ByR w' g xs := h.only ho (fun h => h)
theorem ByR.front {w : World} {g cap : Nat} {xs : List UInt8} (h : ByR w g xs) (hc : xs.length ≤ cap) {k : Nat} (hk : k ≤ xs.length) : Sl w 1 (.slice (some ⟨g, 0, none⟩) k cap) k ((xs.take k).map bv) := by
  obtain ⟨pad, fr, h1, h2⟩ := h
  refine ⟨by rw [List.length_map, List.length_take]; omega, .inr ⟨g, 0, cap, rfl, by omega, Cells.of h1 0 _ (fun i v hi => ?_)⟩⟩
  have hi2 := (List.getElem?_eq_some_iff.1 hi).1
  rw [List.length_map, List.length_take] at hi2
  rw [List.getElem?_map, List.getElem?_take_of_lt (by omega)] at hi
  rw [Nat.zero_add, List.getElem?_toArray, List.getElem?_append_left (by rw [List.length_map]; omega), List.getElem?_map]
  exact hi
theorem ByR.sl {w : World} {g cap : Nat} {xs : List UInt8} (h : ByR w g xs) (hc : xs.length ≤ cap) : Sl w 1 (.slice (some ⟨g, 0, none⟩) xs.length cap) xs.length (xs.map bv) := by
  have := h.front hc (Nat.le_refl _)
  rwa [List.take_length] at this
theorem ByR.sl2 {w : World} {g cap n : Nat} {xs : List UInt8} (h : ByR w g xs) (hl : xs.length = n) (hc : n ≤ cap) : Sl w 1 (.slice (some ⟨g, 0, none⟩) n cap) n (xs.map bv) := by
  subst hl
  exact h.sl hc
theorem o_cvSB {P : Program} {e : Env} {w : World} {K : Value → World → Prop} {ty : TypeId} {x : Operand} {t el u : TypeId} {s bs s' bs' s2 bs2 : Nat} {z z' z2 : Value} {xs : List UInt8} (ht : Ty P t .string s bs z) (hu : Ty P u (.slice el) s2 bs2 z2) (hel : Ty P el (.int .u8) s' bs' z') (hx : ev e x = st xs)
    (k : ∀ w' cap, (∃ (pad : List Value) (fr : Nat × Nat), w'.heap[w.heap.size]? = some (.cells (xs.map bv ++ pad).toArray el fr) ∧ xs.length ≤ fr.1) → Ext w w' → xs.length ≤ cap → K (.slice (some ⟨w.heap.size, 0, none⟩) xs.length cap) w') : OP P e (.convert t u x) ty w K := by
  have h := Lib.run_convert_string_bytes (P := P) w t u el ⟨xs.toArray⟩ ht.und hu.und hel.und
  have hsz : (⟨xs.toArray⟩ : ByteArray).size = xs.length := by simp [ByteArray.size]
  have h' : (convert t u (st xs)).run P w = .ok (.slice (some ⟨w.heap.size, 0, none⟩) xs.length (grownCap w xs.length 0 el)) (Lib.bytesWorld w el ⟨xs.toArray⟩) := by
    rw [hsz] at h
    exact h
  refine OP.of (v := .slice (some ⟨w.heap.size, 0, none⟩) xs.length (grownCap w xs.length 0 el)) (w' := Lib.bytesWorld w el ⟨xs.toArray⟩) (by simp [execOp, hx, h']) (k _ _ ⟨List.replicate (grownCap w xs.length 0 el - xs.length) (.int .u8 0), ((Lib.bytesCells w el ⟨xs.toArray⟩).size, (Lib.bytesCells w el ⟨xs.toArray⟩).size + 1), ?_, ?_⟩ ?_ (grownCap_ge w xs.length 0 el))
  · rw [Lib.bytesWorld_at_new]
    congr 2
    simp only [Lib.bytesCells, hsz]
    apply Array.ext'
    simp
    intro a _
    rfl
  · show xs.length ≤ (Lib.bytesCells w el ⟨xs.toArray⟩).size
    simp [Lib.bytesCells]
  · refine ⟨?_, ?_, ?_, by rw [Lib.bytesWorld_size]; exact Nat.le_succ _, fun k hk _ => Lib.bytesWorld_at_old w el _ k hk⟩
    all_goals (unfold Lib.bytesWorld World.freeze; split <;> rfl)
/-- a byte written -/
theorem o_stY {P : Program} {e : Env} {w : World} {K : Value → World → Prop} {ty : TypeId} {x y : Operand} {t : TypeId} {dd : TypeDesc} {bs g o i : Nat} {z v : Value} {c : UInt8} {xs : List UInt8} (ht : Ty P t dd 1 bs z) (hx : ev e x = .pointer (some ⟨g, o, none⟩)) (hoi : o = i) (hy : ev e y = v) (hv : v = bv c) (hB : ByR w g xs) (hi : i < xs.length)
    (k : ∀ w', ByR w' g (xs.set i c) → Only (fun k => k = g) w w' → w'.heap.size = w.heap.size → K undef w') : OP P e (.store t x y) ty w K := by
  subst hoi hv
  obtain ⟨pad, fr, h1, h2⟩ := hB
  refine o_st ht hx hy rfl (cell_of h1 (v := bv xs[o]) ?_) ?_ (k _ ⟨pad, fr, ?_, by rw [List.length_set]; exact h2⟩ (Only.setCell w ⟨g, o, none⟩ (bv c)) (by simp [World.setCell]))
  · rw [List.getElem?_toArray, List.getElem?_append_left (by rw [List.length_map]; exact hi), List.getElem?_map, List.getElem?_eq_getElem hi]
    rfl
  · simp only [World.frozen?, h1]
    simp
    omega
  · have hg : g < w.heap.size := (Array.getElem?_eq_some_iff.1 h1).1
    simp only [World.setCell, Array.getElem?_modify, if_pos, h1, Option.map_some]
    congr 2
    apply Array.ext'
    simp
    rw [List.set_append_left _ _ (by rw [List.length_map]; exact hi)]
theorem txt_pos {t : Vt} (h : tOk t) : 0 < t.txt.length := by
  cases t with
  | node x ks =>
    obtain ⟨c, l, h1, -⟩ := leaf_head h.1.1 (h.2 x (by simp [Vt.flat]))
    rw [Vt.txt, h1]
    simp

set_option maxHeartbeats 16000000 in
theorem vplaces_walk (w0 : World) (v : Value) (R : List Nd) (hS : Sl w0 3 v R.length (nds R)) (hR : R.length ≤ 9223372036854775807) (hN : NOk R) (at_ : Int) (_hb : -9223372036854775808 ≤ at_ ∧ at_ ≤ 9223372036854775807) (c : UInt8) (hT : Tab w0) (h00 : 0 < w0.heap.size) : Ca Tryd.prog 6 #[v, .int .i64 at_, bv c] w0 (fun r w' => r = .bool true ∧ Ext w0 w') := by
  refine Ca.of Tryd.func6 Tryd.ntmps6 rfl rfl ?_
  refine W.seq ?_
  refine W.region ?_
  refine WL.c rfl (o_ash (show _ = Value.bool _ from rfl) ?_)
  refine WL.nil ?_
  refine W.seq ?_
  refine W.seq ?_
  refine W.region ?_
  refine WL.c rfl (o_call Tryd.call9 ln ((awake_spec _ hT h00).mono ?_))
  rintro v19 w19 ⟨rfl, hx19⟩
  have hx := hx19
  refine WL.c rfl (o_not' rfl ?_)
  refine WL.nil ?_
  refine W.condF' rfl (by decide) ?_
  refine W.skip ?_
  refine W.seq ?_
  refine W.region ?_
  refine WL.c rfl (o_mvh (by first | exact (show _ = Value.slice _ _ _ from rfl) | exact rfl) ?_)
  refine WL.c rfl (o_call Tryd.call22 (lc rfl ln) ((made_spec R v _ (hS.ext hx) hR hN).mono ?_))
  rintro nv w23 ⟨t, htw, htn, htl, hv, hx23⟩
  replace hv := own_mono hv hx.size
  replace hx := hx.tr hx23
  have htp := t.flat_pos
  obtain ⟨L, hLL⟩ : ∃ L, L = t.flat := ⟨_, rfl⟩
  have hcL : (chkV L).1 = 0 := chk_ok.2 ⟨t, htw, hLL.symm⟩
  rw [← hLL] at htl htp hv htn
  have htok : tOk t := ⟨htw, by rw [← hLL]; exact htn⟩
  have htx := txt_len t htok.2
  have hpos := txt_pos htok
  rw [← hLL] at htx
  refine WL.c rfl (o_call Tryd.call23 (lc rfl ln) ((vPrint_spec L nv _ (Sl.own hv) (by omega) htn (hT.ext hx) (by have := hx.size; omega)).mono ?_))
  rintro v24 w24 ⟨hx24, -, hp24⟩
  replace hp24 := hp24 t htw hLL.symm
  rw [if_neg (by omega)] at hp24
  subst hp24
  replace hx := hx.tr hx24
  replace hv := own_ext hv hx24
  refine WL.c rfl (o_mvh (by first | exact (show _ = Value.tuple _ from rfl) | exact rfl) ?_)
  refine WL.c rfl (o_ext rfl rfl ?_)
  refine WL.c rfl (o_ext rfl rfl ?_)
  refine WL.c rfl (o_ash (show _ = Value.string _ from rfl) ?_)
  refine WL.c rfl (o_ash (show _ = Value.int _ _ from rfl) ?_)
  refine WL.nil ?_
  refine W.seq ?_
  refine W.seq ?_
  refine W.region ?_
  refine WL.c rfl (o_mvh (show _ = Value.int _ _ from rfl) ?_)
  refine WL.c rfl (o_call Tryd.call15 (lc rfl ln) ((num_spec 0 _).mono ?_))
  rintro v28 w28 ⟨rfl, rfl⟩
  refine WL.c rfl (o_ne rfl rfl ?_)
  refine WL.c rfl (o_mvh (show _ = Value.bool _ from rfl) ?_)
  refine WL.g rfl (by decide) rfl (o_mvh (show _ = Value.string _ from rfl) ?_)
  refine WL.g rfl (by decide) rfl (o_lenT TI9 rfl ?_)
  refine WL.g rfl (by decide) rfl (o_eq rfl rfl ?_)
  refine WL.c rfl (o_pickO rfl rfl ?_)
  refine WL.nil ?_
  refine W.condF' rfl (by simp; intro h; rw [h] at hpos; simp at hpos) ?_
  refine W.skip ?_
  refine W.seq ?_
  refine W.region ?_
  refine WL.c rfl (o_mvh (show _ = Value.int _ _ from rfl) ?_)
  refine WL.c rfl (o_mvh (show _ = Value.string _ from rfl) ?_)
  refine WL.c rfl (o_lenT TI9 rfl ?_)
  refine WL.c rfl (o_subi rfl rfl (by omega) ?_)
  refine WL.c rfl (o_call Tryd.call28 (lc rfl (lc rfl (lc rfl ln))) ((rest_spec at_ 0 ((t.txt.length : Int) - 1) _ (by omega) (by decide) (by omega)).mono ?_))
  rintro v39 w39 ⟨⟨q, rfl, hq0, hq1⟩, rfl⟩
  obtain ⟨k, rfl⟩ : ∃ k : Nat, q = (k : Int) := ⟨q.toNat, by omega⟩
  have hk : k < t.txt.length := by omega
  refine WL.c rfl (o_ash (show _ = Value.int _ _ from rfl) ?_)
  refine WL.nil ?_
  refine W.seq ?_
  refine W.region ?_
  refine WL.c rfl (o_mvh (show _ = Value.string _ from rfl) ?_)
  refine WL.c rfl (o_mvh (show _ = Value.int _ _ from rfl) ?_)
  refine WL.c rfl (o_ssT TI9 rfl Lo.n (Hi.s rfl) (Nat.zero_le _) (by omega) ?_)
  refine WL.c rfl (o_call Tryd.call24 (lc rfl ln) (((vParse_spec (t.txt.take k) _ (by rw [List.length_take]; omega)).mono (fun r w1 hh => parse_cases (by rw [List.length_take]; omega) hh)).mono ?_))
  rintro v44 w44 ⟨hx44, er44, p44, y44, l44, rfl, hy44, hyl44, hq44⟩
  replace hy44 := own_mono hy44 hx.size
  replace hx := hx.tr hx44
  have h41 : er44 = 41 → p44 = (k : Int) := fun he => by
    rcases hq44 with ⟨hpz, -, hp0, -, -⟩ | ⟨he2, -⟩
    · rcases par_cut htok k with ⟨u, hu⟩ | hu
      · rw [hu] at hpz; cases hpz
      · rw [hu] at hpz; simp only [Prod.mk.injEq, true_and] at hpz; omega
    · rw [he] at he2; cases he2
  refine WL.c rfl (o_mvh (by first | exact (show _ = Value.tuple _ from rfl) | exact rfl) ?_)
  refine WL.c rfl (o_ext rfl rfl ?_)
  refine WL.c rfl (o_ext rfl rfl ?_)
  refine WL.c rfl (o_alB TI64 ?_)
  intro wa hCa hxa hsa
  refine WL.c rfl (o_ash (by first | exact (show _ = Value.slice _ _ _ from rfl) | exact rfl) ?_)
  refine WL.u (o_stA TI64 rfl (show _ = Value.agg ([.int .i64 er44, .int .i64 p44]).toArray from rfl) rfl rfl hCa rfl ?_)
  intro wb11 hC11 hob hsb
  have hxb := Ext.own hxa (Nat.le_refl _) hob
  obtain ⟨b11, hb11⟩ : ∃ b, b = w44.heap.size := ⟨_, rfl⟩
  rw [← hb11] at hC11 ⊢
  clear hCa hxa hsa hob hsb
  replace hx := hx.tr hxb
  clear hxb
  refine WL.nil ?_
  refine W.seq ?_
  refine W.seq ?_
  refine W.region ?_
  refine WL.cut (fun e1 w1 => e1 56 = .bool false ∧ e1 7 = st t.txt ∧ e1 9 = .int .i64 (k : Int) ∧ e1 2 = bv c ∧ w1 = wb11) ?_ ?_
  · -- region 8
    refine WL.c rfl (o_fa 0 TI64 rfl TI46 rfl rfl ?_)
    refine WL.c rfl (o_ld TI46 rfl rfl (cell_of hC11 rfl) ?_)
    refine WL.c rfl (o_call Tryd.call15 (lc rfl ln) ((num_spec er44 _).mono ?_))
    rintro v49 w49 ⟨rfl, rfl⟩
    refine WL.c rfl (o_eq rfl rfl ?_)
    refine WL.c rfl (o_mvh (show _ = Value.bool _ from rfl) ?_)
    refine WL.sp 4 rfl (fun g51 => ?_) (fun g51 => ?_)
    · skip
      refine WL.g rfl (g51) rfl (o_fa 1 TI64 rfl TI3 rfl rfl ?_)
      refine WL.g rfl (g51) rfl (o_ld TI3 rfl rfl (cell_of hC11 rfl) ?_)
      refine WL.g rfl (g51) rfl (o_mvh (show _ = Value.int _ _ from rfl) ?_)
      refine WL.g rfl (g51) rfl (o_ne rfl rfl ?_)
      refine WL.c rfl (o_pickA rfl rfl ?_)
      exact WL.nil (⟨congrArg Value.bool (by simp_all), rfl, rfl, rfl, rfl⟩)
    · skip
      refine WL.s rfl (g51) rfl ?_
      refine WL.s rfl (g51) rfl ?_
      refine WL.s rfl (g51) rfl ?_
      refine WL.s rfl (g51) rfl ?_
      refine WL.c rfl (o_pickF rfl (g51) ?_)
      exact WL.nil (⟨congrArg Value.bool (by simp_all), rfl, rfl, rfl, rfl⟩)
  rintro e w ⟨h56, h7, h9, h2, hw1⟩
  subst hw1
  refine W.condF' h56 (rfl) ?_
  refine W.skip ?_
  refine W.seq ?_
  refine W.region ?_
  refine WL.c rfl (o_mvh h7 ?_)
  refine WL.c rfl (o_cvSB TI9 TI73 TI5 (show _ = st t.txt from by first | rfl | assumption) ?_)
  intro w58 cap hby0 hx58 hcap
  obtain ⟨bg, hbg⟩ : ∃ b, b = w.heap.size := ⟨_, rfl⟩
  rw [← hbg] at hby0 ⊢
  have hbg0 : w0.heap.size ≤ bg := by rw [hbg]; exact hx.size
  have hby : ByR w58 bg t.txt := hby0
  clear hby0
  replace hx := hx.tr hx58
  refine WL.c rfl (o_ash (by first | exact (show _ = Value.slice _ _ _ from rfl) | exact rfl) ?_)
  refine WL.nil ?_
  refine W.seq ?_
  refine W.region ?_
  refine WL.c rfl (o_mvh (by first | exact (show _ = Value.slice _ _ _ from rfl) | exact rfl) ?_)
  refine WL.c rfl (o_mvh h9 ?_)
  refine WL.c rfl (o_mvh h2 ?_)
  refine WL.c rfl (o_ixB (i := k) TI73 TI5 rfl (show _ = Value.int .i64 (k : Int) from by first | rfl | assumption) (by omega) ?_)
  refine WL.u (o_stY (i := k) TI5 rfl (by omega) (show _ = bv c from by first | rfl | assumption) rfl hby hk ?_)
  intro w62 hby2 ho62 hs62
  clear hby
  have hby := hby2
  clear hby2
  replace hx := hx.trans' ho62 (fun _ h => h) (fun j hj he => by omega)
  obtain ⟨T2, hT2⟩ : ∃ T2, T2 = t.txt.set k c := ⟨_, rfl⟩
  have hTl : T2.length = t.txt.length := by rw [hT2, List.length_set]
  have hTk : T2.take k = t.txt.take k := by rw [hT2, List.take_set_of_le (Nat.le_refl k)]
  rw [← hT2] at hby
  refine WL.nil ?_
  refine W.seq ?_
  refine W.region ?_
  refine WL.c rfl (o_mvh (by first | exact (show _ = Value.slice _ _ _ from rfl) | exact rfl) ?_)
  refine WL.c rfl (o_cvBS TI73 TI5 TI9 rfl (hby.sl2 hTl hcap) ?_)
  refine WL.c rfl (o_call Tryd.call24 (lc rfl ln) (((vParse_spec (T2) _ (by omega)).mono (fun r w1 hh => parse_cases (by omega) hh)).mono ?_))
  rintro v66 w66 ⟨hx66, er66, p66, y66, l66, rfl, hy66, hyl66, hq66⟩
  replace hy66 := own_mono hy66 hx.size
  replace hx := hx.tr hx66
  replace hby := hby.ext hx66
  refine WL.c rfl (o_mvh (by first | exact (show _ = Value.tuple _ from rfl) | exact rfl) ?_)
  refine WL.c rfl (o_ext rfl rfl ?_)
  refine WL.c rfl (o_ext rfl rfl ?_)
  refine WL.c rfl (o_alB TI64 ?_)
  intro wa hCa hxa hsa
  refine WL.c rfl (o_ash (by first | exact (show _ = Value.slice _ _ _ from rfl) | exact rfl) ?_)
  refine WL.u (o_stA TI64 rfl (show _ = Value.agg ([.int .i64 er66, .int .i64 p66]).toArray from rfl) rfl rfl hCa rfl ?_)
  intro wb14 hC14 hob hsb
  have hxb := Ext.own hxa (Nat.le_refl _) hob
  obtain ⟨b14, hb14⟩ : ∃ b, b = w66.heap.size := ⟨_, rfl⟩
  rw [← hb14] at hC14 ⊢
  clear hCa hxa hsa hob hsb
  replace hx := hx.tr hxb
  replace hby := hby.ext hxb
  replace hy66 := own_ext hy66 hxb
  clear hxb
  refine WL.nil ?_
  refine W.seq ?_
  refine W.seq ?_
  rcases hq66 with ⟨hpz, rfl, hp0, hp1, rfl⟩ | ⟨rfl, rfl, u2, hpz, hok2, htx2, rfl⟩
  · skip
    obtain ⟨pn, rfl⟩ : ∃ n : Nat, p66 = (n : Int) := ⟨p66.toNat, by omega⟩
    rw [Int.toNat_natCast] at hpz
    obtain ⟨hs1, hs2, hs3⟩ := par_spoilt htok (show k ≤ T2.length by omega) hTk hpz
    refine W.region ?_
    refine WL.c rfl (o_fa 0 TI64 rfl TI46 rfl rfl ?_)
    refine WL.c rfl (o_ld TI46 rfl rfl (cell_of hC14 rfl) ?_)
    refine WL.c rfl (o_call Tryd.call15 (lc rfl ln) ((num_spec 41 _).mono ?_))
    rintro v71 w71 ⟨rfl, rfl⟩
    refine WL.c rfl (o_eq rfl rfl ?_)
    refine WL.nil ?_
    refine W.condF' rfl (by decide) ?_
    refine W.skip ?_
    refine W.seq ?_
    refine W.seq ?_
    refine W.region ?_
    refine WL.c rfl (o_fa 0 TI64 rfl TI46 rfl rfl ?_)
    refine WL.c rfl (o_ld TI46 rfl rfl (cell_of hC14 rfl) ?_)
    refine WL.c rfl (o_call Tryd.call15 (lc rfl ln) ((num_spec 41 _).mono ?_))
    rintro v89 w89 ⟨rfl, rfl⟩
    refine WL.c rfl (o_ne rfl rfl ?_)
    refine WL.c rfl (o_mvh (show _ = Value.bool _ from rfl) ?_)
    refine WL.g rfl (by decide) rfl (o_fa 1 TI64 rfl TI3 rfl rfl ?_)
    refine WL.g rfl (by decide) rfl (o_ld TI3 rfl rfl (cell_of hC14 rfl) ?_)
    refine WL.g rfl (by decide) rfl (o_mvh h9 ?_)
    refine WL.g rfl (by decide) rfl (o_lt rfl rfl ?_)
    refine WL.c rfl (o_pickO rfl rfl ?_)
    refine WL.c rfl (o_mvh (show _ = Value.bool _ from rfl) ?_)
    refine WL.g rfl (by simp; omega) rfl (o_fa 1 TI64 rfl TI3 rfl rfl ?_)
    refine WL.g rfl (by simp; omega) rfl (o_ld TI3 rfl rfl (cell_of hC14 rfl) ?_)
    refine WL.g rfl (by simp; omega) rfl (o_mvh (by first | exact (show _ = Value.slice _ _ _ from rfl) | exact rfl) ?_)
    refine WL.g rfl (by simp; omega) rfl (o_lenR TI73 rfl (hby.sl2 hTl hcap) ?_)
    refine WL.g rfl (by simp; omega) rfl (o_gt rfl rfl ?_)
    refine WL.c rfl (o_pickO rfl rfl ?_)
    refine WL.nil ?_
    refine W.condF' rfl (by simp; omega) ?_
    refine W.skip ?_
    refine W.seq ?_
    refine W.region ?_
    refine WL.c rfl (o_mvh (by first | exact (show _ = Value.slice _ _ _ from rfl) | exact rfl) ?_)
    refine WL.c rfl (o_fa 1 TI64 rfl TI3 rfl rfl ?_)
    refine WL.c rfl (o_ld TI3 rfl rfl (cell_of hC14 rfl) ?_)
    refine WL.c rfl (o_sl0 TI73 TI5 (h := pn) (show _ = Value.slice (some ⟨bg, 0, none⟩) t.txt.length cap from by first | rfl | assumption) (show _ = Value.int .i64 (pn : Int) from by first | rfl | assumption) (by omega) ?_)
    refine WL.c rfl (o_cvBS TI73 TI5 TI9 rfl (hby.front (by omega) hs2) ?_)
    refine WL.c rfl (o_call Tryd.call24 (lc rfl ln) (((vParse_spec (T2.take pn) _ (by rw [List.length_take]; omega)).mono (fun r w1 hh => parse_cases (by rw [List.length_take]; omega) hh)).mono ?_))
    rintro v110 w110 ⟨hx110, er110, p110, y110, l110, rfl, hy110, hyl110, hq110⟩
    replace hy110 := own_mono hy110 hx.size
    replace hx := hx.tr hx110
    replace hby := hby.ext hx110
    replace hC14 := hx110.blk hC14 (fun h => h)
    refine WL.c rfl (o_mvh (by first | exact (show _ = Value.tuple _ from rfl) | exact rfl) ?_)
    refine WL.c rfl (o_ext rfl rfl ?_)
    refine WL.c rfl (o_ext rfl rfl ?_)
    refine WL.c rfl (o_alB TI64 ?_)
    intro wa hCa hxa hsa
    refine WL.c rfl (o_ash (by first | exact (show _ = Value.slice _ _ _ from rfl) | exact rfl) ?_)
    refine WL.u (o_stA TI64 rfl (show _ = Value.agg ([.int .i64 er110, .int .i64 p110]).toArray from rfl) rfl rfl hCa rfl ?_)
    intro wb18 hC18 hob hsb
    have hxb := Ext.own hxa (Nat.le_refl _) hob
    obtain ⟨b18, hb18⟩ : ∃ b, b = w110.heap.size := ⟨_, rfl⟩
    rw [← hb18] at hC18 ⊢
    clear hCa hxa hsa hob hsb
    replace hx := hx.tr hxb
    replace hby := hby.ext hxb
    replace hC14 := hxb.blk hC14 (fun h => h)
    clear hxb
    refine WL.nil ?_
    refine W.seq ?_
    rcases hq110 with ⟨hpz2, rfl, hp20, hp21, rfl⟩ | ⟨rfl, rfl, u3, hpz2, hok3, htx3, rfl⟩
    · skip
      have hpp : p110 = (pn : Int) := by
        rcases hs3 with ⟨u3, hs3⟩ | hs3
        · rw [hs3] at hpz2; cases hpz2
        · rw [hs3] at hpz2; simp only [Prod.mk.injEq, true_and] at hpz2; omega
      refine W.region ?_
      refine WL.c rfl (o_fa 0 TI64 rfl TI46 rfl rfl ?_)
      refine WL.c rfl (o_ld TI46 rfl rfl (cell_of hC18 rfl) ?_)
      refine WL.c rfl (o_call Tryd.call15 (lc rfl ln) ((num_spec 41 _).mono ?_))
      rintro v115 w115 ⟨rfl, rfl⟩
      refine WL.c rfl (o_eq rfl rfl ?_)
      refine WL.c rfl (o_mvh (show _ = Value.bool _ from rfl) ?_)
      refine WL.g rfl (by decide) rfl (o_fa 0 TI64 rfl TI46 rfl rfl ?_)
      refine WL.g rfl (by decide) rfl (o_ld TI46 rfl rfl (cell_of hC18 rfl) ?_)
      refine WL.g rfl (by decide) rfl (o_call Tryd.call15 (lc rfl ln) ((num_spec 41 _).mono ?_))
      rintro v120 w120 ⟨rfl, rfl⟩
      refine WL.g rfl (by decide) rfl (o_eq rfl rfl ?_)
      refine WL.g rfl (by decide) rfl (o_mvh (show _ = Value.bool _ from rfl) ?_)
      refine WL.g rfl (by decide) rfl (o_fa 1 TI64 rfl TI3 rfl rfl ?_)
      refine WL.g rfl (by decide) rfl (o_ld TI3 rfl rfl (cell_of hC18 rfl) ?_)
      refine WL.g rfl (by decide) rfl (o_fa 1 TI64 rfl TI3 rfl rfl ?_)
      refine WL.g rfl (by decide) rfl (o_ld TI3 rfl rfl (cell_of hC14 rfl) ?_)
      refine WL.g rfl (by decide) rfl (o_eq rfl rfl ?_)
      refine WL.g rfl (by decide) rfl (o_pickA rfl rfl ?_)
      refine WL.c rfl (o_pickO rfl rfl ?_)
      refine WL.c rfl (o_ash (show _ = Value.bool _ from rfl) ?_)
      refine WL.nil ?_
      refine W.ret ?_
      refine ret1v rfl (show _ = Value.bool _ from rfl) ?_
      exact ⟨congrArg Value.bool (by simp [hpp]), hx⟩
    · skip
      skip
      refine W.region ?_
      refine WL.c rfl (o_fa 0 TI64 rfl TI46 rfl rfl ?_)
      refine WL.c rfl (o_ld TI46 rfl rfl (cell_of hC18 rfl) ?_)
      refine WL.c rfl (o_call Tryd.call15 (lc rfl ln) ((num_spec 0 _).mono ?_))
      rintro v115 w115 ⟨rfl, rfl⟩
      refine WL.c rfl (o_eq rfl rfl ?_)
      refine WL.c rfl (o_mvh (show _ = Value.bool _ from rfl) ?_)
      refine WL.s rfl (by decide) rfl ?_
      refine WL.s rfl (by decide) rfl ?_
      refine WL.s rfl (by decide) rfl ?_
      refine WL.s rfl (by decide) rfl ?_
      refine WL.s rfl (by decide) rfl ?_
      refine WL.z rfl rfl ?_
      refine WL.z rfl rfl ?_
      refine WL.z rfl rfl ?_
      refine WL.z rfl rfl ?_
      refine WL.z rfl rfl ?_
      refine WL.s rfl (by decide) rfl ?_
      refine WL.c rfl (o_pickT rfl (by decide) ?_)
      refine WL.c rfl (o_ash (show _ = Value.bool _ from rfl) ?_)
      refine WL.nil ?_
      refine W.ret ?_
      refine ret1v rfl (show _ = Value.bool _ from rfl) ?_
      exact ⟨congrArg Value.bool (by simp), hx⟩
  · skip
    skip
    refine W.region ?_
    refine WL.c rfl (o_fa 0 TI64 rfl TI46 rfl rfl ?_)
    refine WL.c rfl (o_ld TI46 rfl rfl (cell_of hC14 rfl) ?_)
    refine WL.c rfl (o_call Tryd.call15 (lc rfl ln) ((num_spec 0 _).mono ?_))
    rintro v71 w71 ⟨rfl, rfl⟩
    refine WL.c rfl (o_eq rfl rfl ?_)
    refine WL.nil ?_
    refine W.condT' rfl (by decide) ?_
    refine W.seq ?_
    refine W.region ?_
    refine WL.c rfl (o_mvh (by first | exact (show _ = Value.slice _ _ _ from rfl) | exact rfl) ?_)
    refine WL.c rfl (o_call Tryd.call23 (lc rfl ln) ((vPrint_spec u2.flat y66 _ (Sl.own hy66) (by omega) hok2.2 (hT.ext hx) (by have := hx.size; omega)).mono ?_))
    rintro v75 w75 ⟨hx75, -, hp75⟩
    replace hp75 := hp75 u2 hok2.1 rfl
    rw [htx2, if_neg (by omega)] at hp75
    subst hp75
    replace hx := hx.tr hx75
    replace hby := hby.ext hx75
    refine WL.c rfl (o_mvh (by first | exact (show _ = Value.tuple _ from rfl) | exact rfl) ?_)
    refine WL.c rfl (o_ext rfl rfl ?_)
    refine WL.c rfl (o_ext rfl rfl ?_)
    refine WL.c rfl (o_ash (show _ = Value.string _ from rfl) ?_)
    refine WL.c rfl (o_ash (show _ = Value.int _ _ from rfl) ?_)
    refine WL.nil ?_
    refine W.seq ?_
    refine W.region ?_
    refine WL.c rfl (o_mvh (show _ = Value.int _ _ from rfl) ?_)
    refine WL.c rfl (o_call Tryd.call15 (lc rfl ln) ((num_spec 0 _).mono ?_))
    rintro v79 w79 ⟨rfl, rfl⟩
    refine WL.c rfl (o_eq rfl rfl ?_)
    refine WL.c rfl (o_mvh (show _ = Value.bool _ from rfl) ?_)
    refine WL.g rfl (by decide) rfl (o_mvh (show _ = Value.string _ from rfl) ?_)
    refine WL.g rfl (by decide) rfl (o_mvh (by first | exact (show _ = Value.slice _ _ _ from rfl) | exact rfl) ?_)
    refine WL.g rfl (by decide) rfl (o_cvBS TI73 TI5 TI9 rfl (hby.sl2 hTl hcap) ?_)
    refine WL.g rfl (by decide) rfl (o_eqT rfl rfl ?_)
    refine WL.c rfl (o_pickA rfl rfl ?_)
    refine WL.c rfl (o_ash (show _ = Value.bool _ from rfl) ?_)
    refine WL.nil ?_
    refine W.ret ?_
    refine ret1v rfl (show _ = Value.bool _ from rfl) ?_
    exact ⟨congrArg Value.bool (by simp [st]), hx⟩

theorem vplaces_walk0 (w0 : World) (v : Value) (R : List Nd) (hS : Sl w0 3 v R.length (nds R)) (hR : R.length ≤ 9223372036854775807) (hN : NOk R) (at_ : Int) (hb : -9223372036854775808 ≤ at_ ∧ at_ ≤ 9223372036854775807) (n : Nat) (hn : n < 256) (hT : Tab w0) (h00 : 0 < w0.heap.size) :
    Ca Tryd.prog 6 #[v, .int .i64 at_, .int .u8 (n : Int)] w0 (fun r w' => r = .bool true ∧ Ext w0 w') := by
  rw [show Value.int .u8 (n : Int) = bv (UInt8.ofNat n) by show _ = Value.int .u8 _; congr 1; rw [UInt8.toNat_ofNat']; omega]
  exact vplaces_walk w0 v R hS hR hN at_ hb (UInt8.ofNat n) hT h00

end Go.Proofs.YtgmjfcekeglhjaaDoor
