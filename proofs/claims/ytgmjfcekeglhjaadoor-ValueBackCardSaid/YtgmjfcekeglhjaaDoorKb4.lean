/-
  Walks and lemmas. Written by program out of specs of mine.
-/
import Derived.WalkKit
import Derived.WalkSpells
import Derived.WalkLawsBesides
import Derived.Deep.Quiet
import Derived.StillTail
import Derived.StringKeys
import Derived.Laws.StructEq
import Derived.Laws.Externs
import Derived.Laws.Tables
import Derived.Scope
import Derived.Laws.AppendOwn
import Derived.Maps.AppendAt
import Derived.Recover
import Derived.Test.YtgmjfcekeglhjaaDoorProg
import Derived.Maps.OwnSet
import Derived.Shelf.Strconv.Itoa0
import Derived.Shelf.Strconv.Itoa1
import Derived.Shelf.LaysM
import Derived.Shelf.Strconv.Itoa2
import Derived.Lib.ItoaMem
import Derived.Lib.ItoaLen
import Derived.DeepKeys3
import Derived.SizedLaws
import Derived.ChangeArms
import Derived.ChangeSlices
import Derived.Test.YtgmjfcekeglhjaaDoorRows
import Derived.ProofKit
import Derived.OpenShut
import Derived.ShutString
import Derived.ChangeOld
import Derived.Below
import Derived.JoinedCond
import Derived.SliceStrings
import Derived.Test.YtgmjfcekeglhjaaDoorCards
import Derived.Test.YtgmjfcekeglhjaaDoorTie
import Derived.Deep.DeepHandedRow
import Derived.Lib.LaidTab
import Derived.Test.YtgmjfcekeglhjaaDoorKb3
set_option linter.unusedSimpArgs false
set_option linter.unusedVariables false
set_option maxRecDepth 100000
set_option linter.unusedSimpArgs false
set_option linter.unusedVariables false
set_option maxRecDepth 100000
namespace Go.Proofs.YtgmjfcekeglhjaaDoor
open Go Go.Vc Go.RowKit Go.Proofs

theorem o_minI {P : Program} {e : Env} {w : World} {K : Value → World → Prop} {ty : TypeId} {x y : Operand} {t u : TypeId} {k : IntKind} {a b : Int} (hx : ev e x = .int k a) (hy : ev e y = .int k b) (kk : K (.int k (if b < a then b else a)) w) : OP P e (.call ⟨.builtin .min, #[x, y], #[t, u]⟩) ty w K := by
  refine OP.of ?_ kk
  simp [execOp, resolve, invoke, builtin, Builtin.min_, Builtin.min2, hx, hy]
theorem o_remI {P : Program} {e : Env} {w : World} {K : Value → World → Prop} {ty : TypeId} {x y : Operand} {t u : TypeId} {a b : Int} (hx : ev e x = .int .i64 a) (hy : ev e y = .int .i64 b) (hb : 0 < b) (kk : K (.int .i64 (a.tmod b)) w) : OP P e (.binOp .rem t x y u) ty w K := by
  exact o_rem hx hy (by omega) kk
theorem tmod_lim (a : Int) {b : Int} (hb : 0 < b) : -b < a.tmod b ∧ a.tmod b < b := by
  refine ⟨?_, Int.tmod_lt_of_pos a hb⟩
  by_cases h : 0 ≤ a
  · have := Int.tmod_nonneg b h
    omega
  · have h1 := Int.tmod_lt_of_pos (-a) hb
    rw [Int.neg_tmod] at h1
    omega
theorem chk_snoc {L : List Nd} {w : Int} (h : ∀ l, chkV (L ++ l) = chkG w L.length l) {x : Nd} (hx : rightN x = true) (hw : ¬ w = 0) (l : List Nd) : chkV ((L ++ [x]) ++ l) = chkG (w + (x.kids - 1)) (L ++ [x]).length l := by
  rw [List.append_assoc, h, List.singleton_append, chkG, if_neg (by rw [hx]; simp; exact hw), List.length_append]
  rfl

theorem rest_spec (n lo hi : Int) (w0 : World) (h1 : lo ≤ hi) (h2 : 0 ≤ lo) (h3 : hi ≤ 1000000000) : Ca Tryd.prog 28 #[.int .i64 n, .int .i64 lo, .int .i64 hi] w0 (fun v w' => (∃ q, v = .int .i64 q ∧ lo ≤ q ∧ q ≤ hi) ∧ w' = w0) := by
  refine Ca.of Tryd.func28 Tryd.ntmps28 rfl rfl ?_
  refine W.seq ?_
  refine W.region ?_
  refine WL.c rfl (o_ash (show _ = Value.int _ _ from rfl) ?_)
  refine WL.nil ?_
  refine W.seq ?_
  refine W.region ?_
  refine WL.c rfl (o_mvh (show _ = Value.int _ _ from rfl) ?_)
  refine WL.c rfl (o_mvh (show _ = Value.int _ _ from rfl) ?_)
  refine WL.c rfl (o_subi rfl rfl (by omega) ?_)
  refine WL.c rfl (o_addi rfl rfl (by omega) ?_)
  refine WL.c rfl (o_ash (show _ = Value.int _ _ from rfl) ?_)
  refine WL.nil ?_
  refine W.seq ?_
  refine W.region ?_
  refine WL.c rfl (o_mvh (show _ = Value.int _ _ from rfl) ?_)
  refine WL.c rfl (o_mvh (show _ = Value.int _ _ from rfl) ?_)
  refine WL.c rfl (o_mvh (show _ = Value.int _ _ from rfl) ?_)
  refine WL.c rfl (o_remI rfl rfl (by omega) ?_)
  refine WL.c rfl (o_mvh (show _ = Value.int _ _ from rfl) ?_)
  refine WL.c rfl (o_addi rfl rfl (by have := tmod_lim n (show 0 < hi - lo + 1 by omega); omega) ?_)
  refine WL.c rfl (o_mvh (show _ = Value.int _ _ from rfl) ?_)
  refine WL.c rfl (o_remI rfl rfl (by omega) ?_)
  refine WL.c rfl (o_addi rfl rfl (by have h4 := tmod_lim n (show 0 < hi - lo + 1 by omega); have h5 := tmod_lim (n.tmod (hi - lo + 1) + (hi - lo + 1)) (show 0 < hi - lo + 1 by omega); omega) ?_)
  refine WL.c rfl (o_ash (show _ = Value.int _ _ from rfl) ?_)
  refine WL.nil ?_
  refine W.ret ?_
  refine ret1v rfl (show _ = Value.int _ _ from rfl) ?_
  have h4 := tmod_lim n (show 0 < hi - lo + 1 by omega)
  have h5 := tmod_lim (n.tmod (hi - lo + 1) + (hi - lo + 1)) (show 0 < hi - lo + 1 by omega)
  have h6 : 0 ≤ (n.tmod (hi - lo + 1) + (hi - lo + 1)).tmod (hi - lo + 1) := Int.tmod_nonneg _ (by omega)
  exact ⟨⟨_, rfl, by omega, by omega⟩, rfl⟩
set_option maxHeartbeats 16000000 in
theorem made_spec (R : List Nd) (v : Value) (w0 : World) (hS : Sl w0 3 v R.length (nds R)) (hR : R.length ≤ 9223372036854775807) (hN : NOk R) : Ca Tryd.prog 22 #[v] w0 (fun r w' => ∃ t : Vt, t.wf ∧ NOk t.flat ∧ t.flat.length ≤ 1351 ∧ w'.ownsRow w0.heap.size 69 3 r t.flat.length (nds t.flat) ∧ Ext w0 w') := by
  have hx : Ext w0 w0 := Only.refl _ _
  refine Ca.of Tryd.func22 Tryd.ntmps22 rfl rfl ?_
  refine W.seq ?_
  refine W.region ?_
  refine WL.c rfl (o_ash (by first | exact (show _ = Value.slice _ _ _ from rfl) | exact rfl) ?_)
  refine WL.nil ?_
  refine W.seq ?_
  refine W.region ?_
  refine WL.c rfl (o_ash (by first | exact (show _ = Value.slice _ _ _ from rfl) | exact rfl) ?_)
  refine WL.nil ?_
  refine W.seq ?_
  refine W.region ?_
  refine WL.c rfl (o_ash (show _ = Value.int _ _ from rfl) ?_)
  refine WL.nil ?_
  refine W.seq ?_
  refine W.seq ?_
  refine W.region ?_
  refine WL.c rfl (o_ash (show _ = Value.int _ _ from rfl) ?_)
  refine WL.nil ?_
  refine W.block ?_
  refine W.loop (fun e w => ∃ (L : List Nd) (wt : Int) (ov : Value), e 0 = v ∧ e 3 = ov ∧ e 4 = .int .i64 wt ∧ e 5 = .int .i64 (L.length : Int) ∧ 0 ≤ wt ∧ (L.length : Int) + wt ≤ 1 + 9 * (min L.length 150 : Nat) ∧ (∀ l, chkV (L ++ l) = chkG wt L.length l) ∧ NOk L ∧ w.ownsRow w0.heap.size 69 3 ov L.length (nds L) ∧ Ext w0 w) (fun e w => 1352 - (intOf (e 5)).toNat) ?_ ?_
  · exact ⟨[], 1, _, rfl, rfl, rfl, rfl, by omega, by simp, fun l => rfl, fun x hx => (by cases hx), World.ownsRow_nil _ _ _ _, hx⟩
  rintro e w ⟨L, wt, ov, h0, h3, h4, h5, hw0, hwl, hchk, hNL, how, hx⟩
  have hm5 := h5
  have hLl : L.length ≤ 1351 := by omega
  refine W.seq ?_
  refine W.seq ?_
  refine W.region ?_
  refine WL.c rfl (o_mvh h4 ?_)
  refine WL.c rfl (o_gt rfl rfl ?_)
  refine WL.nil ?_
  refine W.cond rfl (fun c9 => ?_) (fun c9 => ?_)
  · try simp only [decide_eq_true_eq, decide_eq_false_iff_not, Bool.not_eq_true', Bool.not_eq_false', Bool.and_eq_true, Bool.or_eq_true, Bool.and_eq_false_iff, Bool.or_eq_false_iff] at c9
    obtain ⟨sp, sc, rfl, hsc⟩ := own_form how
    refine W.skip ?_
    refine W.seq ?_
    refine W.block ?_
    refine W.seq ?_
    refine W.region ?_
    refine WL.c rfl (o_alB TI69 ?_)
    intro w6 hC6 hx6 hs6
    obtain ⟨b6, hb6⟩ : ∃ b, b = w.heap.size := ⟨_, rfl⟩
    rw [← hb6] at hC6 ⊢
    replace hC6 : w6.heap[b6]? = some (.cells (ndV nd0).toArray 69 (0, 0)) := hC6
    have hz6 : w0.heap.size ≤ b6 := by rw [hb6]; exact hx.size
    have hoff : ∀ k, (Value.slice sp L.length sc).ownBlock = some k → ¬ k = b6 := fun k hk he => by have := (how.lt k hk).2; omega
    replace how := own_ext how hx6
    replace hx := hx.tr hx6
    clear hx6 hs6
    refine WL.nil ?_
    refine W.seq ?_
    refine W.seq ?_
    refine W.region ?_
    refine WL.cut (fun e1 w1 => e1 19 = .bool (decide (L.length < R.length ∧ L.length < 150)) ∧ e1 0 = v ∧ e1 3 = .slice sp L.length sc ∧ e1 4 = .int .i64 wt ∧ e1 5 = .int .i64 (L.length : Int) ∧ e1 6 = .pointer (some ⟨b6, 0, none⟩) ∧ w1 = w6) ?_ ?_
    · -- region 7
      refine WL.c rfl (o_mvh h5 ?_)
      refine WL.c rfl (o_mvh h0 ?_)
      refine WL.c rfl (o_lenR TI30 rfl (hS.ext hx) ?_)
      refine WL.c rfl (o_lt rfl rfl ?_)
      refine WL.c rfl (o_mvh (show _ = Value.bool _ from rfl) ?_)
      refine WL.sp 4 rfl (fun g16 => ?_) (fun g16 => ?_)
      · skip
        refine WL.g rfl (g16) rfl (o_mvh h5 ?_)
        refine WL.g rfl (g16) rfl (o_lt rfl rfl ?_)
        refine WL.c rfl (o_pickA rfl rfl ?_)
        exact WL.nil (⟨congrArg Value.bool (by rw [Bool.eq_iff_iff]; simp_all <;> omega), h0, h3, h4, h5, rfl, rfl⟩)
      · skip
        refine WL.s rfl (g16) rfl ?_
        refine WL.s rfl (g16) rfl ?_
        refine WL.c rfl (o_pickF rfl (g16) ?_)
        exact WL.nil (⟨congrArg Value.bool (by rw [Bool.eq_iff_iff]; simp_all <;> omega), h0, h3, h4, h5, rfl, rfl⟩)
    rintro e w ⟨h19, h0, h3, h4, h5, h6, hw1⟩
    subst hw1
    refine W.cut (fun e1 w1 => ∃ y : Nd, y.n < 18446744073709551616 ∧ w1.heap[b6]? = some (.cells (ndV y).toArray 69 (0, 0)) ∧ e1 0 = v ∧ e1 3 = .slice sp L.length sc ∧ e1 4 = .int .i64 wt ∧ e1 5 = .int .i64 (L.length : Int) ∧ e1 6 = .pointer (some ⟨b6, 0, none⟩) ∧ w1.ownsRow w0.heap.size 69 3 (.slice sp L.length sc) L.length (nds L) ∧ Ext w0 w1) ?_ ?_
    · -- both ways
      refine W.cond h19 (fun c19 => ?_) (fun c19 => ?_)
      · try simp only [decide_eq_true_eq, decide_eq_false_iff_not, Bool.not_eq_true', Bool.not_eq_false', Bool.and_eq_true, Bool.or_eq_true, Bool.and_eq_false_iff, Bool.or_eq_false_iff] at c19
        have hi1 : L.length < R.length := by omega
        obtain ⟨ub, uo, uc, hv, huc⟩ := Sl.nd (hS.ext hx) hi1
        rw [hv] at h0
        refine W.region ?_
        refine WL.c rfl (o_mvh h0 ?_)
        refine WL.c rfl (o_mvh h5 ?_)
        refine WL.c rfl (o_ixB (i := L.length) TI30 TI69 (show _ = Value.slice (some ⟨ub, uo, none⟩) R.length uc from by first | rfl | assumption) (show _ = Value.int .i64 (L.length : Int) from by first | rfl | assumption) (by omega) ?_)
        refine WL.c rfl (o_ldA TI69 rfl rfl huc rfl ?_)
        refine WL.u (o_stA TI69 h6 (show _ = Value.agg (ndV R[L.length]).toArray from rfl) rfl rfl hC6 rfl ?_)
        intro wz hCz hoz hsz
        replace hC6 : wz.heap[b6]? = some (.cells (ndV R[L.length]).toArray 69 (0, 0)) := hCz
        replace how := own_only how hoz (fun k hk he => by subst he; exact hoff k hk rfl)
        replace hx := hx.trans' hoz (fun _ h => h) (fun k hk he => by omega)
        clear hCz hoz hsz
        refine WL.nil ?_
        first | exact ⟨R[L.length], hN _ (List.getElem_mem hi1), hC6, h0.trans hv.symm, h3, h4, h5, h6, how, hx⟩ | exact ⟨nd0, by decide, hC6, h0, h3, h4, h5, h6, how, hx⟩
      · try simp only [decide_eq_true_eq, decide_eq_false_iff_not, Bool.not_eq_true', Bool.not_eq_false', Bool.and_eq_true, Bool.or_eq_true, Bool.and_eq_false_iff, Bool.or_eq_false_iff] at c19
        refine W.skip ?_
        first | exact ⟨R[L.length], hN _ (List.getElem_mem hi1), hC6, h0.trans hv.symm, h3, h4, h5, h6, how, hx⟩ | exact ⟨nd0, by decide, hC6, h0, h3, h4, h5, h6, how, hx⟩
    rintro e w ⟨y, hyn, hC6, h0, h3, h4, h5, h6, how, hx⟩
    refine W.seq ?_
    refine W.region ?_
    refine WL.c rfl (o_fa 0 TI69 rfl TI3 rfl h6 ?_)
    refine WL.c rfl (o_ld TI3 rfl rfl (cell_of hC6 rfl) ?_)
    refine WL.c rfl (o_call Tryd.call28 (lc rfl (lc rfl (lc rfl ln))) ((rest_spec y.kind 1 6 _ (by decide) (by decide) (by decide)).mono ?_))
    rintro v26 w26 ⟨⟨q, rfl, hq1, hq6⟩, rfl⟩
    refine WL.c rfl (o_fa 0 TI69 rfl TI3 rfl h6 ?_)
    refine WL.u (o_stB TI3 rfl (show _ = Value.int .i64 q from rfl) rfl hC6 (show 0 < 3 by decide) ?_)
    intro w27 hB27 ho27 hs27
    replace hC6 : w27.heap[b6]? = some (.cells (ndV ⟨q, y.n, y.kids⟩).toArray 69 (0, 0)) := hB27
    replace hx := hx.trans' ho27 (fun _ h => h) (fun k hk he => by omega)
    replace how := own_only how ho27 (fun k hk he => by subst he; exact hoff k hk rfl)
    clear hB27 ho27 hs27
    refine WL.nil ?_
    refine W.seq ?_
    refine W.region ?_
    refine WL.c rfl (o_mvh h3 ?_)
    refine WL.c rfl (o_lenR TI30 rfl (Sl.own how) ?_)
    refine WL.c rfl (o_subi rfl rfl (by omega) ?_)
    refine WL.c rfl (o_mvh h4 ?_)
    refine WL.c rfl (o_subi rfl rfl (by omega) ?_)
    refine WL.c rfl (o_maxI rfl rfl ?_)
    refine WL.c rfl (o_ash (show _ = Value.int _ _ from rfl) ?_)
    refine WL.nil ?_
    obtain ⟨lf, hlf, hlf0, hlf1⟩ : ∃ lf, lf = (if (0 : Int) < 300 - (L.length : Int) - wt then 300 - (L.length : Int) - wt else 0) ∧ 0 ≤ lf ∧ lf ≤ 300 := ⟨_, rfl, by split <;> omega, by split <;> omega⟩
    rw [← hlf]
    refine W.seq ?_
    refine W.seq ?_
    refine W.region ?_
    refine WL.cut (fun e1 w1 => e1 41 = .bool (decide (R.length ≤ L.length ∨ 150 ≤ L.length)) ∧ e1 0 = v ∧ e1 3 = .slice sp L.length sc ∧ e1 4 = .int .i64 wt ∧ e1 5 = .int .i64 (L.length : Int) ∧ e1 6 = .pointer (some ⟨b6, 0, none⟩) ∧ e1 7 = .int .i64 lf ∧ w1 = w27) ?_ ?_
    · -- region 11
      refine WL.c rfl (o_mvh h5 ?_)
      refine WL.c rfl (o_mvh h0 ?_)
      refine WL.c rfl (o_lenR TI30 rfl (hS.ext hx) ?_)
      refine WL.c rfl (o_ge rfl rfl ?_)
      refine WL.c rfl (o_mvh (show _ = Value.bool _ from rfl) ?_)
      refine WL.sp 4 rfl (fun g38 => ?_) (fun g38 => ?_)
      · skip
        refine WL.s rfl (g38) rfl ?_
        refine WL.s rfl (g38) rfl ?_
        refine WL.c rfl (o_pickT rfl (g38) ?_)
        exact WL.nil (⟨congrArg Value.bool (by rw [Bool.eq_iff_iff]; simp_all <;> omega), h0, h3, h4, h5, h6, rfl, rfl⟩)
      · skip
        refine WL.g rfl (g38) rfl (o_mvh h5 ?_)
        refine WL.g rfl (g38) rfl (o_ge rfl rfl ?_)
        refine WL.c rfl (o_pickO rfl rfl ?_)
        exact WL.nil (⟨congrArg Value.bool (by rw [Bool.eq_iff_iff]; simp_all <;> omega), h0, h3, h4, h5, h6, rfl, rfl⟩)
    rintro e w ⟨h41, h0, h3, h4, h5, h6, h7, hw1⟩
    subst hw1
    refine W.cut (fun e1 w1 => ∃ kd : Int, 1 ≤ kd ∧ kd ≤ 6 ∧ (150 ≤ L.length → kd = 1) ∧ w1.heap[b6]? = some (.cells (ndV ⟨kd, y.n, y.kids⟩).toArray 69 (0, 0)) ∧ e1 0 = v ∧ e1 3 = .slice sp L.length sc ∧ e1 4 = .int .i64 wt ∧ e1 5 = .int .i64 (L.length : Int) ∧ e1 6 = .pointer (some ⟨b6, 0, none⟩) ∧ w1.ownsRow w0.heap.size 69 3 (.slice sp L.length sc) L.length (nds L) ∧ Ext w0 w1 ∧ e1 7 = .int .i64 lf) ?_ ?_
    · -- both ways
      refine W.cond h41 (fun c41 => ?_) (fun c41 => ?_)
      · try simp only [decide_eq_true_eq, decide_eq_false_iff_not, Bool.not_eq_true', Bool.not_eq_false', Bool.and_eq_true, Bool.or_eq_true, Bool.and_eq_false_iff, Bool.or_eq_false_iff] at c41
        refine W.region ?_
        refine WL.c rfl (o_fa 0 TI69 rfl TI3 rfl h6 ?_)
        refine WL.u (o_stB TI3 rfl (show _ = Value.int .i64 1 from rfl) rfl hC6 (show 0 < 3 by decide) ?_)
        intro w42 hB42 ho42 hs42
        replace hC6 : w42.heap[b6]? = some (.cells (ndV ⟨1, y.n, y.kids⟩).toArray 69 (0, 0)) := hB42
        replace hx := hx.trans' ho42 (fun _ h => h) (fun k hk he => by omega)
        replace how := own_only how ho42 (fun k hk he => by subst he; exact hoff k hk rfl)
        clear hB42 ho42 hs42
        refine WL.nil ?_
        first | exact ⟨1, by decide, by decide, fun _ => rfl, hC6, h0, h3, h4, h5, h6, how, hx, h7⟩ | exact ⟨q, hq1, hq6, fun h => absurd (Or.inr h : R.length ≤ L.length ∨ 150 ≤ L.length) (by simpa using c41), hC6, h0, h3, h4, h5, h6, how, hx, h7⟩
      · try simp only [decide_eq_true_eq, decide_eq_false_iff_not, Bool.not_eq_true', Bool.not_eq_false', Bool.and_eq_true, Bool.or_eq_true, Bool.and_eq_false_iff, Bool.or_eq_false_iff] at c41
        refine W.skip ?_
        first | exact ⟨1, by decide, by decide, fun _ => rfl, hC6, h0, h3, h4, h5, h6, how, hx, h7⟩ | exact ⟨q, hq1, hq6, fun h => absurd (Or.inr h : R.length ≤ L.length ∨ 150 ≤ L.length) (by simpa using c41), hC6, h0, h3, h4, h5, h6, how, hx, h7⟩
    rintro e w ⟨kd, hk1, hk6, hk150, hC6, h0, h3, h4, h5, h6, how, hx, h7⟩
    refine W.seq ?_
    refine W.seq ?_
    refine W.region ?_
    refine WL.c rfl (o_fa 0 TI69 rfl TI3 rfl h6 ?_)
    refine WL.c rfl (o_ld TI3 rfl rfl (cell_of hC6 rfl) ?_)
    refine WL.nil ?_
    refine W.block ?_
    refine W.seq ?_
    refine W.region ?_
    refine WL.c rfl (o_eq rfl rfl ?_)
    refine WL.c rfl (o_ash (show _ = Value.bool _ from rfl) ?_)
    refine WL.nil ?_
    refine W.cut (fun e1 w1 => ∃ x : Nd, rightN x = true ∧ (150 ≤ L.length → x.kids = 0) ∧ x.kids ≤ 9 ∧ x.n < 18446744073709551616 ∧ w1.heap[b6]? = some (.cells (ndV x).toArray 69 (0, 0)) ∧ e1 0 = v ∧ e1 3 = .slice sp L.length sc ∧ e1 4 = .int .i64 wt ∧ e1 5 = .int .i64 (L.length : Int) ∧ e1 6 = .pointer (some ⟨b6, 0, none⟩) ∧ w1.ownsRow w0.heap.size 69 3 (.slice sp L.length sc) L.length (nds L) ∧ Ext w0 w1) ?_ ?_
    · -- both ways
      refine W.cond rfl (fun c45 => ?_) (fun c45 => ?_)
      · try simp only [decide_eq_true_eq, decide_eq_false_iff_not, Bool.not_eq_true', Bool.not_eq_false', Bool.and_eq_true, Bool.or_eq_true, Bool.and_eq_false_iff, Bool.or_eq_false_iff] at c45
        refine W.region ?_
        refine WL.c rfl (o_fa 2 TI69 rfl TI3 rfl h6 ?_)
        refine WL.u (o_stB TI3 rfl (show _ = Value.int .i64 0 from rfl) rfl hC6 (show 2 < 3 by decide) ?_)
        intro w47 hB47 ho47 hs47
        replace hC6 : w47.heap[b6]? = some (.cells (ndV ⟨kd, y.n, 0⟩).toArray 69 (0, 0)) := hB47
        replace hx := hx.trans' ho47 (fun _ h => h) (fun k hk he => by omega)
        replace how := own_only how ho47 (fun k hk he => by subst he; exact hoff k hk rfl)
        clear hB47 ho47 hs47
        refine WL.nil ?_
        (refine ⟨_, ?_, ?_, ?_, ?_, hC6, h0, h3, h4, h5, h6, how, hx⟩ <;> first | (show _ ≤ (9 : Int); omega) | (show _ < _; omega) | (intro h150; have := hk150 h150; omega) | (simp_all [rightN, numB, leastK, mostK]; done) | (simp_all [rightN, numB, leastK, mostK]; omega))
      · try simp only [decide_eq_true_eq, decide_eq_false_iff_not, Bool.not_eq_true', Bool.not_eq_false', Bool.and_eq_true, Bool.or_eq_true, Bool.and_eq_false_iff, Bool.or_eq_false_iff] at c45
        refine W.seq ?_
        refine W.region ?_
        refine WL.c rfl (o_eq rfl rfl ?_)
        refine WL.c rfl (o_ash (show _ = Value.bool _ from rfl) ?_)
        refine WL.nil ?_
        refine W.cond rfl (fun c48 => ?_) (fun c48 => ?_)
        · try simp only [decide_eq_true_eq, decide_eq_false_iff_not, Bool.not_eq_true', Bool.not_eq_false', Bool.and_eq_true, Bool.or_eq_true, Bool.and_eq_false_iff, Bool.or_eq_false_iff] at c48
          refine W.seq ?_
          refine W.region ?_
          refine WL.c rfl (o_fa 1 TI69 rfl TI43 rfl h6 ?_)
          refine WL.c rfl (o_ld TI43 rfl rfl (cell_of hC6 rfl) ?_)
          refine WL.c rfl (n_rem (b := 2) rfl rfl (by decide) ?_)
          refine WL.c rfl (o_fa 1 TI69 rfl TI43 rfl h6 ?_)
          refine WL.u (o_stB TI43 rfl (show _ = Value.int .u64 ((y.n % 2 : Nat) : Int) from rfl) rfl hC6 (show 1 < 3 by decide) ?_)
          intro w53 hB53 ho53 hs53
          replace hC6 : w53.heap[b6]? = some (.cells (ndV ⟨kd, y.n % 2, y.kids⟩).toArray 69 (0, 0)) := hB53
          replace hx := hx.trans' ho53 (fun _ h => h) (fun k hk he => by omega)
          replace how := own_only how ho53 (fun k hk he => by subst he; exact hoff k hk rfl)
          clear hB53 ho53 hs53
          refine WL.nil ?_
          refine W.region ?_
          refine WL.c rfl (o_fa 2 TI69 rfl TI3 rfl h6 ?_)
          refine WL.u (o_stB TI3 rfl (show _ = Value.int .i64 0 from rfl) rfl hC6 (show 2 < 3 by decide) ?_)
          intro w54 hB54 ho54 hs54
          replace hC6 : w54.heap[b6]? = some (.cells (ndV ⟨kd, y.n % 2, 0⟩).toArray 69 (0, 0)) := hB54
          replace hx := hx.trans' ho54 (fun _ h => h) (fun k hk he => by omega)
          replace how := own_only how ho54 (fun k hk he => by subst he; exact hoff k hk rfl)
          clear hB54 ho54 hs54
          refine WL.nil ?_
          (refine ⟨_, ?_, ?_, ?_, ?_, hC6, h0, h3, h4, h5, h6, how, hx⟩ <;> first | (show _ ≤ (9 : Int); omega) | (show _ < _; omega) | (intro h150; have := hk150 h150; omega) | (simp_all [rightN, numB, leastK, mostK]; done) | (simp_all [rightN, numB, leastK, mostK]; omega))
        · try simp only [decide_eq_true_eq, decide_eq_false_iff_not, Bool.not_eq_true', Bool.not_eq_false', Bool.and_eq_true, Bool.or_eq_true, Bool.and_eq_false_iff, Bool.or_eq_false_iff] at c48
          refine W.seq ?_
          refine W.region ?_
          refine WL.c rfl (o_eq rfl rfl ?_)
          refine WL.c rfl (o_ash (show _ = Value.bool _ from rfl) ?_)
          refine WL.nil ?_
          refine W.cond rfl (fun c55 => ?_) (fun c55 => ?_)
          · try simp only [decide_eq_true_eq, decide_eq_false_iff_not, Bool.not_eq_true', Bool.not_eq_false', Bool.and_eq_true, Bool.or_eq_true, Bool.and_eq_false_iff, Bool.or_eq_false_iff] at c55
            refine W.seq ?_
            refine W.region ?_
            refine WL.c rfl (o_fa 1 TI69 rfl TI43 rfl h6 ?_)
            refine WL.u (o_stB TI43 rfl (show _ = Value.int .u64 0 from rfl) rfl hC6 (show 1 < 3 by decide) ?_)
            intro w57 hB57 ho57 hs57
            replace hC6 : w57.heap[b6]? = some (.cells (ndV ⟨kd, 0, y.kids⟩).toArray 69 (0, 0)) := hB57
            replace hx := hx.trans' ho57 (fun _ h => h) (fun k hk he => by omega)
            replace how := own_only how ho57 (fun k hk he => by subst he; exact hoff k hk rfl)
            clear hB57 ho57 hs57
            refine WL.nil ?_
            refine W.region ?_
            refine WL.c rfl (o_fa 2 TI69 rfl TI3 rfl h6 ?_)
            refine WL.c rfl (o_ld TI3 rfl rfl (cell_of hC6 rfl) ?_)
            refine WL.c rfl (o_mvh h7 ?_)
            refine WL.c rfl (o_minI rfl rfl ?_)
            refine WL.c rfl (o_call Tryd.call28 (lc rfl (lc rfl (lc rfl ln))) ((rest_spec y.kids 0 (if (9 : Int) < lf then 9 else lf) _ (by split <;> omega) (by decide) (by split <;> omega)).mono ?_))
            rintro v62 w62 ⟨⟨q2, rfl, hq20, hq2b⟩, rfl⟩
            have hq29 : q2 ≤ 9 := by split at hq2b <;> omega
            refine WL.c rfl (o_fa 2 TI69 rfl TI3 rfl h6 ?_)
            refine WL.u (o_stB TI3 rfl (show _ = Value.int .i64 q2 from rfl) rfl hC6 (show 2 < 3 by decide) ?_)
            intro w63 hB63 ho63 hs63
            replace hC6 : w63.heap[b6]? = some (.cells (ndV ⟨kd, 0, q2⟩).toArray 69 (0, 0)) := hB63
            replace hx := hx.trans' ho63 (fun _ h => h) (fun k hk he => by omega)
            replace how := own_only how ho63 (fun k hk he => by subst he; exact hoff k hk rfl)
            clear hB63 ho63 hs63
            refine WL.nil ?_
            (refine ⟨_, ?_, ?_, ?_, ?_, hC6, h0, h3, h4, h5, h6, how, hx⟩ <;> first | (show _ ≤ (9 : Int); omega) | (show _ < _; omega) | (intro h150; have := hk150 h150; omega) | (simp_all [rightN, numB, leastK, mostK]; done) | (simp_all [rightN, numB, leastK, mostK]; omega))
          · try simp only [decide_eq_true_eq, decide_eq_false_iff_not, Bool.not_eq_true', Bool.not_eq_false', Bool.and_eq_true, Bool.or_eq_true, Bool.and_eq_false_iff, Bool.or_eq_false_iff] at c55
            refine W.seq ?_
            refine W.region ?_
            refine WL.c rfl (o_eq rfl rfl ?_)
            refine WL.c rfl (o_ash (show _ = Value.bool _ from rfl) ?_)
            refine WL.nil ?_
            refine W.cond rfl (fun c64 => ?_) (fun c64 => ?_)
            · try simp only [decide_eq_true_eq, decide_eq_false_iff_not, Bool.not_eq_true', Bool.not_eq_false', Bool.and_eq_true, Bool.or_eq_true, Bool.and_eq_false_iff, Bool.or_eq_false_iff] at c64
              refine W.seq ?_
              refine W.region ?_
              refine WL.c rfl (o_fa 1 TI69 rfl TI43 rfl h6 ?_)
              refine WL.u (o_stB TI43 rfl (show _ = Value.int .u64 0 from rfl) rfl hC6 (show 1 < 3 by decide) ?_)
              intro w66 hB66 ho66 hs66
              replace hC6 : w66.heap[b6]? = some (.cells (ndV ⟨kd, 0, y.kids⟩).toArray 69 (0, 0)) := hB66
              replace hx := hx.trans' ho66 (fun _ h => h) (fun k hk he => by omega)
              replace how := own_only how ho66 (fun k hk he => by subst he; exact hoff k hk rfl)
              clear hB66 ho66 hs66
              refine WL.nil ?_
              refine W.region ?_
              refine WL.c rfl (o_fa 2 TI69 rfl TI3 rfl h6 ?_)
              refine WL.c rfl (o_ld TI3 rfl rfl (cell_of hC6 rfl) ?_)
              refine WL.c rfl (o_mvh h7 ?_)
              refine WL.c rfl (o_minI rfl rfl ?_)
              refine WL.c rfl (o_maxI rfl rfl ?_)
              refine WL.c rfl (o_call Tryd.call28 (lc rfl (lc rfl (lc rfl ln))) ((rest_spec y.kids 1 (if (1 : Int) < (if (6 : Int) < lf then 6 else lf) then (if (6 : Int) < lf then 6 else lf) else 1) _ (by split <;> split <;> omega) (by decide) (by split <;> split <;> omega)).mono ?_))
              rintro v72 w72 ⟨⟨q2, rfl, hq20, hq2b⟩, rfl⟩
              have hq29 : q2 ≤ 9 := by split at hq2b <;> split at hq2b <;> omega
              refine WL.c rfl (o_fa 2 TI69 rfl TI3 rfl h6 ?_)
              refine WL.u (o_stB TI3 rfl (show _ = Value.int .i64 q2 from rfl) rfl hC6 (show 2 < 3 by decide) ?_)
              intro w73 hB73 ho73 hs73
              replace hC6 : w73.heap[b6]? = some (.cells (ndV ⟨kd, 0, q2⟩).toArray 69 (0, 0)) := hB73
              replace hx := hx.trans' ho73 (fun _ h => h) (fun k hk he => by omega)
              replace how := own_only how ho73 (fun k hk he => by subst he; exact hoff k hk rfl)
              clear hB73 ho73 hs73
              refine WL.nil ?_
              (refine ⟨_, ?_, ?_, ?_, ?_, hC6, h0, h3, h4, h5, h6, how, hx⟩ <;> first | (show _ ≤ (9 : Int); omega) | (show _ < _; omega) | (intro h150; have := hk150 h150; omega) | (simp_all [rightN, numB, leastK, mostK]; done) | (simp_all [rightN, numB, leastK, mostK]; omega))
            · try simp only [decide_eq_true_eq, decide_eq_false_iff_not, Bool.not_eq_true', Bool.not_eq_false', Bool.and_eq_true, Bool.or_eq_true, Bool.and_eq_false_iff, Bool.or_eq_false_iff] at c64
              refine W.seq ?_
              refine W.region ?_
              refine WL.c rfl (o_eq rfl rfl ?_)
              refine WL.c rfl (o_ash (show _ = Value.bool _ from rfl) ?_)
              refine WL.nil ?_
              refine W.cond rfl (fun c74 => ?_) (fun c74 => ?_)
              · try simp only [decide_eq_true_eq, decide_eq_false_iff_not, Bool.not_eq_true', Bool.not_eq_false', Bool.and_eq_true, Bool.or_eq_true, Bool.and_eq_false_iff, Bool.or_eq_false_iff] at c74
                refine W.seq ?_
                refine W.region ?_
                refine WL.c rfl (o_fa 1 TI69 rfl TI43 rfl h6 ?_)
                refine WL.u (o_stB TI43 rfl (show _ = Value.int .u64 0 from rfl) rfl hC6 (show 1 < 3 by decide) ?_)
                intro w76 hB76 ho76 hs76
                replace hC6 : w76.heap[b6]? = some (.cells (ndV ⟨kd, 0, y.kids⟩).toArray 69 (0, 0)) := hB76
                replace hx := hx.trans' ho76 (fun _ h => h) (fun k hk he => by omega)
                replace how := own_only how ho76 (fun k hk he => by subst he; exact hoff k hk rfl)
                clear hB76 ho76 hs76
                refine WL.nil ?_
                refine W.region ?_
                refine WL.c rfl (o_fa 2 TI69 rfl TI3 rfl h6 ?_)
                refine WL.c rfl (o_ld TI3 rfl rfl (cell_of hC6 rfl) ?_)
                refine WL.c rfl (o_call Tryd.call28 (lc rfl (lc rfl (lc rfl ln))) ((rest_spec y.kids 0 1 _ (by decide) (by decide) (by decide)).mono ?_))
                rintro v79 w79 ⟨⟨q2, rfl, hq20, hq2b⟩, rfl⟩
                refine WL.c rfl (o_fa 2 TI69 rfl TI3 rfl h6 ?_)
                refine WL.u (o_stB TI3 rfl (show _ = Value.int .i64 q2 from rfl) rfl hC6 (show 2 < 3 by decide) ?_)
                intro w80 hB80 ho80 hs80
                replace hC6 : w80.heap[b6]? = some (.cells (ndV ⟨kd, 0, q2⟩).toArray 69 (0, 0)) := hB80
                replace hx := hx.trans' ho80 (fun _ h => h) (fun k hk he => by omega)
                replace how := own_only how ho80 (fun k hk he => by subst he; exact hoff k hk rfl)
                clear hB80 ho80 hs80
                refine WL.nil ?_
                (refine ⟨_, ?_, ?_, ?_, ?_, hC6, h0, h3, h4, h5, h6, how, hx⟩ <;> first | (show _ ≤ (9 : Int); omega) | (show _ < _; omega) | (intro h150; have := hk150 h150; omega) | (simp_all [rightN, numB, leastK, mostK]; done) | (simp_all [rightN, numB, leastK, mostK]; omega))
              · try simp only [decide_eq_true_eq, decide_eq_false_iff_not, Bool.not_eq_true', Bool.not_eq_false', Bool.and_eq_true, Bool.or_eq_true, Bool.and_eq_false_iff, Bool.or_eq_false_iff] at c74
                refine W.seq ?_
                refine W.region ?_
                refine WL.c rfl (o_eq rfl rfl ?_)
                refine WL.c rfl (o_ash (show _ = Value.bool _ from rfl) ?_)
                refine WL.nil ?_
                refine W.cond rfl (fun c81 => ?_) (fun c81 => ?_)
                · try simp only [decide_eq_true_eq, decide_eq_false_iff_not, Bool.not_eq_true', Bool.not_eq_false', Bool.and_eq_true, Bool.or_eq_true, Bool.and_eq_false_iff, Bool.or_eq_false_iff] at c81
                  refine W.seq ?_
                  refine W.region ?_
                  refine WL.c rfl (o_fa 1 TI69 rfl TI43 rfl h6 ?_)
                  refine WL.c rfl (o_ld TI43 rfl rfl (cell_of hC6 rfl) ?_)
                  refine WL.c rfl (n_rem (b := 256) rfl rfl (by decide) ?_)
                  refine WL.c rfl (o_fa 1 TI69 rfl TI43 rfl h6 ?_)
                  refine WL.u (o_stB TI43 rfl (show _ = Value.int .u64 ((y.n % 256 : Nat) : Int) from rfl) rfl hC6 (show 1 < 3 by decide) ?_)
                  intro w86 hB86 ho86 hs86
                  replace hC6 : w86.heap[b6]? = some (.cells (ndV ⟨kd, y.n % 256, y.kids⟩).toArray 69 (0, 0)) := hB86
                  replace hx := hx.trans' ho86 (fun _ h => h) (fun k hk he => by omega)
                  replace how := own_only how ho86 (fun k hk he => by subst he; exact hoff k hk rfl)
                  clear hB86 ho86 hs86
                  refine WL.nil ?_
                  refine W.region ?_
                  refine WL.c rfl (o_fa 2 TI69 rfl TI3 rfl h6 ?_)
                  refine WL.u (o_stB TI3 rfl (show _ = Value.int .i64 1 from rfl) rfl hC6 (show 2 < 3 by decide) ?_)
                  intro w87 hB87 ho87 hs87
                  replace hC6 : w87.heap[b6]? = some (.cells (ndV ⟨kd, y.n % 256, 1⟩).toArray 69 (0, 0)) := hB87
                  replace hx := hx.trans' ho87 (fun _ h => h) (fun k hk he => by omega)
                  replace how := own_only how ho87 (fun k hk he => by subst he; exact hoff k hk rfl)
                  clear hB87 ho87 hs87
                  refine WL.nil ?_
                  (refine ⟨_, ?_, ?_, ?_, ?_, hC6, h0, h3, h4, h5, h6, how, hx⟩ <;> first | (show _ ≤ (9 : Int); omega) | (show _ < _; omega) | (intro h150; have := hk150 h150; omega) | (simp_all [rightN, numB, leastK, mostK]; done) | (simp_all [rightN, numB, leastK, mostK]; omega))
                · try simp only [decide_eq_true_eq, decide_eq_false_iff_not, Bool.not_eq_true', Bool.not_eq_false', Bool.and_eq_true, Bool.or_eq_true, Bool.and_eq_false_iff, Bool.or_eq_false_iff] at c81
                  exfalso; omega
    rintro e w ⟨x, hrt, hk0, hk9, hxn, hC6, h0, h3, h4, h5, h6, how, hx⟩
    refine W.seq ?_
    refine W.region ?_
    refine WL.c rfl (o_mvh h3 ?_)
    refine WL.c rfl (o_ldA TI69 rfl h6 (show Cells _ b6 0 (ndV x) from Cells.of hC6 0 _ (by simp)) rfl ?_)
    refine WL.ap1 (w0.heap.size) rfl rfl TI30 TI69 (show _ = Value.agg (ndV x).toArray from rfl) rfl how (by decide) (by decide) rfl (fun a ha => by simp [Value.cells, ndV] at ha; rcases ha with rfl | rfl | rfl <;> rfl) rfl (by rw [maxLen_eq]; omega) (by omega) hx.size ?_
    intro v91 w91 hown ho
    replace hC6 := ho.blk hC6 (fun hk => hoff _ hk rfl)
    replace hx := hx.trans' ho (fun _ h => h) (fun b hb he => by have := (how.lt b he).1; omega)
    replace hown : w91.ownsRow w0.heap.size 69 3 v91 (L ++ [x]).length (nds (L ++ [x])) := by rw [nds_snoc, List.length_append]; exact hown
    clear how
    have how := hown
    clear hown ho
    refine WL.c rfl (o_ash (by first | exact (show _ = Value.slice _ _ _ from rfl) | exact rfl) ?_)
    refine WL.nil ?_
    refine W.region ?_
    refine WL.c rfl (o_mvh h4 ?_)
    refine WL.c rfl (o_subi rfl rfl (by omega) ?_)
    refine WL.c rfl (o_fa 2 TI69 rfl TI3 rfl h6 ?_)
    refine WL.c rfl (o_ld TI3 rfl rfl (cell_of hC6 rfl) ?_)
    refine WL.c rfl (o_addi rfl rfl (by have := (right_kids hrt).1; omega) ?_)
    refine WL.c rfl (o_ash (show _ = Value.int _ _ from rfl) ?_)
    refine WL.nil ?_
    refine W.region ?_
    refine WL.c rfl (o_mvh h5 ?_)
    refine WL.c rfl (o_addi rfl rfl (by omega) ?_)
    refine WL.c rfl (o_ash (show _ = Value.int _ _ from rfl) ?_)
    refine WL.nil ?_
    have hLs : (L ++ [x]).length = L.length + 1 := by simp
    refine ⟨⟨L ++ [x], wt + (x.kids - 1), _, h0, rfl, by show Value.int _ _ = _; congr 1; omega, by rw [hLs]; rfl, by have := (right_kids hrt).1; omega, by rw [hLs]; by_cases h150 : 150 ≤ L.length; have := hk0 h150; omega; omega, chk_snoc hchk hrt (by omega), fun y hy => by
      rcases List.mem_append.1 hy with hy | hy
      · exact hNL y hy
      · rw [List.mem_singleton.1 hy]; exact hxn, how, hx⟩, ?_⟩
    show 1352 - ((L.length : Int) + 1).toNat < _
    rw [hm5]; simp [intOf]; omega
  · try simp only [decide_eq_true_eq, decide_eq_false_iff_not, Bool.not_eq_true', Bool.not_eq_false', Bool.and_eq_true, Bool.or_eq_true, Bool.and_eq_false_iff, Bool.or_eq_false_iff] at c9
    have hwz : wt = 0 := by omega
    subst hwz
    have hc0 := hchk []
    rw [List.append_nil, chkG, if_neg (by decide)] at hc0
    obtain ⟨t, ht, htl⟩ := chk_ok.1 (show (chkV L).1 = 0 by rw [hc0])
    refine W.exit ?_
    refine W.seq ?_
    refine W.region ?_
    refine WL.c rfl (o_mvh h3 ?_)
    refine WL.c rfl (o_ash (by first | exact (show _ = Value.slice _ _ _ from rfl) | exact rfl) ?_)
    refine WL.nil ?_
    refine W.ret ?_
    refine ret1v rfl rfl ?_
    exact ⟨t, ht, by rw [htl]; exact hNL, by rw [htl]; exact hLl, by rw [htl]; exact how, hx⟩
end Go.Proofs.YtgmjfcekeglhjaaDoor

set_option linter.unusedSimpArgs false
set_option linter.unusedVariables false
set_option maxRecDepth 100000
namespace Go.Proofs.YtgmjfcekeglhjaaDoor
open Go Go.Vc Go.RowKit Go.Proofs

theorem nds_at {L : List Nd} {p c : Nat} (hp : p < L.length) (hc : c < 3) : (nds L)[p * 3 + c]? = (ndV L[p])[c]? := by
  have h := nds_get (L := L.take p) (M := L.drop (p + 1)) (x := L[p]) hc
  rw [List.getElem_cons_drop hp, List.take_append_drop, List.length_take, Nat.min_eq_left (by omega)] at h
  exact h

theorem nds_take : ∀ (L : List Nd) (p : Nat), (nds L).take (p * 3) = nds (L.take p)
  | [], p => by simp [nds]
  | x :: L, 0 => by simp [nds]
  | x :: L, p + 1 => by
    have := nds_take L p
    rw [show nds (x :: L) = ndV x ++ nds L by simp [nds], List.take_succ_cons, show nds (x :: L.take p) = ndV x ++ nds (L.take p) by simp [nds], ← this, show (p + 1) * 3 = (ndV x).length + p * 3 by rw [ndV_len]; omega, List.take_length_add_append]

end Go.Proofs.YtgmjfcekeglhjaaDoor

set_option linter.unusedSimpArgs false
set_option linter.unusedVariables false
namespace Go.Vc
open Go Go.RowKit Go.ChangeShapes Go.WideShapes

theorem addr_add (a : Addr) (m k : Nat) : (a.add m).add k = a.add (m + k) := by
  unfold Addr.add
  by_cases hm : m = 0 <;> by_cases hk : k = 0 <;> simp [hm, hk, Nat.add_assoc]

theorem list_of {α : Type} (p : Nat → α → Prop) : ∀ n, (∀ i, i < n → ∃ o, p i o) → ∃ os : List α, os.length = n ∧ ∀ i (h : i < os.length), p i os[i]
  | 0, _ => ⟨[], rfl, fun i h => by simp at h⟩
  | n + 1, h => by
    obtain ⟨os, h1, h2⟩ := list_of p n (fun i hi => h i (by omega))
    obtain ⟨o, ho⟩ := h n (by omega)
    refine ⟨os ++ [o], by simp [h1], fun i hi => ?_⟩
    by_cases e : i < os.length
    · rw [List.getElem_append_left e]; exact h2 i e
    · simp at hi
      have e2 : i = n := by omega
      subst e2
      rw [List.getElem_append_right (by omega)]
      simpa [h1] using ho
theorem flatMap_get {α : Type} {cells : α → List Value} {s : Nat} (hlen : ∀ o, (cells o).length = s) : ∀ (os : List α) (idx : Nat) (v : Value), (os.flatMap cells)[idx]? = some v → ∃ i j, ∃ h : i < os.length, idx = i * s + j ∧ (cells os[i])[j]? = some v
  | [], idx, v, h => by simp at h
  | o :: os, idx, v, h => by
    rw [List.flatMap_cons] at h
    by_cases e : idx < s
    · rw [List.getElem?_append_left (by rw [hlen]; exact e)] at h
      exact ⟨0, idx, by simp, by omega, h⟩
    · rw [List.getElem?_append_right (by rw [hlen]; omega), hlen] at h
      obtain ⟨i, j, hi, h1, h2⟩ := flatMap_get hlen os (idx - s) v h
      refine ⟨i + 1, j, by simp; omega, ?_, by simpa using h2⟩
      rw [Nat.add_mul]; omega
/-- its weights are within reach -/
def Small {H : Type} (P : Program) (t : TypeId) (d : DataW H) : Prop := ∀ n ∈ d.weights P t, n ≤ reachBytes
theorem Small.size {H : Type} {P : Program} {t e : TypeId} {elems spare : List (DataW H)} (h : Small P t (.slice elems spare)) (hu : P.underlying t = some (.slice e)) : (elems.length + spare.length) * P.bytesOf e ≤ reachBytes :=
  h _ (by simp only [DataW.weights, hu]; exact List.mem_cons_self ..)
theorem Small.part {H : Type} {P : Program} {t u : TypeId} {fs : Array Field} {parts : List (DataW H)} {i : Nat} {d : DataW H} (h : Small P t (.agg parts)) (hu : P.underlying t = some (.struct fs)) (hf : (fs.toList.map (·.type))[i]? = some u) (hd : parts[i]? = some d) : Small P u d := fun n hn =>
  h n (by simp only [DataW.weights, hu]; exact DataW.weights_mem_each hf hd n hn)
section
variable {H : Type} {enc : TypeId × Value → H} {P : Program} {W : World} {held : Bool}
theorem open_struct_len {t : TypeId} {fs : Array Field} {s : Nat} (hu : P.underlying t = some (.struct fs)) (hs : P.cellsOf t = s) {fuel : Nat} {cs : List Value} {x : DataW H × List MemPlace} (h : DataW.trod enc P W 0 (fun _ => true) held fuel t cs = some x) : cs.length = s := by
  obtain ⟨xs, n, -, -, h1, -⟩ := DataW.trod_struct hu h
  rw [h1, hs]
end
end Go.Vc

set_option linter.unusedSimpArgs false
set_option linter.unusedVariables false
set_option maxRecDepth 100000
namespace Go.Proofs.YtgmjfcekeglhjaaDoor
open Go Go.Vc Go.RowKit Go.Proofs

section
variable {H : Type} {enc : TypeId × Value → H} {P : Program} {W : World} {held : Bool}
/-- a slice of what is opened by 'hc', of any size -/
theorem open_rowsN {α : Type} {t e : TypeId} (s : Nat) (cells : α → List Value) (p : α → Prop) (hu : P.underlying t = some (.slice e)) (hs : P.cellsOf e = s) (hs0 : 0 < s) (hlen : ∀ o, (cells o).length = s)
    (hc : ∀ (n : Nat) (cs : List Value) (y : DataW H × List MemPlace), DataW.trod enc P W 0 (fun _ => true) held n e cs = some y → ∃ o, cs = cells o ∧ p o)
    {fuel : Nat} {v : Value} {x : DataW H × List MemPlace} (h : DataW.trod enc P W 0 (fun _ => true) held fuel t [v] = some x) :
    ∃ os : List α, os.length ≤ maxLen ∧ Sl W s v os.length (os.flatMap cells) ∧ ∀ o ∈ os, p o := by
  rcases DataW.trod_slice hu h with ⟨hcs, hd⟩ | ⟨a, len, cap, elems, rest, n, -, hcs, hx, -, hl, hm, hle, hel, -, -⟩
  · simp only [List.cons.injEq, and_true] at hcs
    subst hcs
    exact ⟨[], Nat.zero_le _, Sl.nil W s, fun o h => by cases h⟩
  · simp only [List.cons.injEq, and_true] at hcs
    subst hcs
    subst hx
    have key : ∀ i, i < len → ∃ o : α, (∀ j v, (cells o)[j]? = some v → W.cell? (a.add (i * s + j)) = some v) ∧ p o := by
      intro i hi
      have he := hel i hi
      rw [List.getElem?_eq_getElem (by omega), hs, Option.bind_eq_some_iff] at he
      obtain ⟨cs, h1, h2⟩ := he
      obtain ⟨-, h4, h5⟩ := World.cells?_some h1
      obtain ⟨o, ho, hp⟩ := hc n cs _ h2
      subst ho
      refine ⟨o, fun j v hj => ?_, hp⟩
      have hjs : j < s := by have := (List.getElem?_eq_some_iff.1 hj).1; rw [hlen] at this; exact this
      have := h5 j hjs
      rw [← hj, ← this, addr_add]
    obtain ⟨os, ho1, ho2⟩ := list_of _ len key
    refine ⟨os, by omega, ⟨?_, ?_⟩, fun o ho => ?_⟩
    · clear ho2 ho1
      induction os with
      | nil => simp
      | cons o os ih => rw [List.flatMap_cons, List.length_append, hlen, ih, List.length_cons, Nat.add_mul]; omega
    · by_cases h0 : len = 0
      · subst h0; exact .inl ⟨ho1, _, _, rfl⟩
      · obtain ⟨b, off, spot⟩ := a
        have h00 := (ho2 0 (by omega)).1 0 ((cells (os[0]'(by omega)))[0]'(by rw [hlen]; exact hs0)) (List.getElem?_eq_getElem _)
        have hsp : spot = none := by simpa [Addr.add] using World.cell?_spot h00
        subst hsp
        refine .inr ⟨b, off, cap, by rw [ho1], by omega, fun idx u hu => ?_⟩
        obtain ⟨i, j, hi, h1, h2⟩ := flatMap_get hlen os idx u hu
        have h3 := (ho2 i hi).1 j u h2
        rw [h1, ← h3, add_none]
    · obtain ⟨i, hi, rfl⟩ := List.getElem_of_mem ho
      exact (ho2 i hi).2
theorem open_fieldN {t u : TypeId} {fs : Array Field} {f : Field} (i off s : Nat) (hu : P.underlying t = some (.struct fs)) (hf : fs[i]? = some f) (ht : f.type = u) (ho : f.offset = off) (hs : P.cellsOf u = s) {fuel : Nat} {cs : List Value} {x : DataW H × List MemPlace}
    (h : DataW.trod enc P W 0 (fun _ => true) held fuel t cs = some x) : ∃ n y, DataW.trod enc P W 0 (fun _ => true) held n u ((cs.drop off).take s) = some y := by
  subst ht ho hs
  obtain ⟨xs, n, -, hx, -, hl, hall⟩ := DataW.trod_struct hu h
  have hi : i < fs.size := (Array.getElem?_eq_some_iff.1 hf).1
  have h1 := hall i f hf
  rw [List.getElem?_eq_getElem (by omega)] at h1
  exact ⟨n, _, h1⟩
theorem three_cells {cs : List Value} (h : cs.length = 3) : ∃ a b c, cs = [a, b, c] := by
  match cs, h with
  | [a, b, c], _ => exact ⟨a, b, c, rfl⟩
theorem open_node {n : Nat} {cs : List Value} {y : DataW H × List MemPlace} (h : DataW.trod enc Tryd.prog W 0 (fun _ => true) held n 69 cs = some y) : ∃ x : Nd, cs = ndV x ∧ x.n < 18446744073709551616 := by
  have hl := open_struct_len (s := 3) Tryd.underlying69 (by kernel_rfl) h
  obtain ⟨a, b, c, rfl⟩ := three_cells hl
  obtain ⟨n0, y0, h0⟩ := open_fieldN 0 0 1 Tryd.underlying69 rfl rfl rfl (by kernel_rfl) h
  obtain ⟨n1, y1, h1⟩ := open_fieldN 1 1 1 Tryd.underlying69 rfl rfl rfl (by kernel_rfl) h
  obtain ⟨n2, y2, h2⟩ := open_fieldN 2 2 1 Tryd.underlying69 rfl rfl rfl (by kernel_rfl) h
  obtain ⟨k, hk, -, -⟩ := DataW.trod_int Tryd.underlying3 h0
  obtain ⟨m, hm, -, wm⟩ := DataW.trod_int Tryd.underlying43 h1
  obtain ⟨q, hq, -, -⟩ := DataW.trod_int Tryd.underlying3 h2
  simp only [List.drop_zero, List.drop_succ_cons, List.take_succ_cons, List.take_zero, List.cons.injEq, and_true] at hk hm hq
  simp [Lit.wf, IntKind.min, IntKind.max, IntKind.signed, IntKind.bits] at wm
  refine ⟨⟨k, m.toNat, q⟩, ?_, by show m.toNat < _; omega⟩
  rw [hk, hm, hq]
  have : m = ((m.toNat : Nat) : Int) := by omega
  rw [this]
  rfl
theorem open_nodes {fuel : Nat} {v : Value} {x : DataW H × List MemPlace} (h : DataW.trod enc Tryd.prog W 0 (fun _ => true) held fuel 30 [v] = some x) : ∃ R : List Nd, Sl W 3 v R.length (nds R) ∧ R.length ≤ 9223372036854775807 ∧ NOk R := by
  obtain ⟨R, h1, h2, h3⟩ := open_rowsN 3 ndV (fun x => x.n < 18446744073709551616) Tryd.underlying30 (by kernel_rfl) (by decide) (fun _ => rfl) (fun n cs y hy => open_node hy) h
  exact ⟨R, h2, by rw [maxLen_eq] at h1; omega, h3⟩
end

end Go.Proofs.YtgmjfcekeglhjaaDoor

set_option linter.unusedSimpArgs false
set_option linter.unusedVariables false
set_option maxRecDepth 100000
namespace Go.Proofs.YtgmjfcekeglhjaaDoor
open Go Go.Vc Go.RowKit Go.Proofs

def runS : Md → List Zf → List UInt8 → Option (Md × List Zf)
  | m, K, [] => some (m, K)
  | m, K, c :: l => match stepZ m K c with | some s => runS s.1 s.2 l | none => none
theorem prs_run : ∀ (l1 l2 : List UInt8) (m : Md) (K : List Zf) (i : Nat) (s : Md × List Zf), runS m K l1 = some s → prsZ m K (l1 ++ l2) i = prsZ s.1 s.2 l2 (i + l1.length)
  | [], l2, m, K, i, s, h => by
    simp only [runS, Option.some.injEq] at h
    subst h
    rfl
  | c :: l, l2, m, K, i, s, h => by
    rw [runS] at h
    cases hs : stepZ m K c with
    | none => rw [hs] at h; cases h
    | some x =>
      rw [hs] at h
      rw [List.cons_append, prs_step (m' := x.1) (K' := x.2) (by rw [hs]), prs_run l l2 x.1 x.2 (i + 1) s h, List.length_cons, show i + 1 + l.length = i + (l.length + 1) by omega]
/-- where it dies, with anything behind -/
theorem prs_dies : ∀ (l1 : List UInt8) (m : Md) (K : List Zf) (i : Nat), runS m K l1 = none → ∃ j, j < l1.length ∧ ∀ l2, prsZ m K (l1 ++ l2) i = (none, i + j)
  | [], m, K, i, h => by cases h
  | c :: l, m, K, i, h => by
    rw [runS] at h
    cases hs : stepZ m K c with
    | none => exact ⟨0, Nat.succ_pos _, fun l2 => by rw [List.cons_append, prs_none hs]; rfl⟩
    | some x =>
      rw [hs] at h
      obtain ⟨j, hj, h1⟩ := prs_dies l x.1 x.2 (i + 1) h
      exact ⟨j + 1, Nat.succ_lt_succ hj, fun l2 => by rw [List.cons_append, prs_step (m' := x.1) (K' := x.2) (by rw [hs]), h1, show i + 1 + j = i + (j + 1) by omega]⟩
theorem run_some {T : List UInt8} {t : Vt} {p : Nat} {m : Md} {K : List Zf} {i : Nat} (h : prsZ m K T i = (some t, p)) : ∃ s, runS m K T = some s ∧ finZ s.1 s.2 = some t ∧ p = 0 := by
  cases hr : runS m K T with
  | none =>
    obtain ⟨j, -, h1⟩ := prs_dies T m K i hr
    have := h1 []
    rw [List.append_nil, h] at this
    cases this
  | some s =>
    have h1 := prs_run T [] m K i s hr
    rw [List.append_nil, h] at h1
    refine ⟨s, rfl, ?_⟩
    rw [prsZ] at h1
    cases hf : finZ s.1 s.2 with
    | none => rw [hf] at h1; cases h1
    | some u =>
      rw [hf] at h1
      simp only [Prod.mk.injEq, Option.some.injEq] at h1
      exact ⟨by rw [h1.1], h1.2⟩
theorem aft_dead : ∀ (K : List Zf) (t u : Vt) (c : UInt8), finA t K = some u → aftS t K c = none
  | [], t, u, c, h => rfl
  | f :: K, t, u, c, h => by
    rw [finA] at h
    split at h
    · rename_i hs
      have hk : ¬ (f.kind = 3 ∨ f.kind = 4) := fun hk => by
        unfold shutT at hs
        rcases hk with hk | hk <;> simp [hk] at hs
      rw [aftS, if_neg (fun h => hk h.1), hs]
      exact aft_dead K (clz f t) u c h
    · cases h
theorem finA_flat : ∀ (K : List Zf), ∃ P : List Nd, ∀ a t : Vt, finA a K = some t → t.flat = P ++ a.flat
  | [] => ⟨[], fun a t h => by simp only [finA, Option.some.injEq] at h; subst h; rfl⟩
  | f :: K => by
    obtain ⟨P, hP⟩ := finA_flat K
    refine ⟨P ++ (⟨f.kind, f.n, (f.done.len : Int) + 1⟩ :: f.done.flat), fun a t h => ?_⟩
    rw [finA] at h
    split at h
    · rw [hP _ t h, clz_flat]; simp
    · cases h
theorem digits_only : ∀ (l : List UInt8) (n : Nat) (K : List Zf) (i p : Nat) (t u : Vt), finA (lf 1 n) K = some t → prsZ (.num n) K l i = (some u, p) → ∃ n', finA (lf 1 n') K = some u
  | [], n, K, i, p, t, u, ht, h => by
    rw [prsZ] at h
    cases hf : finZ (.num n) K with
    | none => rw [hf] at h; cases h
    | some x =>
      rw [hf] at h
      simp only [Prod.mk.injEq, Option.some.injEq] at h
      exact ⟨n, by rw [← h.1]; exact hf⟩
  | c :: l, n, K, i, p, t, u, ht, h => by
    rw [prs_cons, stepZ] at h
    split at h
    · rename_i s hs
      split at hs
      · split at hs
        · cases hs
        · simp only [Option.some.injEq] at hs
          subst hs
          obtain ⟨v, hv⟩ : ∃ v, finA (lf 1 (10 * n + dg c)) K = some v := fin_any K (lf 1 n) t ht _
          exact digits_only l (10 * n + dg c) K (i + 1) p v u hv h
      · rw [aft_dead K _ t c ht] at hs; cases hs
    · cases h
where
  fin_any : ∀ (K : List Zf) (a t : Vt), finA a K = some t → ∀ b, ∃ v, finA b K = some v
    | [], a, t, h, b => ⟨b, rfl⟩
    | f :: K, a, t, h, b => by
      rw [finA] at h ⊢
      split at h
      · rename_i hs
        rw [if_pos hs]
        exact fin_any K _ t h _
      · cases h
/-- one text begins the other: the values differ in the number at their end -/
theorem pre_law {t u : Vt} (ht : tOk t) (hu : tOk u) {l : List UInt8} (h : u.txt = t.txt ++ l) (hl : l ≠ []) : ∃ (P : List Nd) (n n' : Nat), t.flat = P ++ [⟨1, n, 0⟩] ∧ u.flat = P ++ [⟨1, n', 0⟩] := by
  obtain ⟨s, hs, hf, -⟩ := run_some (par_txt ht)
  have h1 : parZ u.txt = (some u, 0) := par_txt hu
  rw [h, parZ, prs_run t.txt l .bgn [] 0 s hs] at h1
  obtain ⟨c, l', rfl⟩ : ∃ c l', l = c :: l' := by cases l with | nil => exact absurd rfl hl | cons c l' => exact ⟨c, l', rfl⟩
  obtain ⟨m, K⟩ := s
  obtain ⟨P, hP⟩ := finA_flat K
  cases m with
  | num n =>
    obtain ⟨n', hn⟩ := digits_only (c :: l') n K _ 0 t u hf h1
    exact ⟨P, n, n', hP _ t hf, hP _ u hn⟩
  | aft a =>
    have h2 := aft_dead K a t c hf
    rw [prs_none (show stepZ (.aft a) K c = none by rw [stepZ]; exact h2)] at h1
    cases h1
  | bgn => cases hf
  | sq1 => cases hf
  | tag0 => cases hf
  | tag n => cases hf
  | word a w t => cases hf

end Go.Proofs.YtgmjfcekeglhjaaDoor

set_option linter.unusedSimpArgs false
set_option linter.unusedVariables false
set_option maxRecDepth 100000
namespace Go.Proofs.YtgmjfcekeglhjaaDoor
open Go Go.Vc Go.RowKit Go.Proofs

mutual
theorem txt_len : ∀ (t : Vt), NOk t.flat → t.txt.length + 2 ≤ 27 * t.flat.length
  | .node x ks, h => by
    have h1 := leafT_le (h x (by simp [Vt.flat]))
    have h2 := shutT_le x.kind
    have h3 := txts_len ks false (fun y hy => h y (by simp [Vt.flat, hy]))
    rw [Vt.txt, Vt.flat, List.length_append, List.length_append, List.length_cons]
    omega
theorem txts_len : ∀ (ts : Vts) (d : Bool), NOk ts.flat → (ts.txtS d).length ≤ 27 * ts.flat.length
  | .nil, d, _ => Nat.zero_le _
  | .cons t ts, d, h => by
    have h1 := txt_len t (fun y hy => h y (by simp [Vts.flat, hy]))
    have h2 := txts_len ts true (fun y hy => h y (by simp [Vts.flat, hy]))
    have h3 : (if d then [44, 32] else [] : List UInt8).length ≤ 2 := by split <;> simp
    rw [Vts.txtS, Vts.flat, List.length_append, List.length_append, List.length_append]
    omega
end
theorem own_front {w wd : World} {base b c : Nat} {L P : List Nd} (h : wd.ownsRow base 69 3 (.slice (some ⟨b, 0, none⟩) L.length c) L.length (nds L)) (hx : Ext wd w) (he : L.take P.length = P) (hp : P.length ≤ L.length) : Sl w 3 (.slice (some ⟨b, 0, none⟩) P.length c) P.length (nds P) := by
  have h1 := own_take (own_ext h hx) hp
  rw [nds_take, he] at h1
  exact Sl.own h1
theorem parse_cases {T : List UInt8} {r : Value} {w w' : World} (hT : T.length ≤ 1048576) (h : Ext w w' ∧ (1048576 < T.length → r = .tuple #[.slice none 0 0, .agg #[.int .i64 4, .int .i64 0]]) ∧ (T.length ≤ 1048576 → ((parZ T).1 = none → r = .tuple #[.slice none 0 0, .agg #[.int .i64 41, .int .i64 ((parZ T).2 : Int)]] ∧ (parZ T).2 ≤ T.length) ∧ ∀ u, (parZ T).1 = some u → u.flat.length ≤ T.length ∧ ∃ nv, r = .tuple #[nv, .agg #[.int .i64 0, .int .i64 0]] ∧ w'.ownsRow w.heap.size 69 3 nv u.flat.length (nds u.flat))) :
    Ext w w' ∧ ∃ (er p : Int) (yv : Value) (ul : List Nd), r = .tuple #[yv, .agg #[.int .i64 er, .int .i64 p]] ∧ w'.ownsRow w.heap.size 69 3 yv ul.length (nds ul) ∧ ul.length ≤ T.length ∧
      ((parZ T = (none, p.toNat) ∧ er = 41 ∧ 0 ≤ p ∧ p ≤ T.length ∧ ul = []) ∨ (er = 0 ∧ p = 0 ∧ ∃ u, parZ T = (some u, 0) ∧ tOk u ∧ u.txt = T ∧ u.flat = ul)) := by
  obtain ⟨hx, -, h2⟩ := h
  obtain ⟨h3, h4⟩ := h2 hT
  refine ⟨hx, ?_⟩
  cases hp : (parZ T).1 with
  | none =>
    obtain ⟨rfl, h5⟩ := h3 hp
    exact ⟨41, ((parZ T).2 : Int), _, [], rfl, World.ownsRow_nil _ _ _ _, Nat.zero_le _, .inl ⟨by rw [Int.toNat_natCast, ← hp], rfl, by omega, by omega, rfl⟩⟩
  | some u =>
    obtain ⟨h5, nv, rfl, h6⟩ := h4 u hp
    obtain ⟨h7, h8, h9⟩ := par_sound hp
    exact ⟨0, 0, nv, u.flat, rfl, h6, h5, .inr ⟨rfl, rfl, u, by rw [← h9, ← hp], h7, h8, rfl⟩⟩
theorem txt_iff {t u : Vt} (h : tOk t) (k : tOk u) : t.txt = u.txt ↔ t.flat = u.flat := ⟨fun e => by rw [txt_inj h k e], fun e => by rw [flat_inj h.1 k.1 e]⟩
theorem chk_of {L : List Nd} (h : (chkV L).1 = 0) : chkV L = (0, 0) := by
  have key : ∀ (l : List Nd) (w : Int) (i : Nat), (chkG w i l).1 = 0 → chkG w i l = (0, 0) := by
    intro l
    induction l with
    | nil =>
      intro w i h
      rw [chkG] at h ⊢
      by_cases hw : 0 < w
      · rw [if_pos hw] at h; cases h
      · rw [if_neg hw]
    | cons x l ih =>
      intro w i h
      rw [chkG] at h ⊢
      by_cases hb : w = 0 ∨ rightN x = false
      · rw [if_pos hb] at h; cases h
      · rw [if_neg hb] at h ⊢; exact ih _ _ h
  exact key L 1 0 h

set_option maxHeartbeats 16000000 in
theorem back_walk (w0 : World) (v : Value) (R : List Nd) (hS : Sl w0 3 v R.length (nds R)) (hR : R.length ≤ 9223372036854775807) (hN : NOk R) (v2 : Value) (R2 : List Nd) (hS2 : Sl w0 3 v2 R2.length (nds R2)) (hR2 : R2.length ≤ 9223372036854775807) (hN2 : NOk R2) (T : List UInt8) (hT0 : T.length ≤ 9223372036854775807) (hT : Tab w0) (h00 : 0 < w0.heap.size) : Ca Tryd.prog 5 #[v, v2, st T] w0 (fun r w' => r = .bool true ∧ Ext w0 w') := by
  refine Ca.of Tryd.func5 Tryd.ntmps5 rfl rfl ?_
  refine W.seq ?_
  refine W.region ?_
  refine WL.c rfl (o_ash (show _ = Value.bool _ from rfl) ?_)
  refine WL.nil ?_
  refine W.seq ?_
  refine W.seq ?_
  refine W.region ?_
  refine WL.c rfl (o_call Tryd.call9 ln ((awake_spec _ hT h00).mono ?_))
  rintro v20 w20 ⟨rfl, hx20⟩
  have hx := hx20
  refine WL.c rfl (o_not' rfl ?_)
  refine WL.nil ?_
  refine W.condF' rfl (by decide) ?_
  refine W.skip ?_
  refine W.seq ?_
  refine W.region ?_
  refine WL.c rfl (o_mvh (by first | exact (show _ = Value.slice _ _ _ from rfl) | exact rfl) ?_)
  refine WL.c rfl (o_call Tryd.call22 (lc rfl ln) ((made_spec R v _ (hS.ext hx) hR hN).mono ?_))
  rintro nv w23 ⟨t, htw, htn, htl, hv, hx23⟩
  replace hv := own_mono hv hx.size
  replace hx := hx.tr hx23
  have htp := t.flat_pos
  obtain ⟨L, hLL⟩ : ∃ L, L = t.flat := ⟨_, rfl⟩
  have hcL : (chkV L).1 = 0 := chk_ok.2 ⟨t, htw, hLL.symm⟩
  rw [← hLL] at htl htp hv htn
  refine WL.c rfl (o_ash (by first | exact (show _ = Value.slice _ _ _ from rfl) | exact rfl) ?_)
  refine WL.nil ?_
  refine W.seq ?_
  refine W.region ?_
  refine WL.c rfl (o_mvh (by first | exact (show _ = Value.slice _ _ _ from rfl) | exact rfl) ?_)
  refine WL.c rfl (o_call Tryd.call22 (lc rfl ln) ((made_spec R2 v2 _ (hS2.ext hx) hR2 hN2).mono ?_))
  rintro mv w25 ⟨u, huw, hun, hul, hm, hx25⟩
  replace hm := own_mono hm hx.size
  replace hx := hx.tr hx25
  have hup := u.flat_pos
  obtain ⟨M, hLM⟩ : ∃ L, L = u.flat := ⟨_, rfl⟩
  have hcM : (chkV M).1 = 0 := chk_ok.2 ⟨u, huw, hLM.symm⟩
  rw [← hLM] at hul hup hm hun
  replace hv := own_ext hv hx25
  refine WL.c rfl (o_ash (by first | exact (show _ = Value.slice _ _ _ from rfl) | exact rfl) ?_)
  refine WL.nil ?_
  refine W.seq ?_
  have htok : tOk t := ⟨htw, by rw [← hLL]; exact htn⟩
  have huok : tOk u := ⟨huw, by rw [← hLM]; exact hun⟩
  have htx := txt_len t htok.2
  have hux := txt_len u huok.2
  rw [← hLL] at htx
  rw [← hLM] at hux
  have hiff := txt_iff htok huok
  rw [← hLL, ← hLM] at hiff
  refine W.region ?_
  refine WL.c rfl (o_mvh (by first | exact (show _ = Value.slice _ _ _ from rfl) | exact rfl) ?_)
  refine WL.c rfl (o_call Tryd.call23 (lc rfl ln) ((vPrint_spec L nv _ (Sl.own hv) (by omega) htn (hT.ext hx) (by have := hx.size; omega)).mono ?_))
  rintro v28 w28 ⟨hx28, -, hp28⟩
  replace hp28 := hp28 t htw hLL.symm
  rw [if_neg (by omega)] at hp28
  subst hp28
  replace hx := hx.tr hx28
  replace hv := own_ext hv hx28
  replace hm := own_ext hm hx28
  refine WL.c rfl (o_mvh (by first | exact (show _ = Value.tuple _ from rfl) | exact rfl) ?_)
  refine WL.c rfl (o_ext rfl rfl ?_)
  refine WL.c rfl (o_ext rfl rfl ?_)
  refine WL.c rfl (o_ash (show _ = Value.string _ from rfl) ?_)
  refine WL.c rfl (o_ash (show _ = Value.int _ _ from rfl) ?_)
  refine WL.nil ?_
  refine W.seq ?_
  refine W.region ?_
  refine WL.c rfl (o_mvh (by first | exact (show _ = Value.slice _ _ _ from rfl) | exact rfl) ?_)
  refine WL.c rfl (o_call Tryd.call23 (lc rfl ln) ((vPrint_spec M mv _ (Sl.own hm) (by omega) hun (hT.ext hx) (by have := hx.size; omega)).mono ?_))
  rintro v33 w33 ⟨hx33, -, hp33⟩
  replace hp33 := hp33 u huw hLM.symm
  rw [if_neg (by omega)] at hp33
  subst hp33
  replace hx := hx.tr hx33
  replace hv := own_ext hv hx33
  replace hm := own_ext hm hx33
  refine WL.c rfl (o_mvh (by first | exact (show _ = Value.tuple _ from rfl) | exact rfl) ?_)
  refine WL.c rfl (o_ext rfl rfl ?_)
  refine WL.c rfl (o_ext rfl rfl ?_)
  refine WL.c rfl (o_ash (show _ = Value.string _ from rfl) ?_)
  refine WL.c rfl (o_ash (show _ = Value.int _ _ from rfl) ?_)
  refine WL.nil ?_
  refine W.seq ?_
  refine W.region ?_
  refine WL.c rfl (o_mvh (show _ = Value.string _ from rfl) ?_)
  refine WL.c rfl (o_call Tryd.call24 (lc rfl ln) ((vParse_spec t.txt _ (by omega)).mono ?_))
  rintro v38 w38 ⟨hx38, -, hp⟩
  obtain ⟨-, hp2⟩ := hp (by omega)
  obtain ⟨-, yv, rfl, hyv⟩ := hp2 t (by rw [par_txt htok])
  rw [← hLL] at hyv
  clear hp hp2
  replace hyv := own_mono hyv hx.size
  replace hx := hx.tr hx38
  replace hv := own_ext hv hx38
  replace hm := own_ext hm hx38
  refine WL.c rfl (o_mvh (by first | exact (show _ = Value.tuple _ from rfl) | exact rfl) ?_)
  refine WL.c rfl (o_ext rfl rfl ?_)
  refine WL.c rfl (o_ext rfl rfl ?_)
  refine WL.c rfl (o_alB TI64 ?_)
  intro wa hCa hxa hsa
  refine WL.c rfl (o_ash (by first | exact (show _ = Value.slice _ _ _ from rfl) | exact rfl) ?_)
  refine WL.u (o_stA TI64 rfl (show _ = Value.agg ([.int .i64 0, .int .i64 0]).toArray from rfl) rfl rfl hCa rfl ?_)
  intro wb14 hC14 hob hsb
  have hxb := Ext.own hxa (Nat.le_refl _) hob
  obtain ⟨b14, hb14⟩ : ∃ b, b = w38.heap.size := ⟨_, rfl⟩
  rw [← hb14] at hC14 ⊢
  clear hCa hxa hsa hob hsb
  replace hx := hx.tr hxb
  replace hv := own_ext hv hxb
  replace hm := own_ext hm hxb
  replace hyv := own_ext hyv hxb
  clear hxb
  refine WL.nil ?_
  refine W.seq ?_
  refine W.seq ?_
  refine W.region ?_
  refine WL.c rfl (o_mvh (show _ = Value.int _ _ from rfl) ?_)
  refine WL.c rfl (o_call Tryd.call15 (lc rfl ln) ((num_spec 0 _).mono ?_))
  rintro v42 w42 ⟨rfl, rfl⟩
  refine WL.c rfl (o_ne rfl rfl ?_)
  refine WL.c rfl (o_mvh (show _ = Value.bool _ from rfl) ?_)
  refine WL.g rfl (by simp) rfl (o_mvh (show _ = Value.int _ _ from rfl) ?_)
  refine WL.g rfl (by simp) rfl (o_call Tryd.call15 (lc rfl ln) ((num_spec 0 _).mono ?_))
  rintro v46 w46 ⟨rfl, rfl⟩
  refine WL.g rfl (by simp) rfl (o_ne rfl rfl ?_)
  refine WL.c rfl (o_pickO rfl rfl ?_)
  refine WL.c rfl (o_mvh (show _ = Value.bool _ from rfl) ?_)
  refine WL.g rfl (by simp) rfl (o_ldA TI64 rfl rfl (show Cells _ b14 0 [.int .i64 0, .int .i64 0] from Cells.of hC14 0 _ (by simp)) rfl ?_)
  refine WL.g rfl (by simp) rfl (o_call Tryd.call25 (lc rfl (lc rfl (lc rfl ln))) ((fault_spec 0 0 0 0 _).mono ?_))
  rintro v51 w51 ⟨rfl, hx51⟩
  replace hx := hx.tr hx51
  replace hv := own_ext hv hx51
  replace hm := own_ext hm hx51
  replace hyv := own_ext hyv hx51
  refine WL.g rfl (by simp) rfl (o_not' rfl ?_)
  refine WL.c rfl (o_pickO rfl rfl ?_)
  refine WL.c rfl (o_mvh (show _ = Value.bool _ from rfl) ?_)
  refine WL.g rfl (by simp) rfl (o_mvh (by first | exact (show _ = Value.slice _ _ _ from rfl) | exact rfl) ?_)
  refine WL.g rfl (by simp) rfl (o_mvh (by first | exact (show _ = Value.slice _ _ _ from rfl) | exact rfl) ?_)
  refine WL.g rfl (by simp) rfl (o_call Tryd.call26 (lc rfl (lc rfl ln)) ((vEqual_spec L L yv nv _ (Sl.own hyv) (Sl.own hv) (by omega)).mono ?_))
  rintro v57 w57 ⟨rfl, hx57⟩
  replace hx := hx.tr hx57
  replace hv := own_ext hv hx57
  replace hm := own_ext hm hx57
  replace hyv := own_ext hyv hx57
  refine WL.g rfl (by simp) rfl (o_not' rfl ?_)
  refine WL.c rfl (o_pickO rfl rfl ?_)
  refine WL.c rfl (o_mvh (show _ = Value.bool _ from rfl) ?_)
  refine WL.g rfl (by simp) rfl (o_mvh (by first | exact (show _ = Value.slice _ _ _ from rfl) | exact rfl) ?_)
  refine WL.g rfl (by simp) rfl (o_mvh (by first | exact (show _ = Value.slice _ _ _ from rfl) | exact rfl) ?_)
  refine WL.g rfl (by simp) rfl (o_call Tryd.call18 (lc rfl (lc rfl ln)) ((requal_spec L L yv nv _ (Sl.own hyv) (Sl.own hv) (by omega)).mono ?_))
  rintro v63 w63 ⟨rfl, hx63⟩
  replace hx := hx.tr hx63
  replace hv := own_ext hv hx63
  replace hm := own_ext hm hx63
  replace hyv := own_ext hyv hx63
  refine WL.g rfl (by simp) rfl (o_not' rfl ?_)
  refine WL.c rfl (o_pickO rfl rfl ?_)
  refine WL.c rfl (o_mvh (show _ = Value.bool _ from rfl) ?_)
  refine WL.g rfl (by simp) rfl (o_mvh (show _ = Value.string _ from rfl) ?_)
  refine WL.g rfl (by simp) rfl (o_mvh (show _ = Value.string _ from rfl) ?_)
  refine WL.g rfl (by simp) rfl (o_eqT rfl rfl ?_)
  refine WL.g rfl (by simp) rfl (o_mvh (by first | exact (show _ = Value.slice _ _ _ from rfl) | exact rfl) ?_)
  refine WL.g rfl (by simp) rfl (o_mvh (by first | exact (show _ = Value.slice _ _ _ from rfl) | exact rfl) ?_)
  refine WL.g rfl (by simp) rfl (o_call Tryd.call26 (lc rfl (lc rfl ln)) ((vEqual_spec L M nv mv _ (Sl.own hv) (Sl.own hm) (by omega)).mono ?_))
  rintro v72 w72 ⟨rfl, hx72⟩
  replace hx := hx.tr hx72
  replace hv := own_ext hv hx72
  replace hm := own_ext hm hx72
  refine WL.g rfl (by simp) rfl (o_neB TI4 rfl rfl ?_)
  refine WL.c rfl (o_pickO rfl rfl ?_)
  refine WL.nil ?_
  refine W.condF' rfl (by simp [hiff]) ?_
  refine W.skip ?_
  refine W.seq ?_
  refine W.seq ?_
  refine W.region ?_
  refine WL.cut (fun e1 w1 => e1 87 = .bool (decide (t.txt.length < u.txt.length ∧ u.txt.take t.txt.length = t.txt)) ∧ e1 2 = st T ∧ e1 7 = nv ∧ e1 8 = mv ∧ w1 = w72) ?_ ?_
  · -- region 10
    refine WL.c rfl (o_mvh (show _ = Value.string _ from rfl) ?_)
    refine WL.c rfl (o_lenT TI9 rfl ?_)
    refine WL.c rfl (o_mvh (show _ = Value.string _ from rfl) ?_)
    refine WL.c rfl (o_lenT TI9 rfl ?_)
    refine WL.c rfl (o_lt rfl rfl ?_)
    refine WL.c rfl (o_mvh (show _ = Value.bool _ from rfl) ?_)
    refine WL.sp 5 rfl (fun g80 => ?_) (fun g80 => ?_)
    · skip
      refine WL.g rfl (g80) rfl (o_mvh (show _ = Value.string _ from rfl) ?_)
      refine WL.g rfl (g80) rfl (o_mvh (show _ = Value.string _ from rfl) ?_)
      refine WL.g rfl (g80) rfl (o_lenT TI9 rfl ?_)
      refine WL.g rfl (g80) rfl (o_ssT TI9 rfl Lo.n (Hi.s rfl) (Nat.zero_le _) (by simp at g80; omega) ?_)
      refine WL.g rfl (g80) rfl (o_mvh (show _ = Value.string _ from rfl) ?_)
      refine WL.g rfl (g80) rfl (o_eqT rfl rfl ?_)
      refine WL.c rfl (o_pickA rfl rfl ?_)
      exact WL.nil (⟨congrArg Value.bool (by rw [Bool.eq_iff_iff]; simp_all <;> (try intro _) <;> omega), rfl, rfl, rfl, rfl⟩)
    · skip
      refine WL.s rfl (g80) rfl ?_
      refine WL.s rfl (g80) rfl ?_
      refine WL.s rfl (g80) rfl ?_
      refine WL.s rfl (g80) rfl ?_
      refine WL.s rfl (g80) rfl ?_
      refine WL.s rfl (g80) rfl ?_
      refine WL.c rfl (o_pickF rfl (g80) ?_)
      exact WL.nil (⟨congrArg Value.bool (by rw [Bool.eq_iff_iff]; simp_all <;> (try intro _) <;> omega), rfl, rfl, rfl, rfl⟩)
  rintro e w ⟨h87, h2, h7, h8, hw1⟩
  subst hw1
  refine W.cut (fun e1 w1 => e1 2 = st T ∧ Ext w0 w1) ?_ ?_
  · -- both ways
    refine W.cond h87 (fun c87 => ?_) (fun c87 => ?_)
    · try simp only [decide_eq_true_eq, decide_eq_false_iff_not, Bool.not_eq_true', Bool.not_eq_false', Bool.and_eq_true, Bool.or_eq_true, Bool.and_eq_false_iff, Bool.or_eq_false_iff] at c87
      obtain ⟨hlt, htk⟩ := c87
      obtain ⟨P, n, n', hP1, hP2⟩ := pre_law htok huok (l := u.txt.drop t.txt.length) (by rw [← List.take_append_drop t.txt.length u.txt, htk]; simp) (fun h => by have := congrArg List.length h; rw [List.length_drop, List.length_nil] at this; omega)
      rw [← hLL] at hP1
      rw [← hLM] at hP2
      have hl1 : L.length = P.length + 1 := by rw [hP1]; simp
      have hl2 : M.length = P.length + 1 := by rw [hP2]; simp
      have hp1 : P.length < L.length := by omega
      have hLk : L[P.length].kind = 1 := by simp [hP1]
      have hLt : L.take P.length = P := by rw [hP1]; simp
      have hMt : M.take P.length = P := by rw [hP2]; simp
      obtain ⟨nb, nc, rfl, hnb⟩ := own_some hv (by omega)
      obtain ⟨mb, mc, rfl, hmb⟩ := own_some hm (by omega)
      refine W.seq ?_
      refine W.region ?_
      refine WL.c rfl (o_mvh h7 ?_)
      refine WL.c rfl (o_lenR TI30 rfl (Sl.own hv) ?_)
      refine WL.c rfl (o_subi rfl rfl (by omega) ?_)
      refine WL.c rfl (o_ash (show _ = Value.int _ _ from rfl) ?_)
      refine WL.nil ?_
      refine W.seq ?_
      obtain ⟨wd, hwd⟩ : ∃ wd, wd = w.drew := ⟨_, rfl⟩
      have hxd : Ext w wd := hwd ▸ Only.drew w
      replace hv := own_ext hv hxd
      replace hm := own_ext hm hxd
      replace hx := hx.tr hxd
      refine W.draw (Ext) [(2, fun v _ => v = (st T)), (7, fun v _ => v = (Value.slice (some ⟨nb, 0, none⟩) L.length nc)), (8, fun v _ => v = (Value.slice (some ⟨mb, 0, none⟩) M.length mc)), (15, fun v _ => v = Value.int .i64 (P.length : Int))] rfl (by kernel_rfl) (Only.refl No) (fun _ _ _ h k => h.trans k) ⟨Mono.eq, Mono.eq, Mono.eq, Mono.eq, trivial⟩ ⟨h2, h7, h8, (by show Value.int _ _ = _; congr 1; omega), trivial⟩ ?_
      refine WD.p rfl (fun e w hR hh => by obtain ⟨h8, -⟩ := hh; exact SG.n (o_mvh h8 ⟨rfl, Only.refl No _⟩)) ?_
      refine WD.p rfl (fun e w hR hh => by obtain ⟨h91, -⟩ := hh; rw [← hwd] at hR; exact SG.n (o_lenR TI30 h91 (Sl.own (own_ext hm hR)) ⟨rfl, Only.refl No _⟩)) ?_
      refine WD.p rfl (fun e w hR hh => by obtain ⟨h7, -⟩ := hh; exact SG.n (o_mvh h7 ⟨rfl, Only.refl No _⟩)) ?_
      refine WD.p rfl (fun e w hR hh => by obtain ⟨h93, -⟩ := hh; rw [← hwd] at hR; exact SG.n (o_lenR TI30 h93 (Sl.own (own_ext hv hR)) ⟨rfl, Only.refl No _⟩)) ?_
      refine WD.p rfl (fun e w hR hh => by obtain ⟨h94, h92, -⟩ := hh; exact SG.n (o_ne h92 h94 ⟨rfl, Only.refl No _⟩)) ?_
      refine WD.p rfl (fun e w hR hh => by obtain ⟨h95, -⟩ := hh; exact SG.n (o_mvh h95 ⟨rfl, Only.refl No _⟩)) ?_
      refine WD.p rfl (fun e w hR hh => by obtain ⟨h96, h7, -⟩ := hh; exact SG.g h96 (by simp; omega) (o_mvh h7 ⟨rfl, Only.refl No _⟩)) ?_
      refine WD.q (fun v _ => v = Value.int .i64 (P.length : Int)) (Mono.eq) rfl (fun e w hR hh => by obtain ⟨h96, h15, -⟩ := hh; exact SG.g h96 (by simp; omega) (o_mv ⟨h15, Only.refl No _⟩)) ?_
      refine WD.p rfl (fun e w hR hh => by obtain ⟨h98, h97, h96, -⟩ := hh; exact SG.g h96 (by simp; omega) (o_ixB (i := P.length) TI30 TI69 h97 h98 (by omega) ⟨rfl, Only.refl No _⟩)) ?_
      refine WD.p rfl (fun e w hR hh => by obtain ⟨h99, h96, -⟩ := hh; exact SG.g h96 (by simp; omega) (o_fa 0 TI69 rfl TI3 rfl h99 ⟨rfl, Only.refl No _⟩)) ?_
      refine WD.p rfl (fun e w hR hh => by obtain ⟨h100, h96, -⟩ := hh; rw [← hwd] at hR; exact SG.g h96 (by simp; omega) (o_ld TI3 rfl h100 (own_cell (j := 0 + P.length * 3 + 0) (own_ext hv hR) (by rw [Nat.zero_add]; exact (nds_at hp1 (by decide)).trans rfl)) ⟨rfl, Only.refl No _⟩)) ?_
      refine WD.p rfl (fun e w hR hh => by obtain ⟨h101, h96, -⟩ := hh; exact SG.g h96 (by simp; omega) (o_ne h101 rfl ⟨rfl, Only.refl No _⟩)) ?_
      refine WD.p rfl (fun e w hR hh => by obtain ⟨h102, h96, -⟩ := hh; exact SG.n (o_pickO h96 h102 ⟨rfl, Only.refl No _⟩)) ?_
      refine WD.p rfl (fun e w hR hh => by obtain ⟨h103, -⟩ := hh; exact SG.n (o_mvh h103 ⟨rfl, Only.refl No _⟩)) ?_
      refine WD.p rfl (fun e w hR hh => by obtain ⟨h104, h7, -⟩ := hh; exact SG.g h104 (by simp [hLk]; omega) (o_mvh h7 ⟨rfl, Only.refl No _⟩)) ?_
      refine WD.q (fun v _ => v = Value.int .i64 (P.length : Int)) (Mono.eq) rfl (fun e w hR hh => by obtain ⟨h104, h15, -⟩ := hh; exact SG.g h104 (by simp [hLk]; omega) (o_mv ⟨h15, Only.refl No _⟩)) ?_
      refine WD.p rfl (fun e w hR hh => by obtain ⟨h106, h105, h104, -⟩ := hh; exact SG.g h104 (by simp [hLk]; omega) (o_sl0 TI30 TI69 (h := P.length) h105 h106 (by have := own_form hv; obtain ⟨a, c, h1, h2⟩ := this; cases h1; omega) ⟨rfl, Only.refl No _⟩)) ?_
      refine WD.p rfl (fun e w hR hh => by obtain ⟨h104, h8, -⟩ := hh; exact SG.g h104 (by simp [hLk]; omega) (o_mvh h8 ⟨rfl, Only.refl No _⟩)) ?_
      refine WD.q (fun v _ => v = Value.int .i64 (P.length : Int)) (Mono.eq) rfl (fun e w hR hh => by obtain ⟨h104, h15, -⟩ := hh; exact SG.g h104 (by simp [hLk]; omega) (o_mv ⟨h15, Only.refl No _⟩)) ?_
      refine WD.p rfl (fun e w hR hh => by obtain ⟨h109, h108, h104, -⟩ := hh; exact SG.g h104 (by simp [hLk]; omega) (o_sl0 TI30 TI69 (h := P.length) h108 h109 (by have := own_form hm; obtain ⟨a, c, h1, h2⟩ := this; cases h1; omega) ⟨rfl, Only.refl No _⟩)) ?_
      refine WD.q (fun v w => v = .bool true) (fun v w w2 hR hh => hh) rfl (fun e w hR hh => by obtain ⟨h110, h107, h104, -⟩ := hh; rw [← hwd] at hR; exact SG.g h104 (by simp [hLk]; omega) (o_call Tryd.call26 (lc h107 (lc h110 ln)) ((vEqual_spec P P _ _ w (own_front hv hR hLt (by omega)) (own_front hm hR hMt (by omega)) (by omega)).mono (fun v w' hh => ⟨hh.1.trans (congrArg Value.bool (by simp)), hh.2⟩)))) ?_
      refine WD.p rfl (fun e w hR hh => by obtain ⟨h111, h104, -⟩ := hh; exact SG.g h104 (by simp [hLk]; omega) (o_not' h111 ⟨rfl, Only.refl No _⟩)) ?_
      refine WD.p rfl (fun e w hR hh => by obtain ⟨h112, h104, -⟩ := hh; exact SG.n (o_pickO h104 h112 ⟨rfl, Only.refl No _⟩)) ?_
      rintro e w hR ⟨h113, h112, h111, h110, h109, h108, h107, h106, h105, h104, h103, h102, h101, h100, h99, h98, h97, h96, h95, h94, h93, h92, h91, h2, h7, h8, h15, -⟩
      refine W.condF' h113 (by simp [hLk]; omega) ?_
      refine W.skip ?_
      first | exact ⟨h2, hx⟩ | exact ⟨h2, hx.tr (hwd ▸ hR)⟩
    · try simp only [decide_eq_true_eq, decide_eq_false_iff_not, Bool.not_eq_true', Bool.not_eq_false', Bool.and_eq_true, Bool.or_eq_true, Bool.and_eq_false_iff, Bool.or_eq_false_iff] at c87
      refine W.skip ?_
      first | exact ⟨h2, hx⟩ | exact ⟨h2, hx.tr (hwd ▸ hR)⟩
  rintro e w ⟨h2, hx⟩
  refine W.seq ?_
  refine W.seq ?_
  refine W.region ?_
  refine WL.c rfl (o_mvh h2 ?_)
  refine WL.c rfl (o_lenT TI9 rfl ?_)
  refine WL.c rfl (o_gt rfl rfl ?_)
  refine WL.nil ?_
  refine W.cut (fun e1 w1 => ∃ T2 : List UInt8, T2.length ≤ 3000 ∧ e1 2 = st T2 ∧ Ext w0 w1) ?_ ?_
  · -- both ways
    refine W.cond rfl (fun c116 => ?_) (fun c116 => ?_)
    · try simp only [decide_eq_true_eq, decide_eq_false_iff_not, Bool.not_eq_true', Bool.not_eq_false', Bool.and_eq_true, Bool.or_eq_true, Bool.and_eq_false_iff, Bool.or_eq_false_iff] at c116
      refine W.region ?_
      refine WL.c rfl (o_mvh h2 ?_)
      refine WL.c rfl (o_ssT TI9 rfl Lo.n (Hi.s (h := 3000) rfl) (Nat.zero_le _) (by omega) ?_)
      refine WL.c rfl (o_ash (show _ = Value.string _ from rfl) ?_)
      refine WL.nil ?_
      first | exact ⟨_, by simp; omega, rfl, hx⟩ | exact ⟨T, by omega, h2, hx⟩
    · try simp only [decide_eq_true_eq, decide_eq_false_iff_not, Bool.not_eq_true', Bool.not_eq_false', Bool.and_eq_true, Bool.or_eq_true, Bool.and_eq_false_iff, Bool.or_eq_false_iff] at c116
      refine W.skip ?_
      first | exact ⟨_, by simp; omega, rfl, hx⟩ | exact ⟨T, by omega, h2, hx⟩
  rintro e w ⟨T2, hT2, h2, hx⟩
  refine W.seq ?_
  refine W.region ?_
  refine WL.c rfl (o_mvh h2 ?_)
  refine WL.c rfl (o_call Tryd.call24 (lc rfl ln) (((vParse_spec (T2) _ (by omega)).mono (fun r w1 hh => parse_cases (by omega) hh)).mono ?_))
  rintro v121 w121 ⟨hx121, er121, p121, y121, l121, rfl, hy121, hyl121, hq121⟩
  replace hy121 := own_mono hy121 hx.size
  replace hx := hx.tr hx121
  refine WL.c rfl (o_mvh (by first | exact (show _ = Value.tuple _ from rfl) | exact rfl) ?_)
  refine WL.c rfl (o_ext rfl rfl ?_)
  refine WL.c rfl (o_ext rfl rfl ?_)
  refine WL.c rfl (o_alB TI64 ?_)
  intro wa hCa hxa hsa
  refine WL.c rfl (o_ash (by first | exact (show _ = Value.slice _ _ _ from rfl) | exact rfl) ?_)
  refine WL.u (o_stA TI64 rfl (show _ = Value.agg ([.int .i64 er121, .int .i64 p121]).toArray from rfl) rfl rfl hCa rfl ?_)
  intro wb17 hC17 hob hsb
  have hxb := Ext.own hxa (Nat.le_refl _) hob
  obtain ⟨b17, hb17⟩ : ∃ b, b = w121.heap.size := ⟨_, rfl⟩
  rw [← hb17] at hC17 ⊢
  clear hCa hxa hsa hob hsb
  replace hx := hx.tr hxb
  replace hy121 := own_ext hy121 hxb
  clear hxb
  refine WL.nil ?_
  refine W.seq ?_
  refine W.seq ?_
  rcases hq121 with ⟨hpz, rfl, hp0, hp1, rfl⟩ | ⟨rfl, rfl, u2, hpz, hok2, htx2, rfl⟩
  · skip
    skip
    refine W.region ?_
    refine WL.c rfl (o_fa 0 TI64 rfl TI46 rfl rfl ?_)
    refine WL.c rfl (o_ld TI46 rfl rfl (cell_of hC17 rfl) ?_)
    refine WL.c rfl (o_call Tryd.call15 (lc rfl ln) ((num_spec 41 _).mono ?_))
    rintro v126 w126 ⟨rfl, rfl⟩
    refine WL.c rfl (o_ne rfl rfl ?_)
    refine WL.nil ?_
    refine W.condT' rfl (by decide) ?_
    refine W.seq ?_
    refine W.region ?_
    refine WL.c rfl (o_mvh (by first | exact (show _ = Value.slice _ _ _ from rfl) | exact rfl) ?_)
    refine WL.c rfl (o_lenR TI30 rfl (Sl.own hy121) ?_)
    refine WL.c rfl (o_eq rfl rfl ?_)
    refine WL.c rfl (o_mvh (show _ = Value.bool _ from rfl) ?_)
    refine WL.g rfl (by simp) rfl (o_fa 0 TI64 rfl TI46 rfl rfl ?_)
    refine WL.g rfl (by simp) rfl (o_ld TI46 rfl rfl (cell_of hC17 rfl) ?_)
    refine WL.g rfl (by simp) rfl (o_call Tryd.call15 (lc rfl ln) ((num_spec 41 _).mono ?_))
    rintro v134 w134 ⟨rfl, rfl⟩
    refine WL.g rfl (by simp) rfl (o_eq rfl rfl ?_)
    refine WL.c rfl (o_pickA rfl rfl ?_)
    refine WL.c rfl (o_mvh (show _ = Value.bool _ from rfl) ?_)
    refine WL.g rfl (by simp) rfl (o_fa 1 TI64 rfl TI3 rfl rfl ?_)
    refine WL.g rfl (by simp) rfl (o_ld TI3 rfl rfl (cell_of hC17 rfl) ?_)
    refine WL.g rfl (by simp) rfl (o_ge rfl rfl ?_)
    refine WL.c rfl (o_pickA rfl rfl ?_)
    refine WL.c rfl (o_mvh (show _ = Value.bool _ from rfl) ?_)
    refine WL.g rfl (by simp; omega) rfl (o_fa 1 TI64 rfl TI3 rfl rfl ?_)
    refine WL.g rfl (by simp; omega) rfl (o_ld TI3 rfl rfl (cell_of hC17 rfl) ?_)
    refine WL.g rfl (by simp; omega) rfl (o_mvh h2 ?_)
    refine WL.g rfl (by simp; omega) rfl (o_lenT TI9 rfl ?_)
    refine WL.g rfl (by simp; omega) rfl (o_le rfl rfl ?_)
    refine WL.c rfl (o_pickA rfl rfl ?_)
    refine WL.c rfl (o_ash (show _ = Value.bool _ from rfl) ?_)
    refine WL.nil ?_
    refine W.ret ?_
    refine ret1v rfl (show _ = Value.bool _ from rfl) ?_
    exact ⟨congrArg Value.bool (by simp; omega), hx⟩
  · skip
    skip
    refine W.region ?_
    refine WL.c rfl (o_fa 0 TI64 rfl TI46 rfl rfl ?_)
    refine WL.c rfl (o_ld TI46 rfl rfl (cell_of hC17 rfl) ?_)
    refine WL.c rfl (o_call Tryd.call15 (lc rfl ln) ((num_spec 0 _).mono ?_))
    rintro v126 w126 ⟨rfl, rfl⟩
    refine WL.c rfl (o_ne rfl rfl ?_)
    refine WL.nil ?_
    refine W.condF' rfl (by decide) ?_
    refine W.skip ?_
    refine W.seq ?_
    refine W.region ?_
    refine WL.c rfl (o_mvh (by first | exact (show _ = Value.slice _ _ _ from rfl) | exact rfl) ?_)
    refine WL.c rfl (o_call Tryd.call23 (lc rfl ln) ((vPrint_spec u2.flat y121 _ (Sl.own hy121) (by omega) hok2.2 (hT.ext hx) (by have := hx.size; omega)).mono ?_))
    rintro v151 w151 ⟨hx151, -, hp151⟩
    replace hp151 := hp151 u2 hok2.1 rfl
    rw [htx2, if_neg (by omega)] at hp151
    subst hp151
    replace hx := hx.tr hx151
    replace hy121 := own_ext hy121 hx151
    refine WL.c rfl (o_mvh (by first | exact (show _ = Value.tuple _ from rfl) | exact rfl) ?_)
    refine WL.c rfl (o_ext rfl rfl ?_)
    refine WL.c rfl (o_ext rfl rfl ?_)
    refine WL.c rfl (o_ash (show _ = Value.string _ from rfl) ?_)
    refine WL.c rfl (o_ash (show _ = Value.int _ _ from rfl) ?_)
    refine WL.nil ?_
    refine W.seq ?_
    refine W.region ?_
    refine WL.c rfl (o_mvh (show _ = Value.int _ _ from rfl) ?_)
    refine WL.c rfl (o_call Tryd.call15 (lc rfl ln) ((num_spec 0 _).mono ?_))
    rintro v155 w155 ⟨rfl, rfl⟩
    refine WL.c rfl (o_eq rfl rfl ?_)
    refine WL.c rfl (o_mvh (show _ = Value.bool _ from rfl) ?_)
    refine WL.g rfl (by decide) rfl (o_mvh (show _ = Value.string _ from rfl) ?_)
    refine WL.g rfl (by decide) rfl (o_mvh h2 ?_)
    refine WL.g rfl (by decide) rfl (o_eqT rfl rfl ?_)
    refine WL.c rfl (o_pickA rfl rfl ?_)
    refine WL.c rfl (o_mvh (show _ = Value.bool _ from rfl) ?_)
    refine WL.g rfl (by simp) rfl (o_mvh (by first | exact (show _ = Value.slice _ _ _ from rfl) | exact rfl) ?_)
    refine WL.g rfl (by simp) rfl (o_call Tryd.call27 (lc rfl ln) ((vcheck_spec u2.flat y121 _ (Sl.own hy121) (by omega)).mono ?_))
    rintro v164 w164 ⟨rfl, hx164⟩
    rw [chk_of (chk_ok.2 ⟨u2, hok2.1, rfl⟩)]
    replace hx := hx.tr hx164
    refine WL.g rfl (by simp) rfl (o_call Tryd.call25 (lc rfl (lc rfl (lc rfl ln))) ((fault_spec 0 0 0 0 _).mono ?_))
    rintro v165 w165 ⟨rfl, hx165⟩
    replace hx := hx.tr hx165
    refine WL.c rfl (o_pickA rfl rfl ?_)
    refine WL.c rfl (o_ash (show _ = Value.bool _ from rfl) ?_)
    refine WL.nil ?_
    refine W.ret ?_
    refine ret1v rfl (show _ = Value.bool _ from rfl) ?_
    exact ⟨congrArg Value.bool (by simp), hx⟩
theorem str_list {s : ByteArray} : Value.string s = st s.data.toList := by
  cases s; simp [st]
theorem size_list {s : ByteArray} (h : s.size ≤ maxLen) : s.data.toList.length ≤ 9223372036854775807 := by
  rw [maxLen_eq] at h; simpa using h

theorem back_walk0 (w0 : World) (v : Value) (R : List Nd) (hS : Sl w0 3 v R.length (nds R)) (hR : R.length ≤ 9223372036854775807) (hN : NOk R) (v2 : Value) (R2 : List Nd) (hS2 : Sl w0 3 v2 R2.length (nds R2)) (hR2 : R2.length ≤ 9223372036854775807) (hN2 : NOk R2) (s : ByteArray) (hs : s.size ≤ maxLen) (hT : Tab w0) (h00 : 0 < w0.heap.size) :
    Ca Tryd.prog 5 #[v, v2, .string s] w0 (fun r w' => r = .bool true ∧ Ext w0 w') := by
  rw [str_list]
  exact back_walk w0 v R hS hR hN v2 R2 hS2 hR2 hN2 s.data.toList (size_list hs) hT h00

end Go.Proofs.YtgmjfcekeglhjaaDoor
