/-
  Walks and lemmas. Written by program out of specs of mine.
-/
import Derived.WalkKit
import Derived.WalkSpells
import Derived.WalkLawsBesides
import Derived.Deep.Quiet
import Derived.StillTail
import Derived.StringKeys
import Derived.Laws.StructEq
import Derived.Laws.Externs
import Derived.Laws.Tables
import Derived.Scope
import Derived.Laws.AppendOwn
import Derived.Maps.AppendAt
import Derived.Recover
import Derived.Test.YtgmjfcekeglhjaaDoorProg
import Derived.Maps.OwnSet
import Derived.Shelf.Strconv.Itoa0
import Derived.Shelf.Strconv.Itoa1
import Derived.Shelf.LaysM
import Derived.Shelf.Strconv.Itoa2
import Derived.Lib.ItoaMem
import Derived.Lib.ItoaLen
import Derived.DeepKeys3
import Derived.SizedLaws
import Derived.ChangeArms
import Derived.ChangeSlices
import Derived.Lib.ConvBytes
import Derived.Test.YtgmjfcekeglhjaaDoorRows
import Derived.ProofKit
import Derived.OpenShut
import Derived.ShutString
import Derived.ChangeOld
import Derived.Below
import Derived.JoinedCond
import Derived.SliceStrings
import Derived.Test.YtgmjfcekeglhjaaDoorCards
import Derived.Test.YtgmjfcekeglhjaaDoorTie
import Derived.Deep.DeepHandedRow
import Derived.Lib.LaidTab
import Derived.Test.YtgmjfcekeglhjaaDoorKo3
set_option linter.unusedSimpArgs false
set_option linter.unusedVariables false
set_option maxRecDepth 100000
set_option linter.unusedSimpArgs false
set_option linter.unusedVariables false
set_option maxRecDepth 100000
namespace Go.Proofs.YtgmjfcekeglhjaaDoor
open Go Go.Vc Go.RowKit Go.Proofs

theorem o_minI {P : Program} {e : Env} {w : World} {K : Value → World → Prop} {ty : TypeId} {x y : Operand} {t u : TypeId} {k : IntKind} {a b : Int} (hx : ev e x = .int k a) (hy : ev e y = .int k b) (kk : K (.int k (if b < a then b else a)) w) : OP P e (.call ⟨.builtin .min, #[x, y], #[t, u]⟩) ty w K := by
  refine OP.of ?_ kk
  simp [execOp, resolve, invoke, builtin, Builtin.min_, Builtin.min2, hx, hy]
theorem o_remI {P : Program} {e : Env} {w : World} {K : Value → World → Prop} {ty : TypeId} {x y : Operand} {t u : TypeId} {a b : Int} (hx : ev e x = .int .i64 a) (hy : ev e y = .int .i64 b) (hb : 0 < b) (kk : K (.int .i64 (a.tmod b)) w) : OP P e (.binOp .rem t x y u) ty w K := by
  exact o_rem hx hy (by omega) kk
theorem tmod_lim (a : Int) {b : Int} (hb : 0 < b) : -b < a.tmod b ∧ a.tmod b < b := by
  refine ⟨?_, Int.tmod_lt_of_pos a hb⟩
  by_cases h : 0 ≤ a
  · have := Int.tmod_nonneg b h
    omega
  · have h1 := Int.tmod_lt_of_pos (-a) hb
    rw [Int.neg_tmod] at h1
    omega
theorem chk_snoc {L : List Nd} {w : Int} (h : ∀ l, chkV (L ++ l) = chkG w L.length l) {x : Nd} (hx : rightN x = true) (hw : ¬ w = 0) (l : List Nd) : chkV ((L ++ [x]) ++ l) = chkG (w + (x.kids - 1)) (L ++ [x]).length l := by
  rw [List.append_assoc, h, List.singleton_append, chkG, if_neg (by rw [hx]; simp; exact hw), List.length_append]
  rfl

theorem rest_spec (n lo hi : Int) (w0 : World) (h1 : lo ≤ hi) (h2 : 0 ≤ lo) (h3 : hi ≤ 1000000000) : Ca Tryd.prog 28 #[.int .i64 n, .int .i64 lo, .int .i64 hi] w0 (fun v w' => (∃ q, v = .int .i64 q ∧ lo ≤ q ∧ q ≤ hi) ∧ w' = w0) := by
  refine Ca.of Tryd.func28 Tryd.ntmps28 rfl rfl ?_
  refine W.seq ?_
  refine W.region ?_
  refine WL.c rfl (o_ash (show _ = Value.int _ _ from rfl) ?_)
  refine WL.nil ?_
  refine W.seq ?_
  refine W.region ?_
  refine WL.c rfl (o_mvh (show _ = Value.int _ _ from rfl) ?_)
  refine WL.c rfl (o_mvh (show _ = Value.int _ _ from rfl) ?_)
  refine WL.c rfl (o_subi rfl rfl (by omega) ?_)
  refine WL.c rfl (o_addi rfl rfl (by omega) ?_)
  refine WL.c rfl (o_ash (show _ = Value.int _ _ from rfl) ?_)
  refine WL.nil ?_
  refine W.seq ?_
  refine W.region ?_
  refine WL.c rfl (o_mvh (show _ = Value.int _ _ from rfl) ?_)
  refine WL.c rfl (o_mvh (show _ = Value.int _ _ from rfl) ?_)
  refine WL.c rfl (o_mvh (show _ = Value.int _ _ from rfl) ?_)
  refine WL.c rfl (o_remI rfl rfl (by omega) ?_)
  refine WL.c rfl (o_mvh (show _ = Value.int _ _ from rfl) ?_)
  refine WL.c rfl (o_addi rfl rfl (by have := tmod_lim n (show 0 < hi - lo + 1 by omega); omega) ?_)
  refine WL.c rfl (o_mvh (show _ = Value.int _ _ from rfl) ?_)
  refine WL.c rfl (o_remI rfl rfl (by omega) ?_)
  refine WL.c rfl (o_addi rfl rfl (by have h4 := tmod_lim n (show 0 < hi - lo + 1 by omega); have h5 := tmod_lim (n.tmod (hi - lo + 1) + (hi - lo + 1)) (show 0 < hi - lo + 1 by omega); omega) ?_)
  refine WL.c rfl (o_ash (show _ = Value.int _ _ from rfl) ?_)
  refine WL.nil ?_
  refine W.ret ?_
  refine ret1v rfl (show _ = Value.int _ _ from rfl) ?_
  have h4 := tmod_lim n (show 0 < hi - lo + 1 by omega)
  have h5 := tmod_lim (n.tmod (hi - lo + 1) + (hi - lo + 1)) (show 0 < hi - lo + 1 by omega)
  have h6 : 0 ≤ (n.tmod (hi - lo + 1) + (hi - lo + 1)).tmod (hi - lo + 1) := Int.tmod_nonneg _ (by omega)
  exact ⟨⟨_, rfl, by omega, by omega⟩, rfl⟩
set_option maxHeartbeats 16000000 in
theorem made_spec (R : List Nd) (v : Value) (w0 : World) (hS : Sl w0 3 v R.length (nds R)) (hR : R.length ≤ 9223372036854775807) (hN : NOk R) : Ca Tryd.prog 22 #[v] w0 (fun r w' => ∃ t : Vt, t.wf ∧ NOk t.flat ∧ t.flat.length ≤ 1351 ∧ w'.ownsRow w0.heap.size 69 3 r t.flat.length (nds t.flat) ∧ Ext w0 w') := by
  have hx : Ext w0 w0 := Only.refl _ _
  refine Ca.of Tryd.func22 Tryd.ntmps22 rfl rfl ?_
  refine W.seq ?_
  refine W.region ?_
  refine WL.c rfl (o_ash (by first | exact (show _ = Value.slice _ _ _ from rfl) | exact rfl) ?_)
  refine WL.nil ?_
  refine W.seq ?_
  refine W.region ?_
  refine WL.c rfl (o_ash (by first | exact (show _ = Value.slice _ _ _ from rfl) | exact rfl) ?_)
  refine WL.nil ?_
  refine W.seq ?_
  refine W.region ?_
  refine WL.c rfl (o_ash (show _ = Value.int _ _ from rfl) ?_)
  refine WL.nil ?_
  refine W.seq ?_
  refine W.seq ?_
  refine W.region ?_
  refine WL.c rfl (o_ash (show _ = Value.int _ _ from rfl) ?_)
  refine WL.nil ?_
  refine W.block ?_
  refine W.loop (fun e w => ∃ (L : List Nd) (wt : Int) (ov : Value), e 0 = v ∧ e 3 = ov ∧ e 4 = .int .i64 wt ∧ e 5 = .int .i64 (L.length : Int) ∧ 0 ≤ wt ∧ (L.length : Int) + wt ≤ 1 + 9 * (min L.length 150 : Nat) ∧ (∀ l, chkV (L ++ l) = chkG wt L.length l) ∧ NOk L ∧ w.ownsRow w0.heap.size 69 3 ov L.length (nds L) ∧ Ext w0 w) (fun e w => 1352 - (intOf (e 5)).toNat) ?_ ?_
  · exact ⟨[], 1, _, rfl, rfl, rfl, rfl, by omega, by simp, fun l => rfl, fun x hx => (by cases hx), World.ownsRow_nil _ _ _ _, hx⟩
  rintro e w ⟨L, wt, ov, h0, h3, h4, h5, hw0, hwl, hchk, hNL, how, hx⟩
  have hm5 := h5
  have hLl : L.length ≤ 1351 := by omega
  refine W.seq ?_
  refine W.seq ?_
  refine W.region ?_
  refine WL.c rfl (o_mvh h4 ?_)
  refine WL.c rfl (o_gt rfl rfl ?_)
  refine WL.nil ?_
  refine W.cond rfl (fun c9 => ?_) (fun c9 => ?_)
  · try simp only [decide_eq_true_eq, decide_eq_false_iff_not, Bool.not_eq_true', Bool.not_eq_false', Bool.and_eq_true, Bool.or_eq_true, Bool.and_eq_false_iff, Bool.or_eq_false_iff] at c9
    obtain ⟨sp, sc, rfl, hsc⟩ := own_form how
    refine W.skip ?_
    refine W.seq ?_
    refine W.block ?_
    refine W.seq ?_
    refine W.region ?_
    refine WL.c rfl (o_alB TI69 ?_)
    intro w6 hC6 hx6 hs6
    obtain ⟨b6, hb6⟩ : ∃ b, b = w.heap.size := ⟨_, rfl⟩
    rw [← hb6] at hC6 ⊢
    replace hC6 : w6.heap[b6]? = some (.cells (ndV nd0).toArray 69 (0, 0)) := hC6
    have hz6 : w0.heap.size ≤ b6 := by rw [hb6]; exact hx.size
    have hoff : ∀ k, (Value.slice sp L.length sc).ownBlock = some k → ¬ k = b6 := fun k hk he => by have := (how.lt k hk).2; omega
    replace how := own_ext how hx6
    replace hx := hx.tr hx6
    clear hx6 hs6
    refine WL.nil ?_
    refine W.seq ?_
    refine W.seq ?_
    refine W.region ?_
    refine WL.cut (fun e1 w1 => e1 19 = .bool (decide (L.length < R.length ∧ L.length < 150)) ∧ e1 0 = v ∧ e1 3 = .slice sp L.length sc ∧ e1 4 = .int .i64 wt ∧ e1 5 = .int .i64 (L.length : Int) ∧ e1 6 = .pointer (some ⟨b6, 0, none⟩) ∧ w1 = w6) ?_ ?_
    · -- region 7
      refine WL.c rfl (o_mvh h5 ?_)
      refine WL.c rfl (o_mvh h0 ?_)
      refine WL.c rfl (o_lenR TI30 rfl (hS.ext hx) ?_)
      refine WL.c rfl (o_lt rfl rfl ?_)
      refine WL.c rfl (o_mvh (show _ = Value.bool _ from rfl) ?_)
      refine WL.sp 4 rfl (fun g16 => ?_) (fun g16 => ?_)
      · skip
        refine WL.g rfl (g16) rfl (o_mvh h5 ?_)
        refine WL.g rfl (g16) rfl (o_lt rfl rfl ?_)
        refine WL.c rfl (o_pickA rfl rfl ?_)
        exact WL.nil (⟨congrArg Value.bool (by rw [Bool.eq_iff_iff]; simp_all <;> omega), h0, h3, h4, h5, rfl, rfl⟩)
      · skip
        refine WL.s rfl (g16) rfl ?_
        refine WL.s rfl (g16) rfl ?_
        refine WL.c rfl (o_pickF rfl (g16) ?_)
        exact WL.nil (⟨congrArg Value.bool (by rw [Bool.eq_iff_iff]; simp_all <;> omega), h0, h3, h4, h5, rfl, rfl⟩)
    rintro e w ⟨h19, h0, h3, h4, h5, h6, hw1⟩
    subst hw1
    refine W.cut (fun e1 w1 => ∃ y : Nd, y.n < 18446744073709551616 ∧ w1.heap[b6]? = some (.cells (ndV y).toArray 69 (0, 0)) ∧ e1 0 = v ∧ e1 3 = .slice sp L.length sc ∧ e1 4 = .int .i64 wt ∧ e1 5 = .int .i64 (L.length : Int) ∧ e1 6 = .pointer (some ⟨b6, 0, none⟩) ∧ w1.ownsRow w0.heap.size 69 3 (.slice sp L.length sc) L.length (nds L) ∧ Ext w0 w1) ?_ ?_
    · -- both ways
      refine W.cond h19 (fun c19 => ?_) (fun c19 => ?_)
      · try simp only [decide_eq_true_eq, decide_eq_false_iff_not, Bool.not_eq_true', Bool.not_eq_false', Bool.and_eq_true, Bool.or_eq_true, Bool.and_eq_false_iff, Bool.or_eq_false_iff] at c19
        have hi1 : L.length < R.length := by omega
        obtain ⟨ub, uo, uc, hv, huc⟩ := Sl.nd (hS.ext hx) hi1
        rw [hv] at h0
        refine W.region ?_
        refine WL.c rfl (o_mvh h0 ?_)
        refine WL.c rfl (o_mvh h5 ?_)
        refine WL.c rfl (o_ixB (i := L.length) TI30 TI69 (show _ = Value.slice (some ⟨ub, uo, none⟩) R.length uc from by first | rfl | assumption) (show _ = Value.int .i64 (L.length : Int) from by first | rfl | assumption) (by omega) ?_)
        refine WL.c rfl (o_ldA TI69 rfl rfl huc rfl ?_)
        refine WL.u (o_stA TI69 h6 (show _ = Value.agg (ndV R[L.length]).toArray from rfl) rfl rfl hC6 rfl ?_)
        intro wz hCz hoz hsz
        replace hC6 : wz.heap[b6]? = some (.cells (ndV R[L.length]).toArray 69 (0, 0)) := hCz
        replace how := own_only how hoz (fun k hk he => by subst he; exact hoff k hk rfl)
        replace hx := hx.trans' hoz (fun _ h => h) (fun k hk he => by omega)
        clear hCz hoz hsz
        refine WL.nil ?_
        first | exact ⟨R[L.length], hN _ (List.getElem_mem hi1), hC6, h0.trans hv.symm, h3, h4, h5, h6, how, hx⟩ | exact ⟨nd0, by decide, hC6, h0, h3, h4, h5, h6, how, hx⟩
      · try simp only [decide_eq_true_eq, decide_eq_false_iff_not, Bool.not_eq_true', Bool.not_eq_false', Bool.and_eq_true, Bool.or_eq_true, Bool.and_eq_false_iff, Bool.or_eq_false_iff] at c19
        refine W.skip ?_
        first | exact ⟨R[L.length], hN _ (List.getElem_mem hi1), hC6, h0.trans hv.symm, h3, h4, h5, h6, how, hx⟩ | exact ⟨nd0, by decide, hC6, h0, h3, h4, h5, h6, how, hx⟩
    rintro e w ⟨y, hyn, hC6, h0, h3, h4, h5, h6, how, hx⟩
    refine W.seq ?_
    refine W.region ?_
    refine WL.c rfl (o_fa 0 TI69 rfl TI3 rfl h6 ?_)
    refine WL.c rfl (o_ld TI3 rfl rfl (cell_of hC6 rfl) ?_)
    refine WL.c rfl (o_call Tryd.call28 (lc rfl (lc rfl (lc rfl ln))) ((rest_spec y.kind 1 6 _ (by decide) (by decide) (by decide)).mono ?_))
    rintro v26 w26 ⟨⟨q, rfl, hq1, hq6⟩, rfl⟩
    refine WL.c rfl (o_fa 0 TI69 rfl TI3 rfl h6 ?_)
    refine WL.u (o_stB TI3 rfl (show _ = Value.int .i64 q from rfl) rfl hC6 (show 0 < 3 by decide) ?_)
    intro w27 hB27 ho27 hs27
    replace hC6 : w27.heap[b6]? = some (.cells (ndV ⟨q, y.n, y.kids⟩).toArray 69 (0, 0)) := hB27
    replace hx := hx.trans' ho27 (fun _ h => h) (fun k hk he => by omega)
    replace how := own_only how ho27 (fun k hk he => by subst he; exact hoff k hk rfl)
    clear hB27 ho27 hs27
    refine WL.nil ?_
    refine W.seq ?_
    refine W.region ?_
    refine WL.c rfl (o_mvh h3 ?_)
    refine WL.c rfl (o_lenR TI30 rfl (Sl.own how) ?_)
    refine WL.c rfl (o_subi rfl rfl (by omega) ?_)
    refine WL.c rfl (o_mvh h4 ?_)
    refine WL.c rfl (o_subi rfl rfl (by omega) ?_)
    refine WL.c rfl (o_maxI rfl rfl ?_)
    refine WL.c rfl (o_ash (show _ = Value.int _ _ from rfl) ?_)
    refine WL.nil ?_
    obtain ⟨lf, hlf, hlf0, hlf1⟩ : ∃ lf, lf = (if (0 : Int) < 300 - (L.length : Int) - wt then 300 - (L.length : Int) - wt else 0) ∧ 0 ≤ lf ∧ lf ≤ 300 := ⟨_, rfl, by split <;> omega, by split <;> omega⟩
    rw [← hlf]
    refine W.seq ?_
    refine W.seq ?_
    refine W.region ?_
    refine WL.cut (fun e1 w1 => e1 41 = .bool (decide (R.length ≤ L.length ∨ 150 ≤ L.length)) ∧ e1 0 = v ∧ e1 3 = .slice sp L.length sc ∧ e1 4 = .int .i64 wt ∧ e1 5 = .int .i64 (L.length : Int) ∧ e1 6 = .pointer (some ⟨b6, 0, none⟩) ∧ e1 7 = .int .i64 lf ∧ w1 = w27) ?_ ?_
    · -- region 11
      refine WL.c rfl (o_mvh h5 ?_)
      refine WL.c rfl (o_mvh h0 ?_)
      refine WL.c rfl (o_lenR TI30 rfl (hS.ext hx) ?_)
      refine WL.c rfl (o_ge rfl rfl ?_)
      refine WL.c rfl (o_mvh (show _ = Value.bool _ from rfl) ?_)
      refine WL.sp 4 rfl (fun g38 => ?_) (fun g38 => ?_)
      · skip
        refine WL.s rfl (g38) rfl ?_
        refine WL.s rfl (g38) rfl ?_
        refine WL.c rfl (o_pickT rfl (g38) ?_)
        exact WL.nil (⟨congrArg Value.bool (by rw [Bool.eq_iff_iff]; simp_all <;> omega), h0, h3, h4, h5, h6, rfl, rfl⟩)
      · skip
        refine WL.g rfl (g38) rfl (o_mvh h5 ?_)
        refine WL.g rfl (g38) rfl (o_ge rfl rfl ?_)
        refine WL.c rfl (o_pickO rfl rfl ?_)
        exact WL.nil (⟨congrArg Value.bool (by rw [Bool.eq_iff_iff]; simp_all <;> omega), h0, h3, h4, h5, h6, rfl, rfl⟩)
    rintro e w ⟨h41, h0, h3, h4, h5, h6, h7, hw1⟩
    subst hw1
    refine W.cut (fun e1 w1 => ∃ kd : Int, 1 ≤ kd ∧ kd ≤ 6 ∧ (150 ≤ L.length → kd = 1) ∧ w1.heap[b6]? = some (.cells (ndV ⟨kd, y.n, y.kids⟩).toArray 69 (0, 0)) ∧ e1 0 = v ∧ e1 3 = .slice sp L.length sc ∧ e1 4 = .int .i64 wt ∧ e1 5 = .int .i64 (L.length : Int) ∧ e1 6 = .pointer (some ⟨b6, 0, none⟩) ∧ w1.ownsRow w0.heap.size 69 3 (.slice sp L.length sc) L.length (nds L) ∧ Ext w0 w1 ∧ e1 7 = .int .i64 lf) ?_ ?_
    · -- both ways
      refine W.cond h41 (fun c41 => ?_) (fun c41 => ?_)
      · try simp only [decide_eq_true_eq, decide_eq_false_iff_not, Bool.not_eq_true', Bool.not_eq_false', Bool.and_eq_true, Bool.or_eq_true, Bool.and_eq_false_iff, Bool.or_eq_false_iff] at c41
        refine W.region ?_
        refine WL.c rfl (o_fa 0 TI69 rfl TI3 rfl h6 ?_)
        refine WL.u (o_stB TI3 rfl (show _ = Value.int .i64 1 from rfl) rfl hC6 (show 0 < 3 by decide) ?_)
        intro w42 hB42 ho42 hs42
        replace hC6 : w42.heap[b6]? = some (.cells (ndV ⟨1, y.n, y.kids⟩).toArray 69 (0, 0)) := hB42
        replace hx := hx.trans' ho42 (fun _ h => h) (fun k hk he => by omega)
        replace how := own_only how ho42 (fun k hk he => by subst he; exact hoff k hk rfl)
        clear hB42 ho42 hs42
        refine WL.nil ?_
        first | exact ⟨1, by decide, by decide, fun _ => rfl, hC6, h0, h3, h4, h5, h6, how, hx, h7⟩ | exact ⟨q, hq1, hq6, fun h => absurd (Or.inr h : R.length ≤ L.length ∨ 150 ≤ L.length) (by simpa using c41), hC6, h0, h3, h4, h5, h6, how, hx, h7⟩
      · try simp only [decide_eq_true_eq, decide_eq_false_iff_not, Bool.not_eq_true', Bool.not_eq_false', Bool.and_eq_true, Bool.or_eq_true, Bool.and_eq_false_iff, Bool.or_eq_false_iff] at c41
        refine W.skip ?_
        first | exact ⟨1, by decide, by decide, fun _ => rfl, hC6, h0, h3, h4, h5, h6, how, hx, h7⟩ | exact ⟨q, hq1, hq6, fun h => absurd (Or.inr h : R.length ≤ L.length ∨ 150 ≤ L.length) (by simpa using c41), hC6, h0, h3, h4, h5, h6, how, hx, h7⟩
    rintro e w ⟨kd, hk1, hk6, hk150, hC6, h0, h3, h4, h5, h6, how, hx, h7⟩
    refine W.seq ?_
    refine W.seq ?_
    refine W.region ?_
    refine WL.c rfl (o_fa 0 TI69 rfl TI3 rfl h6 ?_)
    refine WL.c rfl (o_ld TI3 rfl rfl (cell_of hC6 rfl) ?_)
    refine WL.nil ?_
    refine W.block ?_
    refine W.seq ?_
    refine W.region ?_
    refine WL.c rfl (o_eq rfl rfl ?_)
    refine WL.c rfl (o_ash (show _ = Value.bool _ from rfl) ?_)
    refine WL.nil ?_
    refine W.cut (fun e1 w1 => ∃ x : Nd, rightN x = true ∧ (150 ≤ L.length → x.kids = 0) ∧ x.kids ≤ 9 ∧ x.n < 18446744073709551616 ∧ w1.heap[b6]? = some (.cells (ndV x).toArray 69 (0, 0)) ∧ e1 0 = v ∧ e1 3 = .slice sp L.length sc ∧ e1 4 = .int .i64 wt ∧ e1 5 = .int .i64 (L.length : Int) ∧ e1 6 = .pointer (some ⟨b6, 0, none⟩) ∧ w1.ownsRow w0.heap.size 69 3 (.slice sp L.length sc) L.length (nds L) ∧ Ext w0 w1) ?_ ?_
    · -- both ways
      refine W.cond rfl (fun c45 => ?_) (fun c45 => ?_)
      · try simp only [decide_eq_true_eq, decide_eq_false_iff_not, Bool.not_eq_true', Bool.not_eq_false', Bool.and_eq_true, Bool.or_eq_true, Bool.and_eq_false_iff, Bool.or_eq_false_iff] at c45
        refine W.region ?_
        refine WL.c rfl (o_fa 2 TI69 rfl TI3 rfl h6 ?_)
        refine WL.u (o_stB TI3 rfl (show _ = Value.int .i64 0 from rfl) rfl hC6 (show 2 < 3 by decide) ?_)
        intro w47 hB47 ho47 hs47
        replace hC6 : w47.heap[b6]? = some (.cells (ndV ⟨kd, y.n, 0⟩).toArray 69 (0, 0)) := hB47
        replace hx := hx.trans' ho47 (fun _ h => h) (fun k hk he => by omega)
        replace how := own_only how ho47 (fun k hk he => by subst he; exact hoff k hk rfl)
        clear hB47 ho47 hs47
        refine WL.nil ?_
        (refine ⟨_, ?_, ?_, ?_, ?_, hC6, h0, h3, h4, h5, h6, how, hx⟩ <;> first | (show _ ≤ (9 : Int); omega) | (show _ < _; omega) | (intro h150; have := hk150 h150; omega) | (simp_all [rightN, numB, leastK, mostK]; done) | (simp_all [rightN, numB, leastK, mostK]; omega))
      · try simp only [decide_eq_true_eq, decide_eq_false_iff_not, Bool.not_eq_true', Bool.not_eq_false', Bool.and_eq_true, Bool.or_eq_true, Bool.and_eq_false_iff, Bool.or_eq_false_iff] at c45
        refine W.seq ?_
        refine W.region ?_
        refine WL.c rfl (o_eq rfl rfl ?_)
        refine WL.c rfl (o_ash (show _ = Value.bool _ from rfl) ?_)
        refine WL.nil ?_
        refine W.cond rfl (fun c48 => ?_) (fun c48 => ?_)
        · try simp only [decide_eq_true_eq, decide_eq_false_iff_not, Bool.not_eq_true', Bool.not_eq_false', Bool.and_eq_true, Bool.or_eq_true, Bool.and_eq_false_iff, Bool.or_eq_false_iff] at c48
          refine W.seq ?_
          refine W.region ?_
          refine WL.c rfl (o_fa 1 TI69 rfl TI43 rfl h6 ?_)
          refine WL.c rfl (o_ld TI43 rfl rfl (cell_of hC6 rfl) ?_)
          refine WL.c rfl (n_rem (b := 2) rfl rfl (by decide) ?_)
          refine WL.c rfl (o_fa 1 TI69 rfl TI43 rfl h6 ?_)
          refine WL.u (o_stB TI43 rfl (show _ = Value.int .u64 ((y.n % 2 : Nat) : Int) from rfl) rfl hC6 (show 1 < 3 by decide) ?_)
          intro w53 hB53 ho53 hs53
          replace hC6 : w53.heap[b6]? = some (.cells (ndV ⟨kd, y.n % 2, y.kids⟩).toArray 69 (0, 0)) := hB53
          replace hx := hx.trans' ho53 (fun _ h => h) (fun k hk he => by omega)
          replace how := own_only how ho53 (fun k hk he => by subst he; exact hoff k hk rfl)
          clear hB53 ho53 hs53
          refine WL.nil ?_
          refine W.region ?_
          refine WL.c rfl (o_fa 2 TI69 rfl TI3 rfl h6 ?_)
          refine WL.u (o_stB TI3 rfl (show _ = Value.int .i64 0 from rfl) rfl hC6 (show 2 < 3 by decide) ?_)
          intro w54 hB54 ho54 hs54
          replace hC6 : w54.heap[b6]? = some (.cells (ndV ⟨kd, y.n % 2, 0⟩).toArray 69 (0, 0)) := hB54
          replace hx := hx.trans' ho54 (fun _ h => h) (fun k hk he => by omega)
          replace how := own_only how ho54 (fun k hk he => by subst he; exact hoff k hk rfl)
          clear hB54 ho54 hs54
          refine WL.nil ?_
          (refine ⟨_, ?_, ?_, ?_, ?_, hC6, h0, h3, h4, h5, h6, how, hx⟩ <;> first | (show _ ≤ (9 : Int); omega) | (show _ < _; omega) | (intro h150; have := hk150 h150; omega) | (simp_all [rightN, numB, leastK, mostK]; done) | (simp_all [rightN, numB, leastK, mostK]; omega))
        · try simp only [decide_eq_true_eq, decide_eq_false_iff_not, Bool.not_eq_true', Bool.not_eq_false', Bool.and_eq_true, Bool.or_eq_true, Bool.and_eq_false_iff, Bool.or_eq_false_iff] at c48
          refine W.seq ?_
          refine W.region ?_
          refine WL.c rfl (o_eq rfl rfl ?_)
          refine WL.c rfl (o_ash (show _ = Value.bool _ from rfl) ?_)
          refine WL.nil ?_
          refine W.cond rfl (fun c55 => ?_) (fun c55 => ?_)
          · try simp only [decide_eq_true_eq, decide_eq_false_iff_not, Bool.not_eq_true', Bool.not_eq_false', Bool.and_eq_true, Bool.or_eq_true, Bool.and_eq_false_iff, Bool.or_eq_false_iff] at c55
            refine W.seq ?_
            refine W.region ?_
            refine WL.c rfl (o_fa 1 TI69 rfl TI43 rfl h6 ?_)
            refine WL.u (o_stB TI43 rfl (show _ = Value.int .u64 0 from rfl) rfl hC6 (show 1 < 3 by decide) ?_)
            intro w57 hB57 ho57 hs57
            replace hC6 : w57.heap[b6]? = some (.cells (ndV ⟨kd, 0, y.kids⟩).toArray 69 (0, 0)) := hB57
            replace hx := hx.trans' ho57 (fun _ h => h) (fun k hk he => by omega)
            replace how := own_only how ho57 (fun k hk he => by subst he; exact hoff k hk rfl)
            clear hB57 ho57 hs57
            refine WL.nil ?_
            refine W.region ?_
            refine WL.c rfl (o_fa 2 TI69 rfl TI3 rfl h6 ?_)
            refine WL.c rfl (o_ld TI3 rfl rfl (cell_of hC6 rfl) ?_)
            refine WL.c rfl (o_mvh h7 ?_)
            refine WL.c rfl (o_minI rfl rfl ?_)
            refine WL.c rfl (o_call Tryd.call28 (lc rfl (lc rfl (lc rfl ln))) ((rest_spec y.kids 0 (if (9 : Int) < lf then 9 else lf) _ (by split <;> omega) (by decide) (by split <;> omega)).mono ?_))
            rintro v62 w62 ⟨⟨q2, rfl, hq20, hq2b⟩, rfl⟩
            have hq29 : q2 ≤ 9 := by split at hq2b <;> omega
            refine WL.c rfl (o_fa 2 TI69 rfl TI3 rfl h6 ?_)
            refine WL.u (o_stB TI3 rfl (show _ = Value.int .i64 q2 from rfl) rfl hC6 (show 2 < 3 by decide) ?_)
            intro w63 hB63 ho63 hs63
            replace hC6 : w63.heap[b6]? = some (.cells (ndV ⟨kd, 0, q2⟩).toArray 69 (0, 0)) := hB63
            replace hx := hx.trans' ho63 (fun _ h => h) (fun k hk he => by omega)
            replace how := own_only how ho63 (fun k hk he => by subst he; exact hoff k hk rfl)
            clear hB63 ho63 hs63
            refine WL.nil ?_
            (refine ⟨_, ?_, ?_, ?_, ?_, hC6, h0, h3, h4, h5, h6, how, hx⟩ <;> first | (show _ ≤ (9 : Int); omega) | (show _ < _; omega) | (intro h150; have := hk150 h150; omega) | (simp_all [rightN, numB, leastK, mostK]; done) | (simp_all [rightN, numB, leastK, mostK]; omega))
          · try simp only [decide_eq_true_eq, decide_eq_false_iff_not, Bool.not_eq_true', Bool.not_eq_false', Bool.and_eq_true, Bool.or_eq_true, Bool.and_eq_false_iff, Bool.or_eq_false_iff] at c55
            refine W.seq ?_
            refine W.region ?_
            refine WL.c rfl (o_eq rfl rfl ?_)
            refine WL.c rfl (o_ash (show _ = Value.bool _ from rfl) ?_)
            refine WL.nil ?_
            refine W.cond rfl (fun c64 => ?_) (fun c64 => ?_)
            · try simp only [decide_eq_true_eq, decide_eq_false_iff_not, Bool.not_eq_true', Bool.not_eq_false', Bool.and_eq_true, Bool.or_eq_true, Bool.and_eq_false_iff, Bool.or_eq_false_iff] at c64
              refine W.seq ?_
              refine W.region ?_
              refine WL.c rfl (o_fa 1 TI69 rfl TI43 rfl h6 ?_)
              refine WL.u (o_stB TI43 rfl (show _ = Value.int .u64 0 from rfl) rfl hC6 (show 1 < 3 by decide) ?_)
              intro w66 hB66 ho66 hs66
              replace hC6 : w66.heap[b6]? = some (.cells (ndV ⟨kd, 0, y.kids⟩).toArray 69 (0, 0)) := hB66
              replace hx := hx.trans' ho66 (fun _ h => h) (fun k hk he => by omega)
              replace how := own_only how ho66 (fun k hk he => by subst he; exact hoff k hk rfl)
              clear hB66 ho66 hs66
              refine WL.nil ?_
              refine W.region ?_
              refine WL.c rfl (o_fa 2 TI69 rfl TI3 rfl h6 ?_)
              refine WL.c rfl (o_ld TI3 rfl rfl (cell_of hC6 rfl) ?_)
              refine WL.c rfl (o_mvh h7 ?_)
              refine WL.c rfl (o_minI rfl rfl ?_)
              refine WL.c rfl (o_maxI rfl rfl ?_)
              refine WL.c rfl (o_call Tryd.call28 (lc rfl (lc rfl (lc rfl ln))) ((rest_spec y.kids 1 (if (1 : Int) < (if (6 : Int) < lf then 6 else lf) then (if (6 : Int) < lf then 6 else lf) else 1) _ (by split <;> split <;> omega) (by decide) (by split <;> split <;> omega)).mono ?_))
              rintro v72 w72 ⟨⟨q2, rfl, hq20, hq2b⟩, rfl⟩
              have hq29 : q2 ≤ 9 := by split at hq2b <;> split at hq2b <;> omega
              refine WL.c rfl (o_fa 2 TI69 rfl TI3 rfl h6 ?_)
              refine WL.u (o_stB TI3 rfl (show _ = Value.int .i64 q2 from rfl) rfl hC6 (show 2 < 3 by decide) ?_)
              intro w73 hB73 ho73 hs73
              replace hC6 : w73.heap[b6]? = some (.cells (ndV ⟨kd, 0, q2⟩).toArray 69 (0, 0)) := hB73
              replace hx := hx.trans' ho73 (fun _ h => h) (fun k hk he => by omega)
              replace how := own_only how ho73 (fun k hk he => by subst he; exact hoff k hk rfl)
              clear hB73 ho73 hs73
              refine WL.nil ?_
              (refine ⟨_, ?_, ?_, ?_, ?_, hC6, h0, h3, h4, h5, h6, how, hx⟩ <;> first | (show _ ≤ (9 : Int); omega) | (show _ < _; omega) | (intro h150; have := hk150 h150; omega) | (simp_all [rightN, numB, leastK, mostK]; done) | (simp_all [rightN, numB, leastK, mostK]; omega))
            · try simp only [decide_eq_true_eq, decide_eq_false_iff_not, Bool.not_eq_true', Bool.not_eq_false', Bool.and_eq_true, Bool.or_eq_true, Bool.and_eq_false_iff, Bool.or_eq_false_iff] at c64
              refine W.seq ?_
              refine W.region ?_
              refine WL.c rfl (o_eq rfl rfl ?_)
              refine WL.c rfl (o_ash (show _ = Value.bool _ from rfl) ?_)
              refine WL.nil ?_
              refine W.cond rfl (fun c74 => ?_) (fun c74 => ?_)
              · try simp only [decide_eq_true_eq, decide_eq_false_iff_not, Bool.not_eq_true', Bool.not_eq_false', Bool.and_eq_true, Bool.or_eq_true, Bool.and_eq_false_iff, Bool.or_eq_false_iff] at c74
                refine W.seq ?_
                refine W.region ?_
                refine WL.c rfl (o_fa 1 TI69 rfl TI43 rfl h6 ?_)
                refine WL.u (o_stB TI43 rfl (show _ = Value.int .u64 0 from rfl) rfl hC6 (show 1 < 3 by decide) ?_)
                intro w76 hB76 ho76 hs76
                replace hC6 : w76.heap[b6]? = some (.cells (ndV ⟨kd, 0, y.kids⟩).toArray 69 (0, 0)) := hB76
                replace hx := hx.trans' ho76 (fun _ h => h) (fun k hk he => by omega)
                replace how := own_only how ho76 (fun k hk he => by subst he; exact hoff k hk rfl)
                clear hB76 ho76 hs76
                refine WL.nil ?_
                refine W.region ?_
                refine WL.c rfl (o_fa 2 TI69 rfl TI3 rfl h6 ?_)
                refine WL.c rfl (o_ld TI3 rfl rfl (cell_of hC6 rfl) ?_)
                refine WL.c rfl (o_call Tryd.call28 (lc rfl (lc rfl (lc rfl ln))) ((rest_spec y.kids 0 1 _ (by decide) (by decide) (by decide)).mono ?_))
                rintro v79 w79 ⟨⟨q2, rfl, hq20, hq2b⟩, rfl⟩
                refine WL.c rfl (o_fa 2 TI69 rfl TI3 rfl h6 ?_)
                refine WL.u (o_stB TI3 rfl (show _ = Value.int .i64 q2 from rfl) rfl hC6 (show 2 < 3 by decide) ?_)
                intro w80 hB80 ho80 hs80
                replace hC6 : w80.heap[b6]? = some (.cells (ndV ⟨kd, 0, q2⟩).toArray 69 (0, 0)) := hB80
                replace hx := hx.trans' ho80 (fun _ h => h) (fun k hk he => by omega)
                replace how := own_only how ho80 (fun k hk he => by subst he; exact hoff k hk rfl)
                clear hB80 ho80 hs80
                refine WL.nil ?_
                (refine ⟨_, ?_, ?_, ?_, ?_, hC6, h0, h3, h4, h5, h6, how, hx⟩ <;> first | (show _ ≤ (9 : Int); omega) | (show _ < _; omega) | (intro h150; have := hk150 h150; omega) | (simp_all [rightN, numB, leastK, mostK]; done) | (simp_all [rightN, numB, leastK, mostK]; omega))
              · try simp only [decide_eq_true_eq, decide_eq_false_iff_not, Bool.not_eq_true', Bool.not_eq_false', Bool.and_eq_true, Bool.or_eq_true, Bool.and_eq_false_iff, Bool.or_eq_false_iff] at c74
                refine W.seq ?_
                refine W.region ?_
                refine WL.c rfl (o_eq rfl rfl ?_)
                refine WL.c rfl (o_ash (show _ = Value.bool _ from rfl) ?_)
                refine WL.nil ?_
                refine W.cond rfl (fun c81 => ?_) (fun c81 => ?_)
                · try simp only [decide_eq_true_eq, decide_eq_false_iff_not, Bool.not_eq_true', Bool.not_eq_false', Bool.and_eq_true, Bool.or_eq_true, Bool.and_eq_false_iff, Bool.or_eq_false_iff] at c81
                  refine W.seq ?_
                  refine W.region ?_
                  refine WL.c rfl (o_fa 1 TI69 rfl TI43 rfl h6 ?_)
                  refine WL.c rfl (o_ld TI43 rfl rfl (cell_of hC6 rfl) ?_)
                  refine WL.c rfl (n_rem (b := 256) rfl rfl (by decide) ?_)
                  refine WL.c rfl (o_fa 1 TI69 rfl TI43 rfl h6 ?_)
                  refine WL.u (o_stB TI43 rfl (show _ = Value.int .u64 ((y.n % 256 : Nat) : Int) from rfl) rfl hC6 (show 1 < 3 by decide) ?_)
                  intro w86 hB86 ho86 hs86
                  replace hC6 : w86.heap[b6]? = some (.cells (ndV ⟨kd, y.n % 256, y.kids⟩).toArray 69 (0, 0)) := hB86
                  replace hx := hx.trans' ho86 (fun _ h => h) (fun k hk he => by omega)
                  replace how := own_only how ho86 (fun k hk he => by subst he; exact hoff k hk rfl)
                  clear hB86 ho86 hs86
                  refine WL.nil ?_
                  refine W.region ?_
                  refine WL.c rfl (o_fa 2 TI69 rfl TI3 rfl h6 ?_)
                  refine WL.u (o_stB TI3 rfl (show _ = Value.int .i64 1 from rfl) rfl hC6 (show 2 < 3 by decide) ?_)
                  intro w87 hB87 ho87 hs87
                  replace hC6 : w87.heap[b6]? = some (.cells (ndV ⟨kd, y.n % 256, 1⟩).toArray 69 (0, 0)) := hB87
                  replace hx := hx.trans' ho87 (fun _ h => h) (fun k hk he => by omega)
                  replace how := own_only how ho87 (fun k hk he => by subst he; exact hoff k hk rfl)
                  clear hB87 ho87 hs87
                  refine WL.nil ?_
                  (refine ⟨_, ?_, ?_, ?_, ?_, hC6, h0, h3, h4, h5, h6, how, hx⟩ <;> first | (show _ ≤ (9 : Int); omega) | (show _ < _; omega) | (intro h150; have := hk150 h150; omega) | (simp_all [rightN, numB, leastK, mostK]; done) | (simp_all [rightN, numB, leastK, mostK]; omega))
                · try simp only [decide_eq_true_eq, decide_eq_false_iff_not, Bool.not_eq_true', Bool.not_eq_false', Bool.and_eq_true, Bool.or_eq_true, Bool.and_eq_false_iff, Bool.or_eq_false_iff] at c81
                  exfalso; omega
    rintro e w ⟨x, hrt, hk0, hk9, hxn, hC6, h0, h3, h4, h5, h6, how, hx⟩
    refine W.seq ?_
    refine W.region ?_
    refine WL.c rfl (o_mvh h3 ?_)
    refine WL.c rfl (o_ldA TI69 rfl h6 (show Cells _ b6 0 (ndV x) from Cells.of hC6 0 _ (by simp)) rfl ?_)
    refine WL.ap1 (w0.heap.size) rfl rfl TI30 TI69 (show _ = Value.agg (ndV x).toArray from rfl) rfl how (by decide) (by decide) rfl (fun a ha => by simp [Value.cells, ndV] at ha; rcases ha with rfl | rfl | rfl <;> rfl) rfl (by rw [maxLen_eq]; omega) (by omega) hx.size ?_
    intro v91 w91 hown ho
    replace hC6 := ho.blk hC6 (fun hk => hoff _ hk rfl)
    replace hx := hx.trans' ho (fun _ h => h) (fun b hb he => by have := (how.lt b he).1; omega)
    replace hown : w91.ownsRow w0.heap.size 69 3 v91 (L ++ [x]).length (nds (L ++ [x])) := by rw [nds_snoc, List.length_append]; exact hown
    clear how
    have how := hown
    clear hown ho
    refine WL.c rfl (o_ash (by first | exact (show _ = Value.slice _ _ _ from rfl) | exact rfl) ?_)
    refine WL.nil ?_
    refine W.region ?_
    refine WL.c rfl (o_mvh h4 ?_)
    refine WL.c rfl (o_subi rfl rfl (by omega) ?_)
    refine WL.c rfl (o_fa 2 TI69 rfl TI3 rfl h6 ?_)
    refine WL.c rfl (o_ld TI3 rfl rfl (cell_of hC6 rfl) ?_)
    refine WL.c rfl (o_addi rfl rfl (by have := (right_kids hrt).1; omega) ?_)
    refine WL.c rfl (o_ash (show _ = Value.int _ _ from rfl) ?_)
    refine WL.nil ?_
    refine W.region ?_
    refine WL.c rfl (o_mvh h5 ?_)
    refine WL.c rfl (o_addi rfl rfl (by omega) ?_)
    refine WL.c rfl (o_ash (show _ = Value.int _ _ from rfl) ?_)
    refine WL.nil ?_
    have hLs : (L ++ [x]).length = L.length + 1 := by simp
    refine ⟨⟨L ++ [x], wt + (x.kids - 1), _, h0, rfl, by show Value.int _ _ = _; congr 1; omega, by rw [hLs]; rfl, by have := (right_kids hrt).1; omega, by rw [hLs]; by_cases h150 : 150 ≤ L.length; have := hk0 h150; omega; omega, chk_snoc hchk hrt (by omega), fun y hy => by
      rcases List.mem_append.1 hy with hy | hy
      · exact hNL y hy
      · rw [List.mem_singleton.1 hy]; exact hxn, how, hx⟩, ?_⟩
    show 1352 - ((L.length : Int) + 1).toNat < _
    rw [hm5]; simp [intOf]; omega
  · try simp only [decide_eq_true_eq, decide_eq_false_iff_not, Bool.not_eq_true', Bool.not_eq_false', Bool.and_eq_true, Bool.or_eq_true, Bool.and_eq_false_iff, Bool.or_eq_false_iff] at c9
    have hwz : wt = 0 := by omega
    subst hwz
    have hc0 := hchk []
    rw [List.append_nil, chkG, if_neg (by decide)] at hc0
    obtain ⟨t, ht, htl⟩ := chk_ok.1 (show (chkV L).1 = 0 by rw [hc0])
    refine W.exit ?_
    refine W.seq ?_
    refine W.region ?_
    refine WL.c rfl (o_mvh h3 ?_)
    refine WL.c rfl (o_ash (by first | exact (show _ = Value.slice _ _ _ from rfl) | exact rfl) ?_)
    refine WL.nil ?_
    refine W.ret ?_
    refine ret1v rfl rfl ?_
    exact ⟨t, ht, by rw [htl]; exact hNL, by rw [htl]; exact hLl, by rw [htl]; exact how, hx⟩
end Go.Proofs.YtgmjfcekeglhjaaDoor

set_option linter.unusedSimpArgs false
set_option linter.unusedVariables false
set_option maxRecDepth 100000
namespace Go.Proofs.YtgmjfcekeglhjaaDoor
open Go Go.Vc Go.RowKit Go.Proofs

theorem there_in {L : List Nd} (hc : (chkV L).1 = 0) {p : Nat} (hp : p < L.length) : thereV L p = 0 := by
  rw [thereV, if_neg (fun h => h hc), if_neg (by omega)]
theorem next_0 {L : List Nd} (hc : (chkV L).1 = 0) : nextV L 0 = L.length := by
  obtain ⟨t, hw, rfl⟩ := chk_ok.1 hc
  have := next_tree (v := t.flat) (p := 0) (t := t) (post := []) (by simp) hw
  rw [Nat.zero_add] at this
  exact this
theorem nds_at {L : List Nd} {p c : Nat} (hp : p < L.length) (hc : c < 3) : (nds L)[p * 3 + c]? = (ndV L[p])[c]? := by
  have h := nds_get (L := L.take p) (M := L.drop (p + 1)) (x := L[p]) hc
  rw [List.getElem_cons_drop hp, List.take_append_drop, List.length_take, Nat.min_eq_left (by omega)] at h
  exact h

end Go.Proofs.YtgmjfcekeglhjaaDoor

set_option linter.unusedSimpArgs false
set_option linter.unusedVariables false
namespace Go.Vc
open Go Go.RowKit Go.ChangeShapes Go.WideShapes

theorem addr_add (a : Addr) (m k : Nat) : (a.add m).add k = a.add (m + k) := by
  unfold Addr.add
  by_cases hm : m = 0 <;> by_cases hk : k = 0 <;> simp [hm, hk, Nat.add_assoc]

theorem list_of {α : Type} (p : Nat → α → Prop) : ∀ n, (∀ i, i < n → ∃ o, p i o) → ∃ os : List α, os.length = n ∧ ∀ i (h : i < os.length), p i os[i]
  | 0, _ => ⟨[], rfl, fun i h => by simp at h⟩
  | n + 1, h => by
    obtain ⟨os, h1, h2⟩ := list_of p n (fun i hi => h i (by omega))
    obtain ⟨o, ho⟩ := h n (by omega)
    refine ⟨os ++ [o], by simp [h1], fun i hi => ?_⟩
    by_cases e : i < os.length
    · rw [List.getElem_append_left e]; exact h2 i e
    · simp at hi
      have e2 : i = n := by omega
      subst e2
      rw [List.getElem_append_right (by omega)]
      simpa [h1] using ho
theorem flatMap_get {α : Type} {cells : α → List Value} {s : Nat} (hlen : ∀ o, (cells o).length = s) : ∀ (os : List α) (idx : Nat) (v : Value), (os.flatMap cells)[idx]? = some v → ∃ i j, ∃ h : i < os.length, idx = i * s + j ∧ (cells os[i])[j]? = some v
  | [], idx, v, h => by simp at h
  | o :: os, idx, v, h => by
    rw [List.flatMap_cons] at h
    by_cases e : idx < s
    · rw [List.getElem?_append_left (by rw [hlen]; exact e)] at h
      exact ⟨0, idx, by simp, by omega, h⟩
    · rw [List.getElem?_append_right (by rw [hlen]; omega), hlen] at h
      obtain ⟨i, j, hi, h1, h2⟩ := flatMap_get hlen os (idx - s) v h
      refine ⟨i + 1, j, by simp; omega, ?_, by simpa using h2⟩
      rw [Nat.add_mul]; omega
/-- its weights are within reach -/
def Small {H : Type} (P : Program) (t : TypeId) (d : DataW H) : Prop := ∀ n ∈ d.weights P t, n ≤ reachBytes
theorem Small.size {H : Type} {P : Program} {t e : TypeId} {elems spare : List (DataW H)} (h : Small P t (.slice elems spare)) (hu : P.underlying t = some (.slice e)) : (elems.length + spare.length) * P.bytesOf e ≤ reachBytes :=
  h _ (by simp only [DataW.weights, hu]; exact List.mem_cons_self ..)
theorem Small.part {H : Type} {P : Program} {t u : TypeId} {fs : Array Field} {parts : List (DataW H)} {i : Nat} {d : DataW H} (h : Small P t (.agg parts)) (hu : P.underlying t = some (.struct fs)) (hf : (fs.toList.map (·.type))[i]? = some u) (hd : parts[i]? = some d) : Small P u d := fun n hn =>
  h n (by simp only [DataW.weights, hu]; exact DataW.weights_mem_each hf hd n hn)
section
variable {H : Type} {enc : TypeId × Value → H} {P : Program} {W : World} {held : Bool}
theorem open_struct_len {t : TypeId} {fs : Array Field} {s : Nat} (hu : P.underlying t = some (.struct fs)) (hs : P.cellsOf t = s) {fuel : Nat} {cs : List Value} {x : DataW H × List MemPlace} (h : DataW.trod enc P W 0 (fun _ => true) held fuel t cs = some x) : cs.length = s := by
  obtain ⟨xs, n, -, -, h1, -⟩ := DataW.trod_struct hu h
  rw [h1, hs]
end
end Go.Vc

set_option linter.unusedSimpArgs false
set_option linter.unusedVariables false
set_option maxRecDepth 100000
namespace Go.Proofs.YtgmjfcekeglhjaaDoor
open Go Go.Vc Go.RowKit Go.Proofs

section
variable {H : Type} {enc : TypeId × Value → H} {P : Program} {W : World} {held : Bool}
/-- a slice of what is opened by 'hc', of any size -/
theorem open_rowsN {α : Type} {t e : TypeId} (s : Nat) (cells : α → List Value) (p : α → Prop) (hu : P.underlying t = some (.slice e)) (hs : P.cellsOf e = s) (hs0 : 0 < s) (hlen : ∀ o, (cells o).length = s)
    (hc : ∀ (n : Nat) (cs : List Value) (y : DataW H × List MemPlace), DataW.trod enc P W 0 (fun _ => true) held n e cs = some y → ∃ o, cs = cells o ∧ p o)
    {fuel : Nat} {v : Value} {x : DataW H × List MemPlace} (h : DataW.trod enc P W 0 (fun _ => true) held fuel t [v] = some x) :
    ∃ os : List α, os.length ≤ maxLen ∧ Sl W s v os.length (os.flatMap cells) ∧ ∀ o ∈ os, p o := by
  rcases DataW.trod_slice hu h with ⟨hcs, hd⟩ | ⟨a, len, cap, elems, rest, n, -, hcs, hx, -, hl, hm, hle, hel, -, -⟩
  · simp only [List.cons.injEq, and_true] at hcs
    subst hcs
    exact ⟨[], Nat.zero_le _, Sl.nil W s, fun o h => by cases h⟩
  · simp only [List.cons.injEq, and_true] at hcs
    subst hcs
    subst hx
    have key : ∀ i, i < len → ∃ o : α, (∀ j v, (cells o)[j]? = some v → W.cell? (a.add (i * s + j)) = some v) ∧ p o := by
      intro i hi
      have he := hel i hi
      rw [List.getElem?_eq_getElem (by omega), hs, Option.bind_eq_some_iff] at he
      obtain ⟨cs, h1, h2⟩ := he
      obtain ⟨-, h4, h5⟩ := World.cells?_some h1
      obtain ⟨o, ho, hp⟩ := hc n cs _ h2
      subst ho
      refine ⟨o, fun j v hj => ?_, hp⟩
      have hjs : j < s := by have := (List.getElem?_eq_some_iff.1 hj).1; rw [hlen] at this; exact this
      have := h5 j hjs
      rw [← hj, ← this, addr_add]
    obtain ⟨os, ho1, ho2⟩ := list_of _ len key
    refine ⟨os, by omega, ⟨?_, ?_⟩, fun o ho => ?_⟩
    · clear ho2 ho1
      induction os with
      | nil => simp
      | cons o os ih => rw [List.flatMap_cons, List.length_append, hlen, ih, List.length_cons, Nat.add_mul]; omega
    · by_cases h0 : len = 0
      · subst h0; exact .inl ⟨ho1, _, _, rfl⟩
      · obtain ⟨b, off, spot⟩ := a
        have h00 := (ho2 0 (by omega)).1 0 ((cells (os[0]'(by omega)))[0]'(by rw [hlen]; exact hs0)) (List.getElem?_eq_getElem _)
        have hsp : spot = none := by simpa [Addr.add] using World.cell?_spot h00
        subst hsp
        refine .inr ⟨b, off, cap, by rw [ho1], by omega, fun idx u hu => ?_⟩
        obtain ⟨i, j, hi, h1, h2⟩ := flatMap_get hlen os idx u hu
        have h3 := (ho2 i hi).1 j u h2
        rw [h1, ← h3, add_none]
    · obtain ⟨i, hi, rfl⟩ := List.getElem_of_mem ho
      exact (ho2 i hi).2
theorem open_fieldN {t u : TypeId} {fs : Array Field} {f : Field} (i off s : Nat) (hu : P.underlying t = some (.struct fs)) (hf : fs[i]? = some f) (ht : f.type = u) (ho : f.offset = off) (hs : P.cellsOf u = s) {fuel : Nat} {cs : List Value} {x : DataW H × List MemPlace}
    (h : DataW.trod enc P W 0 (fun _ => true) held fuel t cs = some x) : ∃ n y, DataW.trod enc P W 0 (fun _ => true) held n u ((cs.drop off).take s) = some y := by
  subst ht ho hs
  obtain ⟨xs, n, -, hx, -, hl, hall⟩ := DataW.trod_struct hu h
  have hi : i < fs.size := (Array.getElem?_eq_some_iff.1 hf).1
  have h1 := hall i f hf
  rw [List.getElem?_eq_getElem (by omega)] at h1
  exact ⟨n, _, h1⟩
theorem three_cells {cs : List Value} (h : cs.length = 3) : ∃ a b c, cs = [a, b, c] := by
  match cs, h with
  | [a, b, c], _ => exact ⟨a, b, c, rfl⟩
theorem open_node {n : Nat} {cs : List Value} {y : DataW H × List MemPlace} (h : DataW.trod enc Tryd.prog W 0 (fun _ => true) held n 69 cs = some y) : ∃ x : Nd, cs = ndV x ∧ x.n < 18446744073709551616 := by
  have hl := open_struct_len (s := 3) Tryd.underlying69 (by kernel_rfl) h
  obtain ⟨a, b, c, rfl⟩ := three_cells hl
  obtain ⟨n0, y0, h0⟩ := open_fieldN 0 0 1 Tryd.underlying69 rfl rfl rfl (by kernel_rfl) h
  obtain ⟨n1, y1, h1⟩ := open_fieldN 1 1 1 Tryd.underlying69 rfl rfl rfl (by kernel_rfl) h
  obtain ⟨n2, y2, h2⟩ := open_fieldN 2 2 1 Tryd.underlying69 rfl rfl rfl (by kernel_rfl) h
  obtain ⟨k, hk, -, -⟩ := DataW.trod_int Tryd.underlying3 h0
  obtain ⟨m, hm, -, wm⟩ := DataW.trod_int Tryd.underlying43 h1
  obtain ⟨q, hq, -, -⟩ := DataW.trod_int Tryd.underlying3 h2
  simp only [List.drop_zero, List.drop_succ_cons, List.take_succ_cons, List.take_zero, List.cons.injEq, and_true] at hk hm hq
  simp [Lit.wf, IntKind.min, IntKind.max, IntKind.signed, IntKind.bits] at wm
  refine ⟨⟨k, m.toNat, q⟩, ?_, by show m.toNat < _; omega⟩
  rw [hk, hm, hq]
  have : m = ((m.toNat : Nat) : Int) := by omega
  rw [this]
  rfl
theorem open_nodes {fuel : Nat} {v : Value} {x : DataW H × List MemPlace} (h : DataW.trod enc Tryd.prog W 0 (fun _ => true) held fuel 30 [v] = some x) : ∃ R : List Nd, Sl W 3 v R.length (nds R) ∧ R.length ≤ 9223372036854775807 ∧ NOk R := by
  obtain ⟨R, h1, h2, h3⟩ := open_rowsN 3 ndV (fun x => x.n < 18446744073709551616) Tryd.underlying30 (by kernel_rfl) (by decide) (fun _ => rfl) (fun n cs y hy => open_node hy) h
  exact ⟨R, h2, by rw [maxLen_eq] at h1; omega, h3⟩
end

end Go.Proofs.YtgmjfcekeglhjaaDoor

set_option linter.unusedSimpArgs false
set_option linter.unusedVariables false
set_option maxRecDepth 100000
namespace Go.Proofs.YtgmjfcekeglhjaaDoor
open Go Go.Vc Go.RowKit Go.Proofs

mutual
theorem txt_len : ∀ (t : Vt), NOk t.flat → t.txt.length + 2 ≤ 27 * t.flat.length
  | .node x ks, h => by
    have h1 := leafT_le (h x (by simp [Vt.flat]))
    have h2 := shutT_le x.kind
    have h3 := txts_len ks false (fun y hy => h y (by simp [Vt.flat, hy]))
    rw [Vt.txt, Vt.flat, List.length_append, List.length_append, List.length_cons]
    omega
theorem txts_len : ∀ (ts : Vts) (d : Bool), NOk ts.flat → (ts.txtS d).length ≤ 27 * ts.flat.length
  | .nil, d, _ => Nat.zero_le _
  | .cons t ts, d, h => by
    have h1 := txt_len t (fun y hy => h y (by simp [Vts.flat, hy]))
    have h2 := txts_len ts true (fun y hy => h y (by simp [Vts.flat, hy]))
    have h3 : (if d then [44, 32] else [] : List UInt8).length ≤ 2 := by split <;> simp
    rw [Vts.txtS, Vts.flat, List.length_append, List.length_append, List.length_append]
    omega
end
end Go.Proofs.YtgmjfcekeglhjaaDoor

set_option linter.unusedSimpArgs false
set_option linter.unusedVariables false
set_option maxRecDepth 100000
namespace Go.Proofs.YtgmjfcekeglhjaaDoor
open Go Go.Vc Go.RowKit Go.Proofs

/-- a row of bytes that a string was turned into -/
def ByR (w : World) (g : Nat) (xs : List UInt8) : Prop := ∃ (pad : List Value) (fr : Nat × Nat), w.heap[g]? = some (.cells (xs.map bv ++ pad).toArray 5 fr) ∧ xs.length ≤ fr.1
theorem ByR.only {w w' : World} {F : Nat → Prop} {g : Nat} {xs : List UInt8} (h : ByR w g xs) (ho : Only F w w') (hF : ¬ F g) : ByR w' g xs := by
  obtain ⟨pad, fr, h1, h2⟩ := h
  exact ⟨pad, fr, ho.blk h1 hF, h2⟩
theorem ByR.ext {w w' : World} {g : Nat} {xs : List UInt8} (h : ByR w g xs) (ho : Ext w w') : ByR w' g xs := h.only ho (fun h => h)
end Go.Proofs.YtgmjfcekeglhjaaDoor

set_option linter.unusedSimpArgs false
set_option linter.unusedVariables false
set_option maxRecDepth 100000
namespace Go.Proofs.YtgmjfcekeglhjaaDoor
open Go Go.Vc Go.RowKit Go.Proofs
set_option maxHeartbeats 2000000 in
theorem rnumber_spec (k : Int) (n : Nat) (w0 : World) : Ca Tryd.prog 41 #[.int .i64 k, .int .u64 (n : Int)] w0 (fun v w' => v = .bool (numB k n) ∧ w' = w0) := by
  refine Ca.of Tryd.func41 Tryd.ntmps41 rfl rfl ?_
  refine W.seq ?_
  refine W.region ?_
  refine WL.c rfl (o_ash (show _ = Value.bool _ from rfl) ?_)
  refine WL.nil ?_
  refine W.seq ?_
  refine W.seq ?_
  refine W.region ?_
  refine WL.c rfl (o_mvh (show _ = Value.int _ _ from rfl) ?_)
  refine WL.nil ?_
  refine W.block ?_
  refine W.seq ?_
  refine W.region ?_
  refine WL.c rfl (o_eq rfl rfl ?_)
  refine WL.c rfl (o_ash (show _ = Value.bool _ from rfl) ?_)
  refine WL.nil ?_
  refine W.cond rfl (fun c6 => ?_) (fun c6 => ?_)
  · try simp only [decide_eq_true_eq, decide_eq_false_iff_not, Bool.not_eq_true', Bool.not_eq_false', Bool.and_eq_true, Bool.or_eq_true, Bool.and_eq_false_iff, Bool.or_eq_false_iff] at c6
    refine W.seq ?_
    refine W.region ?_
    refine WL.c rfl (o_ash (show _ = Value.bool _ from rfl) ?_)
    refine WL.nil ?_
    refine W.ret ?_
    refine ret1v rfl (show _ = Value.bool _ from rfl) ?_
    exact ⟨congrArg Value.bool (by rw [Bool.eq_iff_iff]; simp_all [numB] <;> omega), rfl⟩
  · try simp only [decide_eq_true_eq, decide_eq_false_iff_not, Bool.not_eq_true', Bool.not_eq_false', Bool.and_eq_true, Bool.or_eq_true, Bool.and_eq_false_iff, Bool.or_eq_false_iff] at c6
    refine W.seq ?_
    refine W.region ?_
    refine WL.c rfl (o_eq rfl rfl ?_)
    refine WL.c rfl (o_ash (show _ = Value.bool _ from rfl) ?_)
    refine WL.nil ?_
    refine W.cond rfl (fun c8 => ?_) (fun c8 => ?_)
    · try simp only [decide_eq_true_eq, decide_eq_false_iff_not, Bool.not_eq_true', Bool.not_eq_false', Bool.and_eq_true, Bool.or_eq_true, Bool.and_eq_false_iff, Bool.or_eq_false_iff] at c8
      refine W.seq ?_
      refine W.region ?_
      refine WL.c rfl (o_mvh (show _ = Value.int _ _ from rfl) ?_)
      refine WL.c rfl (o_le rfl rfl ?_)
      refine WL.c rfl (o_ash (show _ = Value.bool _ from rfl) ?_)
      refine WL.nil ?_
      refine W.ret ?_
      refine ret1v rfl (show _ = Value.bool _ from rfl) ?_
      exact ⟨congrArg Value.bool (by rw [Bool.eq_iff_iff]; simp_all [numB] <;> omega), rfl⟩
    · try simp only [decide_eq_true_eq, decide_eq_false_iff_not, Bool.not_eq_true', Bool.not_eq_false', Bool.and_eq_true, Bool.or_eq_true, Bool.and_eq_false_iff, Bool.or_eq_false_iff] at c8
      refine W.seq ?_
      refine W.region ?_
      refine WL.c rfl (o_eq rfl rfl ?_)
      refine WL.c rfl (o_ash (show _ = Value.bool _ from rfl) ?_)
      refine WL.nil ?_
      refine W.cond rfl (fun c12 => ?_) (fun c12 => ?_)
      · try simp only [decide_eq_true_eq, decide_eq_false_iff_not, Bool.not_eq_true', Bool.not_eq_false', Bool.and_eq_true, Bool.or_eq_true, Bool.and_eq_false_iff, Bool.or_eq_false_iff] at c12
        refine W.seq ?_
        refine W.region ?_
        refine WL.c rfl (o_mvh (show _ = Value.int _ _ from rfl) ?_)
        refine WL.c rfl (o_le rfl rfl ?_)
        refine WL.c rfl (o_ash (show _ = Value.bool _ from rfl) ?_)
        refine WL.nil ?_
        refine W.ret ?_
        refine ret1v rfl (show _ = Value.bool _ from rfl) ?_
        exact ⟨congrArg Value.bool (by rw [Bool.eq_iff_iff]; simp_all [numB] <;> omega), rfl⟩
      · try simp only [decide_eq_true_eq, decide_eq_false_iff_not, Bool.not_eq_true', Bool.not_eq_false', Bool.and_eq_true, Bool.or_eq_true, Bool.and_eq_false_iff, Bool.or_eq_false_iff] at c12
        refine W.skip ?_
        refine W.seq ?_
        refine W.region ?_
        refine WL.c rfl (o_mvh (show _ = Value.int _ _ from rfl) ?_)
        refine WL.c rfl (o_eq rfl rfl ?_)
        refine WL.c rfl (o_mvh (show _ = Value.bool _ from rfl) ?_)
        refine WL.sp 2 rfl (fun g18 => ?_) (fun g18 => ?_)
        · skip
          refine WL.g rfl (g18) rfl (o_mvh (show _ = Value.int _ _ from rfl) ?_)
          refine WL.g rfl (g18) rfl (o_eq rfl rfl ?_)
          refine WL.g rfl (g18) rfl (o_mvh (show _ = Value.bool _ from rfl) ?_)
          refine WL.sp 5 rfl (fun g21 => ?_) (fun g21 => ?_)
          · skip
            refine WL.s rfl (g21) rfl ?_
            refine WL.s rfl (g21) rfl ?_
            refine WL.g rfl (g18) rfl (o_pickT rfl (g21) ?_)
            refine WL.g rfl (g18) rfl (o_mvh (show _ = Value.bool _ from rfl) ?_)
            refine WL.s rfl (rfl) rfl ?_
            refine WL.s rfl (rfl) rfl ?_
            refine WL.g rfl (g18) rfl (o_pickT rfl (rfl) ?_)
            refine WL.c rfl (o_pickA rfl rfl ?_)
            refine WL.c rfl (o_ash (show _ = Value.bool _ from rfl) ?_)
            refine WL.nil ?_
            refine W.ret ?_
            refine ret1v rfl (show _ = Value.bool _ from rfl) ?_
            exact ⟨congrArg Value.bool (by rw [Bool.eq_iff_iff]; simp_all [numB] <;> omega), rfl⟩
          · skip
            refine WL.g rfl (g21) rfl (o_mvh (show _ = Value.int _ _ from rfl) ?_)
            refine WL.g rfl (g21) rfl (o_eq rfl rfl ?_)
            refine WL.g rfl (g18) rfl (o_pickO rfl rfl ?_)
            refine WL.g rfl (g18) rfl (o_mvh (show _ = Value.bool _ from rfl) ?_)
            refine WL.sp 9 rfl (fun g25 => ?_) (fun g25 => ?_)
            · skip
              refine WL.s rfl (g25) rfl ?_
              refine WL.s rfl (g25) rfl ?_
              refine WL.g rfl (g18) rfl (o_pickT rfl (g25) ?_)
              refine WL.c rfl (o_pickA rfl rfl ?_)
              refine WL.c rfl (o_ash (show _ = Value.bool _ from rfl) ?_)
              refine WL.nil ?_
              refine W.ret ?_
              refine ret1v rfl (show _ = Value.bool _ from rfl) ?_
              exact ⟨congrArg Value.bool (by rw [Bool.eq_iff_iff]; simp_all [numB] <;> omega), rfl⟩
            · skip
              refine WL.g rfl (g25) rfl (o_mvh (show _ = Value.int _ _ from rfl) ?_)
              refine WL.g rfl (g25) rfl (o_eq rfl rfl ?_)
              refine WL.g rfl (g18) rfl (o_pickO rfl rfl ?_)
              refine WL.c rfl (o_pickA rfl rfl ?_)
              refine WL.c rfl (o_ash (show _ = Value.bool _ from rfl) ?_)
              refine WL.nil ?_
              refine W.ret ?_
              refine ret1v rfl (show _ = Value.bool _ from rfl) ?_
              exact ⟨congrArg Value.bool (by rw [Bool.eq_iff_iff]; simp_all [numB] <;> omega), rfl⟩
        · skip
          refine WL.s rfl (g18) rfl ?_
          refine WL.s rfl (g18) rfl ?_
          refine WL.s rfl (g18) rfl ?_
          refine WL.z rfl rfl ?_
          refine WL.z rfl rfl ?_
          refine WL.s rfl (g18) rfl ?_
          refine WL.s rfl (g18) rfl ?_
          refine WL.z rfl rfl ?_
          refine WL.z rfl rfl ?_
          refine WL.s rfl (g18) rfl ?_
          refine WL.c rfl (o_pickF rfl (g18) ?_)
          refine WL.c rfl (o_ash (show _ = Value.bool _ from rfl) ?_)
          refine WL.nil ?_
          refine W.ret ?_
          refine ret1v rfl (show _ = Value.bool _ from rfl) ?_
          exact ⟨congrArg Value.bool (by rw [Bool.eq_iff_iff]; simp_all [numB] <;> omega), rfl⟩
set_option maxHeartbeats 4000000 in
theorem rright_spec (x : Nd) (w0 : World) : Ca Tryd.prog 60 #[.agg (ndV x).toArray] w0 (fun v w' => v = .bool (rightN x) ∧ Ext w0 w') := by
  refine Ca.of Tryd.func60 Tryd.ntmps60 rfl rfl ?_
  refine W.seq ?_
  refine W.region ?_
  refine WL.c rfl (o_boxB rfl ?_)
  intro w1 hC1 hx1 hs1
  obtain ⟨b1, hb1⟩ : ∃ b, b = w0.heap.size := ⟨_, rfl⟩
  rw [← hb1] at hC1 ⊢
  replace hC1 : w1.heap[b1]? = some (.cells (ndV x).toArray 69 (0, 0)) := hC1
  have hx := hx1
  refine WL.c rfl (o_ash (show _ = Value.bool _ from rfl) ?_)
  refine WL.nil ?_
  refine W.seq ?_
  refine W.seq ?_
  refine W.region ?_
  refine WL.c rfl (o_fa 0 TI69 rfl TI3 rfl rfl ?_)
  refine WL.c rfl (o_ld TI3 rfl rfl (cell_of hC1 rfl) ?_)
  refine WL.c rfl (o_fa 1 TI69 rfl TI43 rfl rfl ?_)
  refine WL.c rfl (o_ld TI43 rfl rfl (cell_of hC1 rfl) ?_)
  refine WL.c rfl (o_call Tryd.call41 (lc rfl (lc rfl ln)) ((rnumber_spec x.kind x.n _).mono ?_))
  rintro v7 w7 ⟨rfl, rfl⟩
  refine WL.c rfl (o_not' rfl ?_)
  refine WL.nil ?_
  refine W.cond rfl (fun c8 => ?_) (fun c8 => ?_)
  · try simp only [decide_eq_true_eq, decide_eq_false_iff_not, Bool.not_eq_true', Bool.not_eq_false', Bool.and_eq_true, Bool.or_eq_true, Bool.and_eq_false_iff, Bool.or_eq_false_iff] at c8
    refine W.seq ?_
    refine W.region ?_
    refine WL.c rfl (o_ash (show _ = Value.bool _ from rfl) ?_)
    refine WL.nil ?_
    refine W.ret ?_
    refine ret1v rfl (show _ = Value.bool _ from rfl) ?_
    exact ⟨congrArg Value.bool (by rw [Bool.eq_iff_iff]; simp_all [rightN, leastK, mostK] <;> omega), hx⟩
  · try simp only [decide_eq_true_eq, decide_eq_false_iff_not, Bool.not_eq_true', Bool.not_eq_false', Bool.and_eq_true, Bool.or_eq_true, Bool.and_eq_false_iff, Bool.or_eq_false_iff] at c8
    refine W.skip ?_
    refine W.seq ?_
    refine W.seq ?_
    refine W.region ?_
    refine WL.c rfl (o_fa 0 TI69 rfl TI3 rfl rfl ?_)
    refine WL.c rfl (o_ld TI3 rfl rfl (cell_of hC1 rfl) ?_)
    refine WL.nil ?_
    refine W.block ?_
    refine W.seq ?_
    refine W.region ?_
    refine WL.c rfl (o_eq rfl rfl ?_)
    refine WL.c rfl (o_ash (show _ = Value.bool _ from rfl) ?_)
    refine WL.nil ?_
    refine W.cond rfl (fun c11 => ?_) (fun c11 => ?_)
    · try simp only [decide_eq_true_eq, decide_eq_false_iff_not, Bool.not_eq_true', Bool.not_eq_false', Bool.and_eq_true, Bool.or_eq_true, Bool.and_eq_false_iff, Bool.or_eq_false_iff] at c11
      refine W.seq ?_
      refine W.region ?_
      refine WL.c rfl (o_fa 2 TI69 rfl TI3 rfl rfl ?_)
      refine WL.c rfl (o_ld TI3 rfl rfl (cell_of hC1 rfl) ?_)
      refine WL.c rfl (o_ge rfl rfl ?_)
      refine WL.c rfl (o_mvh (show _ = Value.bool _ from rfl) ?_)
      refine WL.sp 3 rfl (fun g16 => ?_) (fun g16 => ?_)
      · skip
        refine WL.g rfl (g16) rfl (o_fa 2 TI69 rfl TI3 rfl rfl ?_)
        refine WL.g rfl (g16) rfl (o_ld TI3 rfl rfl (cell_of hC1 rfl) ?_)
        refine WL.g rfl (g16) rfl (o_le rfl rfl ?_)
        refine WL.c rfl (o_pickA rfl rfl ?_)
        refine WL.c rfl (o_ash (show _ = Value.bool _ from rfl) ?_)
        refine WL.nil ?_
        refine W.ret ?_
        refine ret1v rfl (show _ = Value.bool _ from rfl) ?_
        exact ⟨congrArg Value.bool (by rw [Bool.eq_iff_iff]; simp_all [rightN, leastK, mostK] <;> omega), hx⟩
      · skip
        refine WL.s rfl (g16) rfl ?_
        refine WL.s rfl (g16) rfl ?_
        refine WL.s rfl (g16) rfl ?_
        refine WL.c rfl (o_pickF rfl (g16) ?_)
        refine WL.c rfl (o_ash (show _ = Value.bool _ from rfl) ?_)
        refine WL.nil ?_
        refine W.ret ?_
        refine ret1v rfl (show _ = Value.bool _ from rfl) ?_
        exact ⟨congrArg Value.bool (by rw [Bool.eq_iff_iff]; simp_all [rightN, leastK, mostK] <;> omega), hx⟩
    · try simp only [decide_eq_true_eq, decide_eq_false_iff_not, Bool.not_eq_true', Bool.not_eq_false', Bool.and_eq_true, Bool.or_eq_true, Bool.and_eq_false_iff, Bool.or_eq_false_iff] at c11
      refine W.seq ?_
      refine W.region ?_
      refine WL.c rfl (o_eq rfl rfl ?_)
      refine WL.c rfl (o_ash (show _ = Value.bool _ from rfl) ?_)
      refine WL.nil ?_
      refine W.cond rfl (fun c21 => ?_) (fun c21 => ?_)
      · try simp only [decide_eq_true_eq, decide_eq_false_iff_not, Bool.not_eq_true', Bool.not_eq_false', Bool.and_eq_true, Bool.or_eq_true, Bool.and_eq_false_iff, Bool.or_eq_false_iff] at c21
        refine W.seq ?_
        refine W.region ?_
        refine WL.c rfl (o_fa 2 TI69 rfl TI3 rfl rfl ?_)
        refine WL.c rfl (o_ld TI3 rfl rfl (cell_of hC1 rfl) ?_)
        refine WL.c rfl (o_ge rfl rfl ?_)
        refine WL.c rfl (o_mvh (show _ = Value.bool _ from rfl) ?_)
        refine WL.sp 3 rfl (fun g26 => ?_) (fun g26 => ?_)
        · skip
          refine WL.g rfl (g26) rfl (o_fa 2 TI69 rfl TI3 rfl rfl ?_)
          refine WL.g rfl (g26) rfl (o_ld TI3 rfl rfl (cell_of hC1 rfl) ?_)
          refine WL.g rfl (g26) rfl (o_le rfl rfl ?_)
          refine WL.c rfl (o_pickA rfl rfl ?_)
          refine WL.c rfl (o_ash (show _ = Value.bool _ from rfl) ?_)
          refine WL.nil ?_
          refine W.ret ?_
          refine ret1v rfl (show _ = Value.bool _ from rfl) ?_
          exact ⟨congrArg Value.bool (by rw [Bool.eq_iff_iff]; simp_all [rightN, leastK, mostK] <;> omega), hx⟩
        · skip
          refine WL.s rfl (g26) rfl ?_
          refine WL.s rfl (g26) rfl ?_
          refine WL.s rfl (g26) rfl ?_
          refine WL.c rfl (o_pickF rfl (g26) ?_)
          refine WL.c rfl (o_ash (show _ = Value.bool _ from rfl) ?_)
          refine WL.nil ?_
          refine W.ret ?_
          refine ret1v rfl (show _ = Value.bool _ from rfl) ?_
          exact ⟨congrArg Value.bool (by rw [Bool.eq_iff_iff]; simp_all [rightN, leastK, mostK] <;> omega), hx⟩
      · try simp only [decide_eq_true_eq, decide_eq_false_iff_not, Bool.not_eq_true', Bool.not_eq_false', Bool.and_eq_true, Bool.or_eq_true, Bool.and_eq_false_iff, Bool.or_eq_false_iff] at c21
        refine W.seq ?_
        refine W.region ?_
        refine WL.c rfl (o_eq rfl rfl ?_)
        refine WL.c rfl (o_ash (show _ = Value.bool _ from rfl) ?_)
        refine WL.nil ?_
        refine W.cond rfl (fun c31 => ?_) (fun c31 => ?_)
        · try simp only [decide_eq_true_eq, decide_eq_false_iff_not, Bool.not_eq_true', Bool.not_eq_false', Bool.and_eq_true, Bool.or_eq_true, Bool.and_eq_false_iff, Bool.or_eq_false_iff] at c31
          refine W.seq ?_
          refine W.region ?_
          refine WL.c rfl (o_fa 2 TI69 rfl TI3 rfl rfl ?_)
          refine WL.c rfl (o_ld TI3 rfl rfl (cell_of hC1 rfl) ?_)
          refine WL.c rfl (o_eq rfl rfl ?_)
          refine WL.c rfl (o_mvh (show _ = Value.bool _ from rfl) ?_)
          refine WL.sp 3 rfl (fun g36 => ?_) (fun g36 => ?_)
          · skip
            refine WL.s rfl (g36) rfl ?_
            refine WL.s rfl (g36) rfl ?_
            refine WL.s rfl (g36) rfl ?_
            refine WL.c rfl (o_pickT rfl (g36) ?_)
            refine WL.c rfl (o_ash (show _ = Value.bool _ from rfl) ?_)
            refine WL.nil ?_
            refine W.ret ?_
            refine ret1v rfl (show _ = Value.bool _ from rfl) ?_
            exact ⟨congrArg Value.bool (by rw [Bool.eq_iff_iff]; simp_all [rightN, leastK, mostK] <;> omega), hx⟩
          · skip
            refine WL.g rfl (g36) rfl (o_fa 2 TI69 rfl TI3 rfl rfl ?_)
            refine WL.g rfl (g36) rfl (o_ld TI3 rfl rfl (cell_of hC1 rfl) ?_)
            refine WL.g rfl (g36) rfl (o_eq rfl rfl ?_)
            refine WL.c rfl (o_pickO rfl rfl ?_)
            refine WL.c rfl (o_ash (show _ = Value.bool _ from rfl) ?_)
            refine WL.nil ?_
            refine W.ret ?_
            refine ret1v rfl (show _ = Value.bool _ from rfl) ?_
            exact ⟨congrArg Value.bool (by rw [Bool.eq_iff_iff]; simp_all [rightN, leastK, mostK] <;> omega), hx⟩
        · try simp only [decide_eq_true_eq, decide_eq_false_iff_not, Bool.not_eq_true', Bool.not_eq_false', Bool.and_eq_true, Bool.or_eq_true, Bool.and_eq_false_iff, Bool.or_eq_false_iff] at c31
          refine W.seq ?_
          refine W.region ?_
          refine WL.c rfl (o_eq rfl rfl ?_)
          refine WL.c rfl (o_ash (show _ = Value.bool _ from rfl) ?_)
          refine WL.nil ?_
          refine W.cond rfl (fun c41 => ?_) (fun c41 => ?_)
          · try simp only [decide_eq_true_eq, decide_eq_false_iff_not, Bool.not_eq_true', Bool.not_eq_false', Bool.and_eq_true, Bool.or_eq_true, Bool.and_eq_false_iff, Bool.or_eq_false_iff] at c41
            refine W.seq ?_
            refine W.region ?_
            refine WL.c rfl (o_fa 2 TI69 rfl TI3 rfl rfl ?_)
            refine WL.c rfl (o_ld TI3 rfl rfl (cell_of hC1 rfl) ?_)
            refine WL.c rfl (o_eq rfl rfl ?_)
            refine WL.c rfl (o_ash (show _ = Value.bool _ from rfl) ?_)
            refine WL.nil ?_
            refine W.ret ?_
            refine ret1v rfl (show _ = Value.bool _ from rfl) ?_
            exact ⟨congrArg Value.bool (by rw [Bool.eq_iff_iff]; simp_all [rightN, leastK, mostK] <;> omega), hx⟩
          · try simp only [decide_eq_true_eq, decide_eq_false_iff_not, Bool.not_eq_true', Bool.not_eq_false', Bool.and_eq_true, Bool.or_eq_true, Bool.and_eq_false_iff, Bool.or_eq_false_iff] at c41
            refine W.skip ?_
            refine W.seq ?_
            refine W.region ?_
            refine WL.c rfl (o_fa 2 TI69 rfl TI3 rfl rfl ?_)
            refine WL.c rfl (o_ld TI3 rfl rfl (cell_of hC1 rfl) ?_)
            refine WL.c rfl (o_eq rfl rfl ?_)
            refine WL.c rfl (o_ash (show _ = Value.bool _ from rfl) ?_)
            refine WL.nil ?_
            refine W.ret ?_
            refine ret1v rfl (show _ = Value.bool _ from rfl) ?_
            exact ⟨congrArg Value.bool (by rw [Bool.eq_iff_iff]; simp_all [rightN, leastK, mostK] <;> omega), hx⟩
set_option maxHeartbeats 4000000 in
theorem rcheck_spec (L : List Nd) (v : Value) (w0 : World) (hS : Sl w0 3 v L.length (nds L)) (hl : L.length ≤ 5864062014805) : Ca Tryd.prog 53 #[v] w0 (fun r w' => r = .tuple #[.int .i64 (chkV L).1, .int .i64 (chkV L).2] ∧ Ext w0 w') := by
  have hx : Ext w0 w0 := Only.refl _ _
  refine Ca.of Tryd.func53 Tryd.ntmps53 rfl rfl ?_
  refine W.seq ?_
  refine W.region ?_
  refine WL.c rfl (o_ash (show _ = Value.int _ _ from rfl) ?_)
  refine WL.c rfl (o_ash (show _ = Value.int _ _ from rfl) ?_)
  refine WL.nil ?_
  refine W.seq ?_
  refine W.region ?_
  refine WL.c rfl (o_ash (show _ = Value.int _ _ from rfl) ?_)
  refine WL.nil ?_
  refine W.seq ?_
  refine W.seq ?_
  refine W.region ?_
  refine WL.c rfl (o_ash (show _ = Value.int _ _ from rfl) ?_)
  refine WL.nil ?_
  refine W.block ?_
  refine W.loop (fun e w => ∃ (i : Nat) (t : Int), i ≤ L.length ∧ e 0 = v ∧ e 4 = .int .i64 t ∧ e 5 = .int .i64 (i : Int) ∧ chkV L = chkG t i (L.drop i) ∧ 0 ≤ t ∧ t ≤ 1 + 1048576 * (i : Int) ∧ Ext w0 w) (fun e w => L.length - (intOf (e 5)).toNat) ?_ ?_
  · exact ⟨0, 1, Nat.zero_le _, rfl, rfl, rfl, rfl, by omega, by omega, hx⟩
  rintro e w ⟨i, t, hi, h0, h4, h5, hres, ht0, ht1, hx⟩
  have hm5 := h5
  refine W.seq ?_
  refine W.seq ?_
  refine W.region ?_
  refine WL.c rfl (o_mvh h5 ?_)
  refine WL.c rfl (o_mvh h0 ?_)
  refine WL.c rfl (o_lenR TI30 rfl (hS.ext hx) ?_)
  refine WL.c rfl (o_lt rfl rfl ?_)
  refine WL.nil ?_
  refine W.cond rfl (fun c9 => ?_) (fun c9 => ?_)
  · try simp only [decide_eq_true_eq, decide_eq_false_iff_not, Bool.not_eq_true', Bool.not_eq_false', Bool.and_eq_true, Bool.or_eq_true, Bool.and_eq_false_iff, Bool.or_eq_false_iff] at c9
    have hi1 : i < L.length := by omega
    obtain ⟨ub, uo, uc, hv, huc⟩ := Sl.nd (hS.ext hx) hi1
    rw [hv] at h0
    have hdr : L.drop i = L[i] :: L.drop (i + 1) := (List.getElem_cons_drop hi1).symm
    refine W.skip ?_
    refine W.seq ?_
    refine W.block ?_
    refine W.seq ?_
    refine W.seq ?_
    refine W.region ?_
    refine WL.c rfl (o_mvh h4 ?_)
    refine WL.c rfl (o_eq rfl rfl ?_)
    refine WL.c rfl (o_mvh (show _ = Value.bool _ from rfl) ?_)
    refine WL.sp 2 rfl (fun g14 => ?_) (fun g14 => ?_)
    · skip
      refine WL.s rfl (g14) rfl ?_
      refine WL.s rfl (g14) rfl ?_
      refine WL.s rfl (g14) rfl ?_
      refine WL.s rfl (g14) rfl ?_
      refine WL.s rfl (g14) rfl ?_
      refine WL.s rfl (g14) rfl ?_
      refine WL.c rfl (o_pickT rfl (g14) ?_)
      refine WL.nil ?_
      refine W.cond rfl (fun c21 => ?_) (fun c21 => ?_)
      · try simp only [decide_eq_true_eq, decide_eq_false_iff_not, Bool.not_eq_true', Bool.not_eq_false', Bool.and_eq_true, Bool.or_eq_true, Bool.and_eq_false_iff, Bool.or_eq_false_iff] at c21
        have hbad : t = 0 ∨ rightN L[i] = false := by first | exact .inl (by simpa using g14) | exact .inr (by simpa using c21) | simpa using c21
        refine W.seq ?_
        refine W.region ?_
        refine WL.c rfl (o_mvh h5 ?_)
        refine WL.c rfl (o_ash (show _ = Value.int _ _ from rfl) ?_)
        refine WL.c rfl (o_ash (show _ = Value.int _ _ from rfl) ?_)
        refine WL.nil ?_
        refine W.ret ?_
        refine ret2v rfl (show _ = Value.int _ _ from rfl) (show _ = Value.int _ _ from rfl) ?_
        exact ⟨by rw [hres, hdr, chkG, if_pos hbad], hx⟩
      · try simp only [decide_eq_true_eq, decide_eq_false_iff_not, Bool.not_eq_true', Bool.not_eq_false', Bool.and_eq_true, Bool.or_eq_true, Bool.and_eq_false_iff, Bool.or_eq_false_iff] at c21
        have hok : ¬ (t = 0 ∨ rightN L[i] = false) := by first | (exfalso; simp at c21; done) | simpa using c21
        have hrt : rightN L[i] = true := by cases h : rightN L[i] with | true => rfl | false => exact absurd (.inr h) hok
        have ht2 : ¬ t = 0 := fun h => hok (.inl h)
        have hkd := right_kids hrt
        refine W.skip ?_
        refine W.region ?_
        refine WL.c rfl (o_mvh h4 ?_)
        refine WL.c rfl (o_subi rfl rfl (by omega) ?_)
        refine WL.c rfl (o_mvh h0 ?_)
        refine WL.c rfl (o_mvh h5 ?_)
        refine WL.c rfl (o_ixB (i := i) TI30 TI69 (show _ = Value.slice (some ⟨ub, uo, none⟩) L.length uc from by first | rfl | assumption) (show _ = Value.int .i64 (i : Int) from by first | rfl | assumption) (by omega) ?_)
        refine WL.c rfl (o_fa 2 TI69 rfl TI3 rfl rfl ?_)
        refine WL.c rfl (o_ld TI3 rfl rfl (huc 2 _ rfl) ?_)
        refine WL.c rfl (o_addi rfl rfl (by omega) ?_)
        refine WL.c rfl (o_ash (show _ = Value.int _ _ from rfl) ?_)
        refine WL.nil ?_
        refine W.region ?_
        refine WL.c rfl (o_mvh h5 ?_)
        refine WL.c rfl (o_addi rfl rfl (by omega) ?_)
        refine WL.c rfl (o_ash (show _ = Value.int _ _ from rfl) ?_)
        refine WL.nil ?_
        refine ⟨⟨i + 1, t + (L[i].kids - 1), by omega, h0.trans hv.symm, by show Value.int _ _ = _; congr 1; omega, rfl, ?_, by omega, by omega, hx⟩, ?_⟩
        · rw [hres, hdr, chkG, if_neg hok]
        · show L.length - ((i : Int) + 1).toNat < _
          rw [hm5]; simp [intOf]; omega
    · skip
      refine WL.g rfl (g14) rfl (o_mvh h0 ?_)
      refine WL.g rfl (g14) rfl (o_mvh h5 ?_)
      refine WL.g rfl (g14) rfl (o_ixB (i := i) TI30 TI69 (show _ = Value.slice (some ⟨ub, uo, none⟩) L.length uc from by first | rfl | assumption) (show _ = Value.int .i64 (i : Int) from by first | rfl | assumption) (by omega) ?_)
      refine WL.g rfl (g14) rfl (o_ldA TI69 rfl rfl huc rfl ?_)
      refine WL.g rfl (g14) rfl (o_call Tryd.call60 (lc rfl ln) ((rright_spec L[i] _).mono ?_))
      rintro v19 w19 ⟨rfl, hx19⟩
      replace hx := hx.tr hx19
      replace huc := huc.only hx19 (fun h => h)
      refine WL.g rfl (g14) rfl (o_not' rfl ?_)
      refine WL.c rfl (o_pickO rfl rfl ?_)
      refine WL.nil ?_
      refine W.cond rfl (fun c21 => ?_) (fun c21 => ?_)
      · try simp only [decide_eq_true_eq, decide_eq_false_iff_not, Bool.not_eq_true', Bool.not_eq_false', Bool.and_eq_true, Bool.or_eq_true, Bool.and_eq_false_iff, Bool.or_eq_false_iff] at c21
        have hbad : t = 0 ∨ rightN L[i] = false := by first | exact .inl (by simpa using g14) | exact .inr (by simpa using c21) | simpa using c21
        refine W.seq ?_
        refine W.region ?_
        refine WL.c rfl (o_mvh h5 ?_)
        refine WL.c rfl (o_ash (show _ = Value.int _ _ from rfl) ?_)
        refine WL.c rfl (o_ash (show _ = Value.int _ _ from rfl) ?_)
        refine WL.nil ?_
        refine W.ret ?_
        refine ret2v rfl (show _ = Value.int _ _ from rfl) (show _ = Value.int _ _ from rfl) ?_
        exact ⟨by rw [hres, hdr, chkG, if_pos hbad], hx⟩
      · try simp only [decide_eq_true_eq, decide_eq_false_iff_not, Bool.not_eq_true', Bool.not_eq_false', Bool.and_eq_true, Bool.or_eq_true, Bool.and_eq_false_iff, Bool.or_eq_false_iff] at c21
        have hok : ¬ (t = 0 ∨ rightN L[i] = false) := by first | (exfalso; simp at c21; done) | simpa using c21
        have hrt : rightN L[i] = true := by cases h : rightN L[i] with | true => rfl | false => exact absurd (.inr h) hok
        have ht2 : ¬ t = 0 := fun h => hok (.inl h)
        have hkd := right_kids hrt
        refine W.skip ?_
        refine W.region ?_
        refine WL.c rfl (o_mvh h4 ?_)
        refine WL.c rfl (o_subi rfl rfl (by omega) ?_)
        refine WL.c rfl (o_mvh h0 ?_)
        refine WL.c rfl (o_mvh h5 ?_)
        refine WL.c rfl (o_ixB (i := i) TI30 TI69 (show _ = Value.slice (some ⟨ub, uo, none⟩) L.length uc from by first | rfl | assumption) (show _ = Value.int .i64 (i : Int) from by first | rfl | assumption) (by omega) ?_)
        refine WL.c rfl (o_fa 2 TI69 rfl TI3 rfl rfl ?_)
        refine WL.c rfl (o_ld TI3 rfl rfl (huc 2 _ rfl) ?_)
        refine WL.c rfl (o_addi rfl rfl (by omega) ?_)
        refine WL.c rfl (o_ash (show _ = Value.int _ _ from rfl) ?_)
        refine WL.nil ?_
        refine W.region ?_
        refine WL.c rfl (o_mvh h5 ?_)
        refine WL.c rfl (o_addi rfl rfl (by omega) ?_)
        refine WL.c rfl (o_ash (show _ = Value.int _ _ from rfl) ?_)
        refine WL.nil ?_
        refine ⟨⟨i + 1, t + (L[i].kids - 1), by omega, h0.trans hv.symm, by show Value.int _ _ = _; congr 1; omega, rfl, ?_, by omega, by omega, hx⟩, ?_⟩
        · rw [hres, hdr, chkG, if_neg hok]
        · show L.length - ((i : Int) + 1).toNat < _
          rw [hm5]; simp [intOf]; omega
  · try simp only [decide_eq_true_eq, decide_eq_false_iff_not, Bool.not_eq_true', Bool.not_eq_false', Bool.and_eq_true, Bool.or_eq_true, Bool.and_eq_false_iff, Bool.or_eq_false_iff] at c9
    have hi1 : i = L.length := by omega
    rw [hi1, List.drop_length, chkG] at hres
    refine W.exit ?_
    refine W.seq ?_
    refine W.seq ?_
    refine W.region ?_
    refine WL.c rfl (o_mvh h4 ?_)
    refine WL.c rfl (o_gt rfl rfl ?_)
    refine WL.nil ?_
    refine W.cond rfl (fun c32 => ?_) (fun c32 => ?_)
    · try simp only [decide_eq_true_eq, decide_eq_false_iff_not, Bool.not_eq_true', Bool.not_eq_false', Bool.and_eq_true, Bool.or_eq_true, Bool.and_eq_false_iff, Bool.or_eq_false_iff] at c32
      refine W.seq ?_
      refine W.region ?_
      refine WL.c rfl (o_mvh h0 ?_)
      refine WL.c rfl (o_lenR TI30 rfl (hS.ext hx) ?_)
      refine WL.c rfl (o_ash (show _ = Value.int _ _ from rfl) ?_)
      refine WL.c rfl (o_ash (show _ = Value.int _ _ from rfl) ?_)
      refine WL.nil ?_
      refine W.ret ?_
      refine ret2v rfl (show _ = Value.int _ _ from rfl) (show _ = Value.int _ _ from rfl) ?_
      exact ⟨by rw [hres, if_pos (by omega)], hx⟩
    · try simp only [decide_eq_true_eq, decide_eq_false_iff_not, Bool.not_eq_true', Bool.not_eq_false', Bool.and_eq_true, Bool.or_eq_true, Bool.and_eq_false_iff, Bool.or_eq_false_iff] at c32
      refine W.skip ?_
      refine W.seq ?_
      refine W.region ?_
      refine WL.c rfl (o_ash (show _ = Value.int _ _ from rfl) ?_)
      refine WL.c rfl (o_ash (show _ = Value.int _ _ from rfl) ?_)
      refine WL.nil ?_
      refine W.ret ?_
      refine ret2v rfl (show _ = Value.int _ _ from rfl) (show _ = Value.int _ _ from rfl) ?_
      exact ⟨by rw [hres, if_neg (by omega)], hx⟩
set_option maxHeartbeats 2000000 in
theorem rbehind_spec (L : List Nd) (v : Value) (p : Nat) (w0 : World) (hS : Sl w0 3 v L.length (nds L)) (hl : L.length ≤ 5864062014805) (hc : (chkV L).1 = 0) (hp : p < L.length) : Ca Tryd.prog 54 #[v, .int .i64 (p : Int)] w0 (fun r w' => r = .int .i64 (nextV L p : Int) ∧ Ext w0 w') := by
  have hx : Ext w0 w0 := Only.refl _ _
  obtain ⟨s, post, hsw, hsd⟩ := sub_at hc hp
  have hnx := next_tree hsd hsw
  refine Ca.of Tryd.func54 Tryd.ntmps54 rfl rfl ?_
  refine W.seq ?_
  refine W.region ?_
  refine WL.c rfl (o_ash (show _ = Value.int _ _ from rfl) ?_)
  refine WL.nil ?_
  refine W.seq ?_
  refine W.region ?_
  refine WL.c rfl (o_ash (show _ = Value.int _ _ from rfl) ?_)
  refine WL.nil ?_
  refine W.seq ?_
  refine W.block ?_
  refine W.loop (fun e w => ∃ (q : Nat) (F : Vts) (post : List Nd), q ≤ L.length ∧ e 0 = v ∧ e 1 = .int .i64 (q : Int) ∧ e 5 = .int .i64 (F.len : Int) ∧ F.wf ∧ L.drop q = F.flat ++ post ∧ nextV L p = q + F.flat.length ∧ Ext w0 w) (fun e w => L.length - (intOf (e 1)).toNat) ?_ ?_
  · exact ⟨p, .cons s .nil, post, by omega, rfl, rfl, rfl, ⟨hsw, trivial⟩, by simpa [Vts.flat] using hsd, by simpa [Vts.flat] using hnx, hx⟩
  rintro e w ⟨q, F, post, hq, h0, h1, h5, hw, hd, hn, hx⟩
  have hm1 := h1
  refine W.seq ?_
  refine W.seq ?_
  refine W.region ?_
  refine WL.c rfl (o_mvh h5 ?_)
  refine WL.c rfl (o_gt rfl rfl ?_)
  refine WL.nil ?_
  refine W.cond rfl (fun c7 => ?_) (fun c7 => ?_)
  · try simp only [decide_eq_true_eq, decide_eq_false_iff_not, Bool.not_eq_true', Bool.not_eq_false', Bool.and_eq_true, Bool.or_eq_true, Bool.and_eq_false_iff, Bool.or_eq_false_iff] at c7
    obtain ⟨x, ks, G, rfl⟩ := Vts.pos (show 0 < F.len by omega)
    obtain ⟨hq1, hxq, hd2⟩ := drop_step hd
    obtain ⟨ub, uo, uc, hv, huc⟩ := Sl.nd (hS.ext hx) hq1
    rw [hxq] at huc
    rw [hv] at h0
    have hkd := right_kids hw.1.1
    have hln := Vts.len_le (.cons (.node x ks) G)
    have hdl := congrArg List.length hd
    rw [List.length_drop, List.length_append] at hdl
    refine W.skip ?_
    refine W.block ?_
    refine W.seq ?_
    refine W.region ?_
    refine WL.c rfl (o_mvh h5 ?_)
    refine WL.c rfl (o_subi rfl rfl (by omega) ?_)
    refine WL.c rfl (o_mvh h0 ?_)
    refine WL.c rfl (o_mvh h1 ?_)
    refine WL.c rfl (o_ixB (i := q) TI30 TI69 (show _ = Value.slice (some ⟨ub, uo, none⟩) L.length uc from by first | rfl | assumption) (show _ = Value.int .i64 (q : Int) from by first | rfl | assumption) (by omega) ?_)
    refine WL.c rfl (o_fa 2 TI69 rfl TI3 rfl rfl ?_)
    refine WL.c rfl (o_ld TI3 rfl rfl (huc 2 _ rfl) ?_)
    refine WL.c rfl (o_addi rfl rfl (by omega) ?_)
    refine WL.c rfl (o_ash (show _ = Value.int _ _ from rfl) ?_)
    refine WL.nil ?_
    refine W.region ?_
    refine WL.c rfl (o_mvh h1 ?_)
    refine WL.c rfl (o_addi rfl rfl (by omega) ?_)
    refine WL.c rfl (o_ash (show _ = Value.int _ _ from rfl) ?_)
    refine WL.nil ?_
    refine ⟨⟨q + 1, ks.app G, post, by omega, h0.trans hv.symm, rfl, ?_, (Vts.app_wf _ _).2 ⟨hw.1.2.2, hw.2⟩, ?_, ?_, hx⟩, ?_⟩
    · show Value.int .i64 ((((Vts.cons (Vt.node x ks) G).len : Nat) : Int) - 1 + x.kids) = _
      rw [Vts.app_len]
      congr 1
      have := hw.1.2.1
      simp only [Vts.len]
      omega
    · exact hd2
    · rw [hn, Vts.app_flat]; simp only [Vts.flat, Vt.flat, List.length_append, List.length_cons]; omega
    · show L.length - ((q : Int) + 1).toNat < _
      rw [hm1]; simp [intOf]; omega
  · try simp only [decide_eq_true_eq, decide_eq_false_iff_not, Bool.not_eq_true', Bool.not_eq_false', Bool.and_eq_true, Bool.or_eq_true, Bool.and_eq_false_iff, Bool.or_eq_false_iff] at c7
    have hF : F.len = 0 := by omega
    have hF2 : F.flat.length = 0 := by cases F with | nil => rfl | cons t ts => simp [Vts.len] at hF
    refine W.exit ?_
    refine W.seq ?_
    refine W.region ?_
    refine WL.c rfl (o_mvh h1 ?_)
    refine WL.c rfl (o_ash (show _ = Value.int _ _ from rfl) ?_)
    refine WL.nil ?_
    refine W.ret ?_
    refine ret1v rfl (show _ = Value.int _ _ from rfl) ?_
    exact ⟨by rw [hn, hF2]; rfl, hx⟩
set_option maxHeartbeats 1000000 in
theorem rnext_spec (L : List Nd) (v : Value) (at_ : Int) (w0 : World) (hS : Sl w0 3 v L.length (nds L)) (hl : L.length ≤ 5864062014805) : Ca Tryd.prog 32 #[v, .int .i64 at_] w0 (fun r w' => r = .tuple #[.int .i64 (if thereV L at_ = 0 then (nextV L at_.toNat : Int) else 0), .int .i64 (thereV L at_)] ∧ Ext w0 w') := by
  refine Ca.of Tryd.func32 Tryd.ntmps32 rfl rfl ?_
  refine W.seq ?_
  refine W.region ?_
  refine WL.c rfl (o_ash (show _ = Value.int _ _ from rfl) ?_)
  refine WL.c rfl (o_ash (show _ = Value.int _ _ from rfl) ?_)
  refine WL.nil ?_
  refine W.seq ?_
  refine W.region ?_
  refine WL.c rfl (o_mvh (by first | exact (show _ = Value.slice _ _ _ from rfl) | exact rfl) ?_)
  refine WL.c rfl (o_call Tryd.call53 (lc rfl ln) ((rcheck_spec L v _ hS hl).mono ?_))
  rintro v10 w10 ⟨rfl, hx10⟩
  have hx := hx10
  refine WL.c rfl (o_mvh (by first | exact (show _ = Value.tuple _ from rfl) | exact rfl) ?_)
  refine WL.c rfl (o_ext rfl rfl ?_)
  refine WL.c rfl (o_ext rfl rfl ?_)
  refine WL.c rfl (o_ash (show _ = Value.int _ _ from rfl) ?_)
  refine WL.c rfl (o_ash (show _ = Value.int _ _ from rfl) ?_)
  refine WL.nil ?_
  refine W.seq ?_
  refine W.seq ?_
  refine W.region ?_
  refine WL.c rfl (o_mvh (show _ = Value.int _ _ from rfl) ?_)
  refine WL.c rfl (o_ne rfl rfl ?_)
  refine WL.nil ?_
  refine W.cond rfl (fun c14 => ?_) (fun c14 => ?_)
  · try simp only [decide_eq_true_eq, decide_eq_false_iff_not, Bool.not_eq_true', Bool.not_eq_false', Bool.and_eq_true, Bool.or_eq_true, Bool.and_eq_false_iff, Bool.or_eq_false_iff] at c14
    have hck : ¬ (chkV L).1 = 0 := by simpa using c14
    have hth : thereV L at_ = (chkV L).1 := if_pos hck
    refine W.seq ?_
    refine W.region ?_
    refine WL.c rfl (o_mvh (show _ = Value.int _ _ from rfl) ?_)
    refine WL.c rfl (o_ash (show _ = Value.int _ _ from rfl) ?_)
    refine WL.c rfl (o_ash (show _ = Value.int _ _ from rfl) ?_)
    refine WL.nil ?_
    refine W.ret ?_
    refine ret2v rfl (show _ = Value.int _ _ from rfl) (show _ = Value.int _ _ from rfl) ?_
    exact ⟨by rw [hth, if_neg hck], hx⟩
  · try simp only [decide_eq_true_eq, decide_eq_false_iff_not, Bool.not_eq_true', Bool.not_eq_false', Bool.and_eq_true, Bool.or_eq_true, Bool.and_eq_false_iff, Bool.or_eq_false_iff] at c14
    have hck : (chkV L).1 = 0 := by simpa using c14
    refine W.skip ?_
    refine W.seq ?_
    refine W.seq ?_
    by_cases ha : at_ < 0 ∨ (L.length : Int) ≤ at_
    · skip
      have hth : thereV L at_ = 3 := by rw [thereV, if_neg (fun h => h hck), if_pos ha]
      refine W.region ?_
      refine WL.c rfl (o_mvh (show _ = Value.int _ _ from rfl) ?_)
      refine WL.c rfl (o_lt rfl rfl ?_)
      refine WL.c rfl (o_mvh (show _ = Value.bool _ from rfl) ?_)
      refine WL.sp 2 rfl (fun g18 => ?_) (fun g18 => ?_)
      · skip
        refine WL.s rfl (g18) rfl ?_
        refine WL.s rfl (g18) rfl ?_
        refine WL.s rfl (g18) rfl ?_
        refine WL.s rfl (g18) rfl ?_
        refine WL.c rfl (o_pickT rfl (g18) ?_)
        refine WL.nil ?_
        refine W.condT' rfl (by simp_all <;> omega) ?_
        refine W.seq ?_
        refine W.region ?_
        refine WL.c rfl (o_ash (show _ = Value.int _ _ from rfl) ?_)
        refine WL.c rfl (o_ash (show _ = Value.int _ _ from rfl) ?_)
        refine WL.nil ?_
        refine W.ret ?_
        refine ret2v rfl (show _ = Value.int _ _ from rfl) (show _ = Value.int _ _ from rfl) ?_
        exact ⟨by rw [hth, if_neg (by decide)], hx⟩
      · skip
        refine WL.g rfl (g18) rfl (o_mvh (show _ = Value.int _ _ from rfl) ?_)
        refine WL.g rfl (g18) rfl (o_mvh (by first | exact (show _ = Value.slice _ _ _ from rfl) | exact rfl) ?_)
        refine WL.g rfl (g18) rfl (o_lenR TI30 rfl (hS.ext hx) ?_)
        refine WL.g rfl (g18) rfl (o_ge rfl rfl ?_)
        refine WL.c rfl (o_pickO rfl rfl ?_)
        refine WL.nil ?_
        refine W.condT' rfl (by simp_all <;> omega) ?_
        refine W.seq ?_
        refine W.region ?_
        refine WL.c rfl (o_ash (show _ = Value.int _ _ from rfl) ?_)
        refine WL.c rfl (o_ash (show _ = Value.int _ _ from rfl) ?_)
        refine WL.nil ?_
        refine W.ret ?_
        refine ret2v rfl (show _ = Value.int _ _ from rfl) (show _ = Value.int _ _ from rfl) ?_
        exact ⟨by rw [hth, if_neg (by decide)], hx⟩
    · skip
      obtain ⟨p, rfl⟩ : ∃ p : Nat, at_ = (p : Int) := ⟨at_.toNat, by omega⟩
      have hth := there_in hck (show p < L.length by omega)
      refine W.region ?_
      refine WL.c rfl (o_mvh (show _ = Value.int _ _ from rfl) ?_)
      refine WL.c rfl (o_lt rfl rfl ?_)
      refine WL.c rfl (o_mvh (show _ = Value.bool _ from rfl) ?_)
      refine WL.g rfl (by simp <;> omega) rfl (o_mvh (show _ = Value.int _ _ from rfl) ?_)
      refine WL.g rfl (by simp <;> omega) rfl (o_mvh (by first | exact (show _ = Value.slice _ _ _ from rfl) | exact rfl) ?_)
      refine WL.g rfl (by simp <;> omega) rfl (o_lenR TI30 rfl (hS.ext hx) ?_)
      refine WL.g rfl (by simp <;> omega) rfl (o_ge rfl rfl ?_)
      refine WL.c rfl (o_pickO rfl rfl ?_)
      refine WL.nil ?_
      refine W.condF' rfl (by simp; omega) ?_
      refine W.skip ?_
      refine W.seq ?_
      refine W.region ?_
      refine WL.c rfl (o_mvh (by first | exact (show _ = Value.slice _ _ _ from rfl) | exact rfl) ?_)
      refine WL.c rfl (o_mvh (show _ = Value.int _ _ from rfl) ?_)
      refine WL.c rfl (o_call Tryd.call54 (lc rfl (lc rfl ln)) ((rbehind_spec L v p _ (hS.ext hx) hl hck (by omega)).mono ?_))
      rintro v26 w26 ⟨rfl, hx26⟩
      replace hx := hx.tr hx26
      refine WL.c rfl (o_ash (show _ = Value.int _ _ from rfl) ?_)
      refine WL.c rfl (o_ash (show _ = Value.int _ _ from rfl) ?_)
      refine WL.nil ?_
      refine W.ret ?_
      refine ret2v rfl (show _ = Value.int _ _ from rfl) (show _ = Value.int _ _ from rfl) ?_
      exact ⟨by rw [hth, if_pos rfl, Int.toNat_natCast], hx⟩
end Go.Proofs.YtgmjfcekeglhjaaDoor

set_option linter.unusedSimpArgs false
set_option linter.unusedVariables false
set_option maxRecDepth 100000
namespace Go.Proofs.YtgmjfcekeglhjaaDoor
open Go Go.Vc Go.RowKit Go.Proofs

mutual
/-- of each node below the root: its parent, which kid it is -/
def Vt.pk (o : Nat) : Vt → List (Nat × Nat)
  | .node _ ks => ks.pkS o 0 (o + 1)
def Vts.pkS (par k o : Nat) : Vts → List (Nat × Nat)
  | .nil => []
  | .cons t ts => (par, k) :: (t.pk o ++ ts.pkS par (k + 1) (o + t.flat.length))
end
mutual
theorem pk_len : ∀ (t : Vt) (o : Nat), (t.pk o).length + 1 = t.flat.length
  | .node x ks, o => by rw [Vt.pk, Vt.flat, List.length_cons, pkS_len ks]
theorem pkS_len : ∀ (ts : Vts) (par k o : Nat), (ts.pkS par k o).length = ts.flat.length
  | .nil, par, k, o => rfl
  | .cons t ts, par, k, o => by
    have := pk_len t o
    rw [Vts.pkS, Vts.flat, List.length_cons, List.length_append, List.length_append, pkS_len ts]
    omega
end
mutual
theorem pkt_at : ∀ (t : Vt) (o p : Nat), t.wf → p < t.flat.length → ∃ (x : Nd) (ks : Vts) (post : List Nd) (post' : List (Nat × Nat)), ks.wf ∧ (ks.len : Int) = x.kids ∧ t.flat.drop p = (Vt.node x ks).flat ++ post ∧ (t.pk o).drop p = ks.pkS (o + p) 0 (o + p + 1) ++ post'
  | .node x ks, o, 0, hw, _ => ⟨x, ks, [], [], hw.2.2, hw.2.1, by simp, by simp [Vt.pk]⟩
  | .node x ks, o, p + 1, hw, h => by
    simp only [Vt.flat, List.length_cons] at h
    obtain ⟨y, gs, post, post', w1, w2, h1, h2⟩ := pks_at ks o 0 (o + 1) p hw.2.2 (by omega)
    refine ⟨y, gs, post, post', w1, w2, by rw [Vt.flat, List.drop_succ_cons]; exact h1, ?_⟩
    rw [Vt.pk, h2, show o + 1 + p = o + (p + 1) by omega]
theorem pks_at : ∀ (ts : Vts) (par k o p : Nat), ts.wf → p < ts.flat.length → ∃ (x : Nd) (ks : Vts) (post : List Nd) (post' : List (Nat × Nat)), ks.wf ∧ (ks.len : Int) = x.kids ∧ ts.flat.drop p = (Vt.node x ks).flat ++ post ∧ (ts.pkS par k o).drop (p + 1) = ks.pkS (o + p) 0 (o + p + 1) ++ post'
  | .nil, par, k, o, p, _, h => by simp [Vts.flat] at h
  | .cons t ts, par, k, o, p, hw, h => by
    simp only [Vts.flat, List.length_append] at h
    have hl := pk_len t o
    rw [Vts.pkS, List.drop_succ_cons, Vts.flat]
    by_cases hp : p < t.flat.length
    · obtain ⟨y, gs, post, post', w1, w2, h1, h2⟩ := pkt_at t o p hw.1 hp
      exact ⟨y, gs, post ++ ts.flat, post' ++ ts.pkS par (k + 1) (o + t.flat.length), w1, w2, by rw [List.drop_append_of_le_length (by omega), h1, List.append_assoc], by rw [List.drop_append_of_le_length (by omega), h2, List.append_assoc]⟩
    · obtain ⟨y, gs, post, post', w1, w2, h1, h2⟩ := pks_at ts par (k + 1) (o + t.flat.length) (p - t.flat.length) hw.2 (by omega)
      refine ⟨y, gs, post, post', w1, w2, by rw [List.drop_append, List.drop_eq_nil_of_le (by omega), List.nil_append, h1], ?_⟩
      rw [List.drop_append, List.drop_eq_nil_of_le (by omega), List.nil_append, show p - (t.pk o).length = p - t.flat.length + 1 by omega, h2, show o + t.flat.length + (p - t.flat.length) = o + p by omega]
end
def PK (t : Vt) : List (Nat × Nat) := (0, 0) :: t.pk 0
def pkO (t : Vt) (j : Nat) : Nat × Nat := (PK t).getD j (0, 0)
theorem pkS_drop {L post : List Nd} {Q post' : List (Nat × Nat)} {o i : Nat} : ∀ (k : Nat) (ks : Vts), ks.wf → L.drop o = ks.flat ++ post → Q.drop o = ks.pkS i 0 o ++ post' → k ≤ ks.len →
    ∃ g : Vts, g.len + k = ks.len ∧ g.wf ∧ L.drop (kidP L o k) = g.flat ++ post ∧ Q.drop (kidP L o k) = g.pkS i k (kidP L o k) ++ post'
  | 0, ks, hw, h, h', _ => ⟨ks, rfl, hw, h, h'⟩
  | k + 1, ks, hw, h, h', hk => by
    obtain ⟨g, h1, h2, h3, h4⟩ := pkS_drop k ks hw h h' (by omega)
    cases g with
    | nil => simp only [Vts.len] at h1; omega
    | cons t g =>
      have h5 : nextV L (kidP L o k) = kidP L o k + t.flat.length := next_tree (post := g.flat ++ post) (by rw [h3, Vts.flat, List.append_assoc]) h2.1
      simp only [Vts.len] at h1
      have hl := pk_len t (kidP L o k)
      refine ⟨g, by omega, h2.2, ?_, ?_⟩
      · show L.drop (nextV L (kidP L o k)) = _
        rw [h5, ← List.drop_drop, h3, Vts.flat, List.append_assoc, List.drop_left']
        rfl
      · show Q.drop (nextV L (kidP L o k)) = g.pkS i (k + 1) (nextV L (kidP L o k)) ++ post'
        rw [h5, ← List.drop_drop, h4, Vts.pkS, List.cons_append, ← hl, List.drop_succ_cons, List.append_assoc, List.drop_left' rfl, hl]
/-- kid number k of node i -/
theorem pk_kid {t : Vt} (hw : t.wf) {i k : Nat} (hi : i < t.flat.length) (hk : (k : Int) < t.flat[i].kids) : pkO t (kidP t.flat (i + 1) k) = (i, k) := by
  obtain ⟨x, ks, post, post', w1, w2, h1, h2⟩ := pkt_at t 0 i hw hi
  have h8 : t.flat.drop i = t.flat[i] :: t.flat.drop (i + 1) := (List.getElem_cons_drop hi).symm
  rw [h8, Vt.flat, List.cons_append, List.cons.injEq] at h1
  have hPd : (PK t).drop (i + 1) = ks.pkS i 0 (i + 1) ++ post' := by rw [PK, List.drop_succ_cons, h2, Nat.zero_add]
  rw [h1.1] at hk
  obtain ⟨g, g1, g2, g3, g4⟩ := pkS_drop k ks w1 h1.2 hPd (by omega)
  cases g with
  | nil => simp only [Vts.len] at g1; omega
  | cons u g =>
    rw [Vts.pkS] at g4
    have : (PK t)[kidP t.flat (i + 1) k]? = some (i, k) := by
      rw [← List.head?_drop, g4]; rfl
    rw [pkO, List.getD_eq_getElem?_getD, this]
    rfl
/-- each node but the root is a kid -/
theorem is_kid {L : List Nd} (hc : (chkV L).1 = 0) {j : Nat} : ∀ (m i : Nat), j - i ≤ m → i < j → j < nextV L i → ∃ (i' k : Nat) (h : i' < L.length), i' < j ∧ (k : Int) < L[i'].kids ∧ kidP L (i' + 1) k = j
  | 0, i, h1, h2, h3 => by omega
  | m + 1, i, h1, h2, h3 => by
    have hi : i < L.length := by
      rcases Nat.lt_or_ge i L.length with h | h
      · exact h
      · rw [nextV, List.drop_eq_nil_of_le h, spanG] at h3; omega
    obtain ⟨ks, post, hr, hkl, -, -, -⟩ := node_at hc hi
    have hend := kid_end hc hi (k := ks.len) hkl
    have key : ∀ n, n ≤ ks.len → j < kidP L (i + 1) n → ∃ k, k < n ∧ kidP L (i + 1) k ≤ j ∧ j < kidP L (i + 1) (k + 1) := by
      intro n
      induction n with
      | zero => intro _ h; exact absurd h (by show ¬ j < i + 1; omega)
      | succ n ih =>
        intro hn h
        by_cases hj : j < kidP L (i + 1) n
        · obtain ⟨k, k1, k2⟩ := ih (by omega) hj
          exact ⟨k, by omega, k2⟩
        · exact ⟨n, by omega, by omega, h⟩
    obtain ⟨k, k1, k2, k3⟩ := key ks.len (Nat.le_refl _) (by omega)
    by_cases he : kidP L (i + 1) k = j
    · exact ⟨i, k, hi, h2, by omega, he⟩
    · have h4 := (kid_lt hc hi (k := k) (by omega)).2
      exact is_kid hc m (kidP L (i + 1) k) (by omega) (by omega) k3
theorem pk_of {t : Vt} (hw : t.wf) {j : Nat} (h0 : j ≠ 0) (hj : j < t.flat.length) : ∃ h : (pkO t j).1 < t.flat.length, (pkO t j).1 < j ∧ ((pkO t j).2 : Int) < t.flat[(pkO t j).1].kids ∧ kidP t.flat ((pkO t j).1 + 1) (pkO t j).2 = j := by
  have hc : (chkV t.flat).1 = 0 := chk_ok.2 ⟨t, hw, rfl⟩
  obtain ⟨i, k, h1, h2, h3, h4⟩ := is_kid hc (j := j) j 0 (by omega) (by omega) (by rw [next_0 hc]; exact hj)
  have h5 := pk_kid hw h1 h3
  rw [h4] at h5
  rw [h5]
  exact ⟨h1, h2, h3, h4⟩
theorem kid_pos {t : Vt} (hw : t.wf) {i k : Nat} (hi : i < t.flat.length) (hk : (k : Int) < t.flat[i].kids) : kidP t.flat (i + 1) k < t.flat.length ∧ i < kidP t.flat (i + 1) k := kid_lt (chk_ok.2 ⟨t, hw, rfl⟩) hi hk

end Go.Proofs.YtgmjfcekeglhjaaDoor

set_option linter.unusedSimpArgs false
set_option linter.unusedVariables false
set_option maxRecDepth 100000
namespace Go.Proofs.YtgmjfcekeglhjaaDoor
open Go Go.Vc Go.RowKit Go.Proofs

/-- node x of the value, asx it stands in the arena -/
def mkO (t : Vt) (x : Nat) (p : Int) : Mk := ⟨(t.flat.getD x nd0).kind, (t.flat.getD x nd0).n, p, if x = 0 then 0 else ((pkO t x).2 : Int)⟩
/-- D is added, S is open -/
structure OrdS (t : Vt) (D S : List Nat) (A : List Mk) : Prop where
  nd : (D ++ S).Nodup
  lt : ∀ x ∈ D ++ S, x < t.flat.length
  up : ∀ x ∈ D ++ S, x ≠ 0 → (pkO t x).1 ∈ D
  down : ∀ x ∈ D, ∀ j, x < j → j < t.flat.length → (pkO t j).1 = x → j ∈ D ++ S
  root : D = [] ∧ S = [0] ∨ D[0]? = some 0
  len : A.length = D.length
  node : ∀ (m x : Nat), D[m]? = some x → ∃ p : Int, A[m]? = some (mkO t x p) ∧ (x = 0 → p = -1) ∧ (x ≠ 0 → ∃ q : Nat, p = (q : Int) ∧ D[q]? = some (pkO t x).1)
def kidsOf (t : Vt) (x : Nat) : List Nat := ((List.range t.flat.length).drop (x + 1)).filter (fun j => decide ((pkO t j).1 = x))
theorem mem_kidsOf {t : Vt} {x j : Nat} : j ∈ kidsOf t x ↔ x < j ∧ j < t.flat.length ∧ (pkO t j).1 = x := by
  rw [kidsOf, List.mem_filter, decide_eq_true_eq, List.mem_drop_iff_getElem]
  constructor
  · rintro ⟨⟨i, hi, he⟩, h2⟩
    rw [List.length_range] at hi
    rw [List.getElem_range] at he
    exact ⟨by omega, by omega, h2⟩
  · rintro ⟨h1, h2, h3⟩
    exact ⟨⟨j - (x + 1), by rw [List.length_range]; omega, by rw [List.getElem_range]; omega⟩, h3⟩
theorem kidsOf_nodup (t : Vt) (x : Nat) : (kidsOf t x).Nodup := (List.Sublist.nodup (List.drop_sublist _ _) (List.nodup_range)).filter _
theorem OrdS.start (t : Vt) : OrdS t [] [0] [] :=
  ⟨by simp, fun x hx => by simp at hx; subst hx; exact t.flat_pos, fun x hx h => by simp at hx; exact absurd hx h, fun x hx => by simp at hx, .inl ⟨rfl, rfl⟩, rfl, fun m x h => by simp at h⟩
theorem mem_erase_iff {S : List Nat} {k : Nat} (hk : k < S.length) (h : S.Nodup) (y : Nat) : y ∈ S.eraseIdx k ↔ y ∈ S ∧ y ≠ S[k] := by
  rw [List.mem_eraseIdx_iff_getElem]
  constructor
  · rintro ⟨i, hi, hne, rfl⟩
    exact ⟨List.getElem_mem hi, fun e => hne ((List.getElem_inj h).1 e)⟩
  · rintro ⟨hy, hne⟩
    obtain ⟨i, hi, rfl⟩ := List.getElem_of_mem hy
    exact ⟨i, hi, fun e => hne (by subst e; rfl), rfl⟩
theorem OrdS.x0 {t : Vt} {D S : List Nat} {A : List Mk} (h : OrdS t D S A) {k : Nat} (hk : k < S.length) : (S[k] = 0 ↔ D = []) := by
  constructor
  · intro e
    rcases h.root with h1 | h1
    · exact h1.1
    · exfalso
      have hd := (List.nodup_append.1 h.nd).2.2 0 (List.mem_of_getElem? h1) S[k] (List.getElem_mem hk)
      exact hd e.symm
  · intro e
    rcases h.root with h1 | h1
    · obtain ⟨-, rfl⟩ := h1
      have : k = 0 := by simpa using hk
      subst this
      rfl
    · rw [e] at h1; simp at h1
/-- what is added next is taken -/
theorem OrdS.add {t : Vt} (hw : t.wf) {D S : List Nat} {A : List Mk} (h : OrdS t D S A) {k : Nat} (hk : k < S.length) {p : Int} (hp0 : S[k] = 0 → p = -1) (hp1 : S[k] ≠ 0 → ∃ q : Nat, p = (q : Int) ∧ D[q]? = some (pkO t S[k]).1) {z : Int} (hz : S[k] ≠ 0 → z = ((pkO t S[k]).2 : Int)) :
    addV A p z (t.flat.getD S[k] nd0).kind (t.flat.getD S[k] nd0).n = ((D.length : Int), 0, A ++ [mkO t S[k] p]) := by
  have hc : (chkV t.flat).1 = 0 := chk_ok.2 ⟨t, hw, rfl⟩
  have hx : S[k] < t.flat.length := h.lt _ (List.mem_append_right _ (List.getElem_mem hk))
  have hgd : t.flat.getD S[k] nd0 = t.flat[S[k]] := by rw [List.getD_eq_getElem?_getD, List.getElem?_eq_getElem hx]; rfl
  obtain ⟨-, -, hr, -⟩ := node_at hc hx
  have hn : numB t.flat[S[k]].kind t.flat[S[k]].n = true := by
    simp only [rightN, Bool.and_eq_true] at hr
    exact hr.1.1
  have hn2 : ¬ numB t.flat[S[k]].kind t.flat[S[k]].n = false := by rw [hn]; decide
  by_cases h0 : S[k] = 0
  · have hD := (h.x0 hk).1 h0
    have hA : A = [] := List.eq_nil_of_length_eq_zero (by rw [h.len, hD]; rfl)
    rw [hA, hD, hgd, hp0 h0, addV, if_neg hn2, if_pos (show ([] : List Mk).length = 0 from rfl), if_pos rfl, mkO, hgd, if_pos h0]
    rfl
  · have hD : D ≠ [] := fun e => h0 ((h.x0 hk).2 e)
    have hAl : ¬ A.length = 0 := fun e => hD (List.eq_nil_of_length_eq_zero (by rw [← h.len, e]))
    obtain ⟨q, rfl, hq⟩ := hp1 h0
    have hql : q < D.length := (List.getElem?_eq_some_iff.1 hq).1
    obtain ⟨hpl, hpj, hpk, hpe⟩ := pk_of hw h0 hx
    obtain ⟨p', hA', -, -⟩ := h.node q _ hq
    have hkd : (A.getD q ⟨0, 0, 0, 0⟩).kind = t.flat[(pkO t S[k]).1].kind := by
      rw [List.getD_eq_getElem?_getD, hA']
      show (t.flat.getD (pkO t S[k]).1 nd0).kind = _
      rw [List.getD_eq_getElem?_getD, List.getElem?_eq_getElem hpl]
      rfl
    have hrp := (node_at hc hpl).choose_spec.choose_spec.1
    have hmost : t.flat[(pkO t S[k]).1].kids ≤ mostK t.flat[(pkO t S[k]).1].kind := by
      simp only [rightN, Bool.and_eq_true, decide_eq_true_eq] at hrp
      exact hrp.2
    rw [hz h0, hgd, addV, if_neg hn2, if_neg hAl, if_neg (by rw [h.len]; omega), if_neg, h.len, mkO, hgd, if_neg h0]
    rw [Int.toNat_natCast, hkd]
    rintro (h1 | h1)
    · omega
    · obtain ⟨m, hm⟩ := Option.isSome_iff_exists.1 h1
      obtain ⟨-, y, hy, hyp, hyk⟩ := kidAt_some A 0 q _ m hm
      rw [Nat.sub_zero] at hy
      have hml : m < D.length := by rw [← h.len]; exact (List.getElem?_eq_some_iff.1 hy).1
      obtain ⟨p2, hA2, hr0, hr1⟩ := h.node m D[m] (List.getElem?_eq_getElem hml)
      rw [hy] at hA2
      simp only [Option.some.injEq] at hA2
      subst hA2
      by_cases hm0 : D[m] = 0
      · have := hr0 hm0
        simp only [mkO] at hyp
        omega
      · obtain ⟨q2, hq2, hq3⟩ := hr1 hm0
        simp only [mkO, if_neg hm0] at hyp hyk
        have : q2 = q := by omega
        subst this
        rw [hq] at hq3
        simp only [Option.some.injEq] at hq3
        have hDm : D[m] < t.flat.length := h.lt _ (List.mem_append_left _ (List.getElem_mem hml))
        obtain ⟨-, -, -, hpe2⟩ := pk_of hw hm0 hDm
        have e2 : (pkO t D[m]).2 = (pkO t S[k]).2 := by omega
        rw [← hq3, e2, hpe] at hpe2
        exact (List.nodup_append.1 h.nd).2.2 D[m] (List.getElem_mem hml) S[k] (List.getElem_mem hk) hpe2.symm
theorem OrdS.step {t : Vt} (hw : t.wf) {D S : List Nat} {A : List Mk} (h : OrdS t D S A) {k : Nat} (hk : k < S.length) {p : Int} (hp0 : S[k] = 0 → p = -1) (hp1 : S[k] ≠ 0 → ∃ q : Nat, p = (q : Int) ∧ D[q]? = some (pkO t S[k]).1) :
    OrdS t (D ++ [S[k]]) (S.eraseIdx k ++ kidsOf t S[k]) (A ++ [mkO t S[k] p]) := by
  obtain ⟨n1, n2, n3⟩ := List.nodup_append.1 h.nd
  have hxS := List.getElem_mem hk
  have hmem := mem_erase_iff hk n2
  have hkn : ∀ j ∈ kidsOf t S[k], j ∉ D ++ S := fun j hj hm => by
    obtain ⟨j1, j2, j3⟩ := mem_kidsOf.1 hj
    have := h.up j hm (by omega)
    rw [j3] at this
    exact n3 S[k] this S[k] hxS rfl
  refine ⟨?_, ?_, ?_, ?_, ?_, by rw [List.length_append, List.length_append, h.len]; rfl, ?_⟩
  · rw [List.append_assoc, List.nodup_append]
    refine ⟨n1, ?_, ?_⟩
    · rw [List.singleton_append, List.nodup_cons]
      refine ⟨fun hm => ?_, ?_⟩
      · rcases List.mem_append.1 hm with hm | hm
        · exact ((hmem _).1 hm).2 rfl
        · exact hkn _ hm (List.mem_append_right _ hxS)
      · rw [List.nodup_append]
        refine ⟨n2.sublist (List.eraseIdx_sublist _ _), kidsOf_nodup t _, fun a ha b hb e => ?_⟩
        subst e
        exact hkn a hb (List.mem_append_right _ ((hmem a).1 ha).1)
    · intro a ha b hb e
      subst e
      simp only [List.mem_append, List.mem_singleton] at hb
      rcases hb with hb | hb | hb
      · exact n3 a ha S[k] hxS hb
      · exact n3 a ha a ((hmem a).1 hb).1 rfl
      · exact hkn a hb (List.mem_append_left _ ha)
  · intro x hx
    simp only [List.mem_append, List.mem_singleton] at hx
    rcases hx with (hx | rfl) | hx | hx
    · exact h.lt x (List.mem_append_left _ hx)
    · exact h.lt _ (List.mem_append_right _ hxS)
    · exact h.lt x (List.mem_append_right _ ((hmem x).1 hx).1)
    · exact (mem_kidsOf.1 hx).2.1
  · intro x hx h0
    simp only [List.mem_append, List.mem_singleton] at hx ⊢
    rcases hx with (hx | rfl) | hx | hx
    · exact .inl (h.up x (List.mem_append_left _ hx) h0)
    · exact .inl (h.up _ (List.mem_append_right _ hxS) h0)
    · exact .inl (h.up x (List.mem_append_right _ ((hmem x).1 hx).1) h0)
    · exact .inr (mem_kidsOf.1 hx).2.2
  · intro x hx j h1 h2 h3
    simp only [List.mem_append, List.mem_singleton] at hx ⊢
    rcases hx with hx | rfl
    · have := h.down x hx j h1 h2 h3
      rcases List.mem_append.1 this with h4 | h4
      · exact .inl (.inl h4)
      · by_cases he : j = S[k]
        · exact .inl (.inr he)
        · exact .inr (.inl ((hmem j).2 ⟨h4, he⟩))
    · exact .inr (.inr (mem_kidsOf.2 ⟨h1, h2, h3⟩))
  · right
    rcases h.root with ⟨h1, h2⟩ | h1
    · have : S[k] = 0 := (h.x0 hk).2 h1
      rw [h1, this]; rfl
    · have := (List.getElem?_eq_some_iff.1 h1).1
      rw [List.getElem?_append_left this]; exact h1
  · intro m x hm
    by_cases hl : m < D.length
    · rw [List.getElem?_append_left hl] at hm
      obtain ⟨p', h1, h2, h3⟩ := h.node m x hm
      refine ⟨p', by rw [List.getElem?_append_left (by rw [h.len]; exact hl)]; exact h1, h2, fun h0 => ?_⟩
      obtain ⟨q, e1, e2⟩ := h3 h0
      exact ⟨q, e1, by rw [List.getElem?_append_left (List.getElem?_eq_some_iff.1 e2).1]; exact e2⟩
    · have hme : m = D.length := by
        have := (List.getElem?_eq_some_iff.1 hm).1
        rw [List.length_append] at this
        simp only [List.length_cons, List.length_nil] at this
        omega
      subst hme
      rw [List.getElem?_append_right (Nat.le_refl _), Nat.sub_self] at hm
      simp only [List.getElem?_cons_zero, Option.some.injEq] at hm
      subst hm
      refine ⟨p, by rw [← h.len, List.getElem?_append_right (Nat.le_refl _), Nat.sub_self]; rfl, hp0, fun h0 => ?_⟩
      obtain ⟨q, e1, e2⟩ := hp1 h0
      exact ⟨q, e1, by rw [List.getElem?_append_left (List.getElem?_eq_some_iff.1 e2).1]; exact e2⟩
theorem OrdS.bound {t : Vt} {D S : List Nat} {A : List Mk} (h : OrdS t D S A) : D.length + S.length ≤ t.flat.length := by
  have := nodup_len t.flat.length (D ++ S) h.nd h.lt
  rwa [List.length_append] at this
theorem sub_len : ∀ (l1 l2 : List Nat), l1.Nodup → (∀ x ∈ l1, x ∈ l2) → l1.length ≤ l2.length
  | [], l2, _, _ => Nat.zero_le _
  | a :: l1, l2, h, hs => by
    have ha := hs a (List.mem_cons_self ..)
    obtain ⟨h1, h2⟩ := List.nodup_cons.1 h
    have := sub_len l1 (l2.erase a) h2 (fun x hx => (List.mem_erase_of_ne (fun e => h1 (by rw [← e]; exact hx))).2 (hs x (List.mem_cons_of_mem _ hx)))
    rw [List.length_erase_of_mem ha] at this
    have : 0 < l2.length := List.length_pos_of_mem ha
    rw [List.length_cons]
    omega
/-- asx long asx there are nodes, some are open -/
theorem OrdS.open_pos {t : Vt} (hw : t.wf) {D S : List Nat} {A : List Mk} (h : OrdS t D S A) (hl : D.length < t.flat.length) : 0 < S.length := by
  rcases Nat.eq_zero_or_pos S.length with h0 | h0
  · exfalso
    have hS : S = [] := List.eq_nil_of_length_eq_zero h0
    subst hS
    have hr : 0 ∈ D := by
      rcases h.root with ⟨-, h1⟩ | h1
      · cases h1
      · exact List.mem_of_getElem? h1
    have key : ∀ m j, j ≤ m → j < t.flat.length → j ∈ D := by
      intro m
      induction m with
      | zero => intro j h1 _; rw [show j = 0 by omega]; exact hr
      | succ m ih =>
        intro j h1 h2
        by_cases hj : j = 0
        · rw [hj]; exact hr
        · obtain ⟨g1, g2, -, -⟩ := pk_of hw hj h2
          have := h.down _ (ih (pkO t j).1 (by omega) g1) j g2 h2 rfl
          simpa using this
    have := sub_len (List.range t.flat.length) D List.nodup_range (fun x hx => key x x (Nat.le_refl _) (List.mem_range.1 hx))
    rw [List.length_range] at this
    omega
  · exact h0

end Go.Proofs.YtgmjfcekeglhjaaDoor

set_option linter.unusedSimpArgs false
set_option linter.unusedVariables false
set_option maxRecDepth 100000
namespace Go.Proofs.YtgmjfcekeglhjaaDoor
open Go Go.Vc Go.RowKit Go.Proofs

theorem nd_inj {l : List Nat} (h : l.Nodup) {i j x : Nat} (hi : l[i]? = some x) (hj : l[j]? = some x) : i = j := by
  obtain ⟨h1, h2⟩ := List.getElem?_eq_some_iff.1 hi
  obtain ⟨h3, h4⟩ := List.getElem?_eq_some_iff.1 hj
  exact (List.getElem_inj h).1 (h2.trans h4.symm)
theorem OrdS.back {t : Vt} (hw : t.wf) {D S : List Nat} {A : List Mk} (h : OrdS t D S A) {m x : Nat} (hm : D[m]? = some x) {m' : Nat} {y : Mk} (hy : A[m']? = some y) (hp : y.par = (m : Int)) : ∃ (hx : x < t.flat.length) (k : Nat), y.k = (k : Int) ∧ (k : Int) < t.flat[x].kids ∧ D[m']? = some (kidP t.flat (x + 1) k) := by
  have hl : m' < D.length := by rw [← h.len]; exact (List.getElem?_eq_some_iff.1 hy).1
  obtain ⟨p, h1, h2, h3⟩ := h.node m' D[m'] (List.getElem?_eq_getElem hl)
  rw [hy] at h1
  simp only [Option.some.injEq] at h1
  subst h1
  have hpm : p = (m : Int) := hp
  by_cases h0 : D[m'] = 0
  · have := h2 h0; omega
  · obtain ⟨q, e1, e2⟩ := h3 h0
    have : q = m := by omega
    subst this
    rw [hm] at e2
    simp only [Option.some.injEq] at e2
    obtain ⟨g1, g2, g3, g4⟩ := pk_of hw h0 (h.lt _ (List.mem_append_left _ (List.getElem_mem hl)))
    refine ⟨by rw [e2]; exact g1, (pkO t D[m']).2, by rw [mkO, if_neg h0], by simpa [e2] using g3, ?_⟩
    rw [List.getElem?_eq_getElem hl, e2, g4]
theorem high_le : ∀ (A : List Mk) (i : Nat) (c : Int), 0 ≤ c → (∀ x ∈ A, x.par = (i : Int) → x.k + 1 ≤ c) → highN A i ≤ c
  | [], i, c, h, _ => h
  | x :: A, i, c, h0, hc => by
    have h1 := high_le A i c h0 (fun y hy => hc y (List.mem_cons_of_mem _ hy))
    rw [highN]
    split
    · have := hc x (List.mem_cons_self ..) ‹_›
      omega
    · exact h1
theorem OrdS.all {t : Vt} {D S : List Nat} {A : List Mk} (h : OrdS t D S A) (hn : D.length = t.flat.length) : ∀ j : Nat, j < t.flat.length → ∃ m : Nat, D[m]? = some j := by
  intro j hj
  have h1 := (List.nodup_append.1 h.nd).1
  by_cases hm : j ∈ D
  · obtain ⟨m, hm1, hm2⟩ := List.getElem_of_mem hm
    exact ⟨m, by rw [List.getElem?_eq_getElem hm1, hm2]⟩
  · have := nodup_len t.flat.length (j :: D) (List.nodup_cons.2 ⟨hm, h1⟩) (fun x hx => by
      rcases List.mem_cons.1 hx with rfl | hx
      · exact hj
      · exact h.lt x (List.mem_append_left _ hx))
    rw [List.length_cons] at this
    omega
section
variable {t : Vt} (hw : t.wf) {D S : List Nat} {A : List Mk} (h : OrdS t D S A) (hn : D.length = t.flat.length)
include hw h hn
theorem OrdS.kid {m x : Nat} (hm : D[m]? = some x) (hx : x < t.flat.length) {k : Nat} (hk : (k : Int) < t.flat[x].kids) : ∃ (m' : Nat), D[m']? = some (kidP t.flat (x + 1) k) ∧ 0 < m' ∧ A[m']? = some (mkO t (kidP t.flat (x + 1) k) (m : Int)) ∧ (mkO t (kidP t.flat (x + 1) k) (m : Int)).k = (k : Int) := by
  obtain ⟨k1, k2⟩ := kid_pos hw hx hk
  have k3 := pk_kid hw hx hk
  obtain ⟨m', hm'⟩ := h.all hn _ k1
  obtain ⟨p, h1, -, h2⟩ := h.node m' _ hm'
  obtain ⟨q, rfl, hq⟩ := h2 (by omega)
  rw [k3] at hq
  have := nd_inj (List.nodup_append.1 h.nd).1 hq hm
  subst this
  refine ⟨m', hm', ?_, h1, ?_⟩
  · rcases Nat.eq_zero_or_pos m' with e | e
    · exfalso
      subst e
      rcases h.root with ⟨h3, -⟩ | h3
      · rw [h3] at hm'; simp at hm'
      · rw [hm'] at h3; simp only [Option.some.injEq] at h3; omega
    · exact e
  · rw [mkO, if_neg (by omega), k3]
theorem OrdS.knum (hg : Good A) {m x : Nat} (hm : D[m]? = some x) (hx : x < t.flat.length) : (kidsN A m : Int) = t.flat[x].kids ∧ highN A m = t.flat[x].kids := by
  have hc : (chkV t.flat).1 = 0 := chk_ok.2 ⟨t, hw, rfl⟩
  have hk0 := (right_kids (node_at hc hx).choose_spec.choose_spec.1).1
  have hback : ∀ y ∈ A, y.par = (m : Int) → ∃ k : Nat, y.k = (k : Int) ∧ (k : Int) < t.flat[x].kids := fun y hy hp => by
    obtain ⟨m', hm', rfl⟩ := List.getElem_of_mem hy
    obtain ⟨hx2, k, k1, k2, -⟩ := h.back hw hm (List.getElem?_eq_getElem hm') hp
    exact ⟨k, k1, k2⟩
  have hkid : ∀ k : Nat, (k : Int) < t.flat[x].kids → ∃ y ∈ A, y.par = (m : Int) ∧ y.k = (k : Int) := fun k hk => by
    obtain ⟨m', -, -, k1, k2⟩ := h.kid hw hn hm hx hk
    exact ⟨_, List.mem_of_getElem? k1, rfl, k2⟩
  let l := (A.filter (fun y => decide (y.par = (m : Int)))).map (fun y => y.k.toNat)
  have hlen : l.length = kidsN A m := by show ((A.filter _).map _).length = _; rw [List.length_map, kidsN, List.countP_eq_length_filter]
  have hnd : l.Nodup := by
    show ((A.filter _).map _).Nodup
    rw [List.Nodup, List.pairwise_map, List.pairwise_filter, List.pairwise_iff_getElem]
    intro a b ha hb hab h1 h2 he
    simp only [decide_eq_true_eq] at h1 h2
    obtain ⟨ka, ka1, -⟩ := hback _ (List.getElem_mem ha) h1
    obtain ⟨kb, kb1, -⟩ := hback _ (List.getElem_mem hb) h2
    have := hg.one b a _ _ (List.getElem?_eq_getElem hb) (List.getElem?_eq_getElem ha) (by omega) (by rw [h1, h2]) (by omega)
    omega
  have hub : l.length ≤ t.flat[x].kids.toNat := nodup_len _ l hnd (fun z hz => by
    obtain ⟨y, hy, rfl⟩ := List.mem_map.1 hz
    obtain ⟨hyA, hyp⟩ := List.mem_filter.1 hy
    obtain ⟨k, k1, k2⟩ := hback y hyA (by simpa using hyp)
    show y.k.toNat < _
    omega)
  have hlb := sub_len (List.range t.flat[x].kids.toNat) l List.nodup_range (fun k hk => by
    obtain ⟨y, hyA, hyp, hyk⟩ := hkid k (by have := List.mem_range.1 hk; omega)
    exact List.mem_map.2 ⟨y, List.mem_filter.2 ⟨hyA, by simpa using hyp⟩, by show y.k.toNat = k; omega⟩)
  rw [List.length_range] at hlb
  refine ⟨by omega, ?_⟩
  have h1 : highN A m ≤ t.flat[x].kids := high_le A m _ hk0 (fun y hy hp => by
    obtain ⟨k, k1, k2⟩ := hback y hy hp
    omega)
  by_cases hz : t.flat[x].kids = 0
  · have := high_zero A m (fun y hy hp => by
      obtain ⟨k, k1, k2⟩ := hback y hy hp
      omega)
    rw [this.2, hz]
  · obtain ⟨y, hyA, hyp, hyk⟩ := hkid (t.flat[x].kids.toNat - 1) (by omega)
    have := high_ge A m y hyA hyp
    omega
theorem OrdS.full (hg : Good A) : fullP A := by
  have hc : (chkV t.flat).1 = 0 := chk_ok.2 ⟨t, hw, rfl⟩
  have hp := t.flat_pos
  refine ⟨by rw [h.len]; omega, fun m y hy => ?_⟩
  have hl : m < D.length := by rw [← h.len]; exact (List.getElem?_eq_some_iff.1 hy).1
  have hm := List.getElem?_eq_getElem hl
  have hx := h.lt _ (List.mem_append_left _ (List.getElem_mem hl))
  obtain ⟨h1, h2⟩ := h.knum hw hn hg hm hx
  obtain ⟨p, h3, -, -⟩ := h.node m _ hm
  rw [hy] at h3
  simp only [Option.some.injEq] at h3
  have hk : y.kind = t.flat[D[m]].kind := by
    rw [h3, mkO]
    show (t.flat.getD D[m] nd0).kind = _
    rw [List.getD_eq_getElem?_getD, List.getElem?_eq_getElem hx]
    rfl
  have hr := (node_at hc hx).choose_spec.choose_spec.1
  simp only [rightN, Bool.and_eq_true, decide_eq_true_eq] at hr
  rintro (hb | hb)
  · exact hb (by rw [h1, h2])
  · rw [h1, hk] at hb
    omega
theorem OrdS.kido (hg : Good A) {m x : Nat} (hm : D[m]? = some x) (hx : x < t.flat.length) {k : Nat} (hk : (k : Int) < t.flat[x].kids) : D[kidO A m k]? = some (kidP t.flat (x + 1) k) := by
  obtain ⟨m', h1, h2, h3, h4⟩ := h.kid hw hn hm hx hk
  have hf := h.full hw hn hg
  have hml : m < A.length := by rw [h.len]; exact (List.getElem?_eq_some_iff.1 hm).1
  have hkn := (h.knum hw hn hg hm hx).1
  obtain ⟨y, -, g1, g2, g3, -⟩ := kidO_spec hg (hf.kids hml) (k := k) (by omega)
  have := hg.one m' (kidO A m k) _ y h3 g1 h2 (by rw [g2]; rfl) (by rw [g3]; exact h4)
  rw [← this]
  exact h1
mutual
theorem told_tree (hg : Good A) : ∀ (s : Vt) (x m : Nat) (post : List Nd), s.wf → D[m]? = some x → t.flat.drop x = s.flat ++ post → told A A.length m = s.flat
  | .node y ks, x, m, post, hsw, hm, hd => by
    have hx : x < t.flat.length := h.lt x (List.mem_append_left _ (List.mem_of_getElem? hm))
    have hml : m < A.length := by rw [h.len]; exact (List.getElem?_eq_some_iff.1 hm).1
    have hf := h.full hw hn hg
    have h8 : t.flat.drop x = t.flat[x] :: t.flat.drop (x + 1) := (List.getElem_cons_drop hx).symm
    rw [h8, Vt.flat, List.cons_append, List.cons.injEq] at hd
    have hkn := (h.knum hw hn hg hm hx).1
    rw [hd.1] at hkn
    obtain ⟨p, h3, -, -⟩ := h.node m _ hm
    have hgd : t.flat.getD x nd0 = y := by rw [List.getD_eq_getElem?_getD, List.getElem?_eq_getElem hx, ← hd.1]; rfl
    have hlen : (ks.len : Int) = y.kids := hsw.2.1
    have hks := told_trees hg ks x m 0 post hsw.2.2 hm (by rw [hgd]; omega) hd.2
    rw [told_step hg hf hml, Vt.flat]
    congr 1
    · rw [List.getD_eq_getElem?_getD, h3]
      show (⟨(t.flat.getD x nd0).kind, (t.flat.getD x nd0).n, _⟩ : Nd) = y
      rw [hgd, hkn]
    · rw [kidL, show kidsN A m = ks.len by omega, List.flatMap_map, List.range_eq_range']
      exact hks
theorem told_trees (hg : Good A) : ∀ (ts : Vts) (x m k : Nat) (post : List Nd), ts.wf → D[m]? = some x → ((ts.len + k : Nat) : Int) = (t.flat.getD x nd0).kids → t.flat.drop (kidP t.flat (x + 1) k) = ts.flat ++ post → (List.range' k ts.len).flatMap (fun k => told A A.length (kidO A m k)) = ts.flat
  | .nil, x, m, k, post, _, _, _, _ => rfl
  | .cons s ts, x, m, k, post, hsw, hm, hk, hd => by
    have hx : x < t.flat.length := h.lt x (List.mem_append_left _ (List.mem_of_getElem? hm))
    have hgd : t.flat.getD x nd0 = t.flat[x] := by rw [List.getD_eq_getElem?_getD, List.getElem?_eq_getElem hx]; rfl
    have hkk : (k : Int) < t.flat[x].kids := by rw [← hgd]; simp only [Vts.len] at hk; omega
    have hD := h.kido hw hn hg hm hx hkk
    have h1 := told_tree hg s _ _ (ts.flat ++ post) hsw.1 hD (by rw [hd, Vts.flat, List.append_assoc])
    have hnx : nextV t.flat (kidP t.flat (x + 1) k) = kidP t.flat (x + 1) k + s.flat.length := next_tree (post := ts.flat ++ post) (by rw [hd, Vts.flat, List.append_assoc]) hsw.1
    have h2 := told_trees hg ts x m (k + 1) post hsw.2 hm (by rw [← hk, Vts.len]; congr 1; omega) (by
      show t.flat.drop (nextV t.flat (kidP t.flat (x + 1) k)) = _
      rw [hnx, ← List.drop_drop, hd, Vts.flat, List.append_assoc, List.drop_left' rfl])
    rw [Vts.len, List.range'_succ, List.flatMap_cons, h1, h2, Vts.flat]
end
theorem OrdS.value (hg : Good A) : told A A.length 0 = t.flat := by
  refine told_tree hw h hn hg t 0 0 [] hw ?_ (by simp)
  rcases h.root with ⟨h1, -⟩ | h1
  · have := t.flat_pos
    rw [h1] at hn
    simp at hn
    omega
  · exact h1
end

end Go.Proofs.YtgmjfcekeglhjaaDoor

set_option linter.unusedSimpArgs false
set_option linter.unusedVariables false
set_option maxRecDepth 100000
namespace Go.Proofs.YtgmjfcekeglhjaaDoor
open Go Go.Vc Go.RowKit Go.Proofs
theorem o_mk2 {P : Program} {e : Env} {w : World} {K : Value → World → Prop} {ty : TypeId} {x y : Operand} {t el : TypeId} {s bs s' bs' l n : Nat} {z z' : Value} {d' : TypeDesc} {kl kc : IntKind} (ht : Ty P t (.slice el) s bs z) (hel : Ty P el d' s' bs' z') (hx : ev e x = .int kl (l : Int)) (hy : ev e y = .int kc (n : Int)) (hln : l ≤ n) (hb : bs' * n ≤ 281474976710656) (h63 : n ≤ 9223372036854775807)
    (k : K (.slice (some ⟨w.heap.size, 0, none⟩) l n) (w.alloc (.cells (madeCells z'.cells (n * s')) el))) : OP P e (.makeSlice t x y) ty w K := by
  obtain ⟨i, h1, h2, h3, h4⟩ := hel.info
  subst h2 h3
  have hb' : (i.bytes : Int) * (n : Int) ≤ 281474976710656 := by
    have : ((i.bytes * n : Nat) : Int) ≤ 281474976710656 := by omega
    rwa [Int.natCast_mul] at this
  have h := run_make (P := P) w t el i z' ht.und h1 h4 kl kc l n (by omega) (by omega) hb' (by omega)
  simp only [Int.toNat_natCast] at h
  exact OP.of (by simp [execOp, hx, hy, h]) k
theorem own_made1 {w : World} {el : TypeId} {l n : Nat} {z : Value} (hz : z.cells = #[z]) (hln : l ≤ n) (hn : n ≤ 9223372036854775807) : (w.alloc (.cells (madeCells z.cells (n * 1)) el)).ownsRow w.heap.size el 1 (.slice (some ⟨w.heap.size, 0, none⟩) l n) l (List.replicate l z) := by
  have hc : (madeCells z.cells (n * 1)).toList = List.replicate n z := by rw [hz, Nat.mul_one, toList_madeCells_one]
  refine ⟨by simp, .inr ⟨w.heap.size, n, madeCells z.cells (n * 1), rfl, Nat.le_refl _, heap_alloc_new w _, hln, by rw [maxLen_eq]; omega, ?_, ?_⟩⟩
  · have := congrArg List.length hc; simpa using this
  · rw [hc, List.take_replicate, Nat.mul_one, Nat.min_eq_left hln]

/-- what the loops have written -/
def Wr (t : Vt) (PA KA : List Nat) (i k : Nat) : Prop := PA.length = t.flat.length ∧ KA.length = t.flat.length ∧ ∀ (i' k' : Nat), (i' < i ∨ i' = i ∧ k' < k) → ∀ h : i' < t.flat.length, (k' : Int) < t.flat[i'].kids → PA[kidP t.flat (i' + 1) k']? = some i' ∧ KA[kidP t.flat (i' + 1) k']? = some k'
theorem Wr.put {t : Vt} (hw : t.wf) {PA KA : List Nat} {i k : Nat} (h : Wr t PA KA i k) (hi : i < t.flat.length) (hk : (k : Int) < t.flat[i].kids) : Wr t (PA.set (kidP t.flat (i + 1) k) i) (KA.set (kidP t.flat (i + 1) k) k) i (k + 1) := by
  obtain ⟨h1, h2, h3⟩ := h
  refine ⟨by rw [List.length_set, h1], by rw [List.length_set, h2], fun i' k' hlt hi' hk' => ?_⟩
  have hj := (kid_pos hw hi hk).1
  have e1 := pk_kid hw hi hk
  have e2 := pk_kid hw hi' hk'
  by_cases he : kidP t.flat (i' + 1) k' = kidP t.flat (i + 1) k
  · rw [he, e1] at e2
    simp only [Prod.mk.injEq] at e2
    rw [he, List.getElem?_set_self (by rw [h1]; exact hj), List.getElem?_set_self (by rw [h2]; exact hj), e2.1, e2.2]
    exact ⟨rfl, rfl⟩
  · rw [List.getElem?_set_ne (fun e => he e.symm), List.getElem?_set_ne (fun e => he e.symm)]
    refine h3 i' k' ?_ hi' hk'
    rcases hlt with hlt | ⟨rfl, hlt⟩
    · exact .inl hlt
    · refine .inr ⟨rfl, ?_⟩
      rcases Nat.lt_or_ge k' k with h4 | h4
      · exact h4
      · exact absurd (by rw [show k' = k by omega]) he
theorem Wr.next {t : Vt} {PA KA : List Nat} {i k : Nat} (h : Wr t PA KA i k) (hi : i < t.flat.length) (hk : ¬ (k : Int) < t.flat[i].kids) : Wr t PA KA (i + 1) 0 :=
  ⟨h.1, h.2.1, fun i' k' hlt hi' hk' => h.2.2 i' k' (by
    rcases hlt with hlt | ⟨rfl, hlt⟩
    · by_cases he : i' = i
      · subst he
        exact .inr ⟨rfl, by omega⟩
      · exact .inl (by omega)
    · omega) hi' hk'⟩
theorem Wr.get {t : Vt} (hw : t.wf) {PA KA : List Nat} (h : Wr t PA KA t.flat.length 0) {j : Nat} (h0 : j ≠ 0) (hj : j < t.flat.length) : PA[j]? = some (pkO t j).1 ∧ KA[j]? = some (pkO t j).2 := by
  obtain ⟨h1, h2, h3, h4⟩ := pk_of hw h0 hj
  have := h.2.2 _ _ (.inl h1) h1 h3
  rwa [h4] at this
theorem Sl.zat {w : World} {v : Value} {zs : List Int} (h : Sl w 1 v zs.length (zs.map (Value.int .i64))) {i : Nat} (hi : i < zs.length) : ∃ b o c, v = .slice (some ⟨b, o, none⟩) zs.length c ∧ w.cell? ⟨b, o + i * 1, none⟩ = some (.int .i64 zs[i]) := by
  rcases h.val with ⟨hz, h0⟩ | ⟨b, o, c, rfl, hnc, hc⟩
  · omega
  · exact ⟨b, o, c, rfl, by rw [Nat.mul_one]; exact hc i _ (by simp [hi])⟩
theorem ints_set (l : List Nat) (i n : Nat) : (ints l).set i (.int .i64 (n : Int)) = ints (l.set i n) := by rw [ints, ints, List.map_set]
theorem ints_cell2 {ps : List Nat} {i n : Nat} (hi : ps[i]? = some n) : (ints ps)[i]? = some (.int .i64 (n : Int)) := by rw [ints, List.getElem?_map, hi]; rfl
theorem ints_drop (l : List Nat) (k : Nat) : (ints l).drop k = ints (l.drop k) := by rw [ints, ints, List.map_drop]
theorem ints_take (l : List Nat) (k : Nat) : (ints l).take k = ints (l.take k) := by rw [ints, ints, List.map_take]
theorem ints_app (l m : List Nat) : ints (l ++ m) = ints l ++ ints m := by rw [ints, ints, ints, List.map_append]
theorem ints_one (l : List Nat) : ∀ a ∈ ints l, a.oneCell' = true := fun a ha => by
  obtain ⟨z, -, rfl⟩ := List.mem_map.1 ha
  rfl
theorem ints_rep (n : Nat) : List.replicate n (Value.int .i64 0) = ints (List.replicate n 0) := by rw [ints, List.map_replicate]; rfl
theorem erase_td (S : List Nat) (k : Nat) : S.eraseIdx k = S.take k ++ S.drop (k + 1) := List.eraseIdx_eq_take_drop_succ _ _
def kidsTo (t : Vt) (x j : Nat) : List Nat := ((List.range j).drop (x + 1)).filter (fun j => decide ((pkO t j).1 = x))
theorem kidsTo_all (t : Vt) (x : Nat) : kidsTo t x t.flat.length = kidsOf t x := rfl
theorem kidsTo_zero (t : Vt) (x : Nat) : kidsTo t x (x + 1) = [] := by rw [kidsTo, List.drop_eq_nil_of_le (by rw [List.length_range]; exact Nat.le_refl _)]; rfl
theorem kidsTo_step (t : Vt) {x j : Nat} (h : x < j) : kidsTo t x (j + 1) = kidsTo t x j ++ (if (pkO t j).1 = x then [j] else []) := by
  rw [kidsTo, List.range_succ, List.drop_append_of_le_length (by rw [List.length_range]; omega), List.filter_append]
  congr 1
  by_cases he : (pkO t j).1 = x <;> simp [he]
theorem kidsTo_len (t : Vt) (x j : Nat) : (kidsTo t x j).length ≤ j := by
  refine Nat.le_trans (List.length_filter_le _ _) ?_
  rw [List.length_drop, List.length_range]
  omega

theorem own_off2 {w : World} {base base' : Nat} {el el' : TypeId} {s n s' n' b c j : Nat} {v : Value} {xs xs' : List Value} (h : w.ownsRow base el s v n xs) (h' : w.ownsRow base' el' s' (.slice (some ⟨b, 0, none⟩) n' c) n' xs') (hne : el' ≠ el) (hj : v.ownBlock = some j) (he : j = b) : False :=
  own_row_off h' h hne j hj (by rw [he]; rfl)

set_option maxHeartbeats 32000000 in
theorem order_walk (w0 : World) (v : Value) (R : List Nd) (hS : Sl w0 3 v R.length (nds R)) (hR : R.length ≤ 9223372036854775807) (hN : NOk R) (v2 : Value) (zs : List Int) (hzl : zs.length ≤ 9223372036854775807) (hZ : Sl w0 1 v2 zs.length (zs.map (Value.int .i64))) (hT : Tab w0) (h00 : 0 < w0.heap.size) : Ca Tryd.prog 8 #[v, v2] w0 (fun r w' => r = .bool true ∧ Ext w0 w') := by
  refine Ca.of Tryd.func8 Tryd.ntmps8 rfl rfl ?_
  refine W.seq ?_
  refine W.region ?_
  refine WL.c rfl (o_ash (show _ = Value.bool _ from rfl) ?_)
  refine WL.nil ?_
  refine W.seq ?_
  refine W.seq ?_
  refine W.region ?_
  refine WL.c rfl (o_call Tryd.call9 ln ((awake_spec _ hT h00).mono ?_))
  rintro v23 w23 ⟨rfl, hx23⟩
  have hx := hx23
  refine WL.c rfl (o_not' rfl ?_)
  refine WL.nil ?_
  refine W.condF' rfl (by decide) ?_
  refine W.skip ?_
  refine W.seq ?_
  refine W.region ?_
  refine WL.c rfl (o_mvh (by first | exact (show _ = Value.slice _ _ _ from rfl) | exact rfl) ?_)
  refine WL.c rfl (o_call Tryd.call22 (lc rfl ln) ((made_spec R v _ (hS.ext hx) hR hN).mono ?_))
  rintro nv w26 ⟨t, htw, htn, htl, hv, hx26⟩
  replace hv := own_mono hv hx.size
  replace hx := hx.tr hx26
  have htp := t.flat_pos
  have hck : (chkV t.flat).1 = 0 := chk_ok.2 ⟨t, htw, rfl⟩
  refine WL.c rfl (o_ash (by first | exact (show _ = Value.slice _ _ _ from rfl) | exact rfl) ?_)
  refine WL.nil ?_
  refine W.seq ?_
  refine W.region ?_
  refine WL.c rfl (o_mvh (by first | exact (show _ = Value.slice _ _ _ from rfl) | exact rfl) ?_)
  refine WL.c rfl (o_lenR TI30 rfl (Sl.own hv) ?_)
  refine WL.c rfl (o_mk2 TI75 TI3 (l := t.flat.length) (n := t.flat.length) rfl rfl (Nat.le_refl _) (by omega) (by omega) ?_)
  have hpa := own_made1 (w := w26) (el := 3) (l := t.flat.length) (n := t.flat.length) (z := .int .i64 0) rfl (Nat.le_refl _) (by omega)
  have hxb : Ext w26 (w26.alloc (.cells (madeCells (Value.int .i64 0).cells (t.flat.length * 1)) 3)) := Only.alloc w26 _
  have hsz29 : (w26.alloc (.cells (madeCells (Value.int .i64 0).cells (t.flat.length * 1)) 3)).heap.size = w26.heap.size + 1 := Array.size_push _
  generalize w26.alloc (.cells (madeCells (Value.int .i64 0).cells (t.flat.length * 1)) 3) = wm29 at hpa hxb hsz29 ⊢
  obtain ⟨b6, hb29⟩ : ∃ b, b = w26.heap.size := ⟨_, rfl⟩
  rw [← hb29] at hpa hsz29 ⊢
  rw [ints_rep] at hpa
  replace hx := hx.tr hxb
  replace hv := own_ext hv hxb
  clear hxb
  refine WL.c rfl (o_ash (by first | exact (show _ = Value.slice _ _ _ from rfl) | exact rfl) ?_)
  refine WL.nil ?_
  refine W.seq ?_
  refine W.region ?_
  refine WL.c rfl (o_mvh (by first | exact (show _ = Value.slice _ _ _ from rfl) | exact rfl) ?_)
  refine WL.c rfl (o_lenR TI30 rfl (Sl.own hv) ?_)
  refine WL.c rfl (o_mk2 TI75 TI3 (l := t.flat.length) (n := t.flat.length) rfl rfl (Nat.le_refl _) (by omega) (by omega) ?_)
  have hka := own_made1 (w := wm29) (el := 3) (l := t.flat.length) (n := t.flat.length) (z := .int .i64 0) rfl (Nat.le_refl _) (by omega)
  have hxb : Ext wm29 (wm29.alloc (.cells (madeCells (Value.int .i64 0).cells (t.flat.length * 1)) 3)) := Only.alloc wm29 _
  have hsz32 : (wm29.alloc (.cells (madeCells (Value.int .i64 0).cells (t.flat.length * 1)) 3)).heap.size = wm29.heap.size + 1 := Array.size_push _
  generalize wm29.alloc (.cells (madeCells (Value.int .i64 0).cells (t.flat.length * 1)) 3) = wm32 at hka hxb hsz32 ⊢
  obtain ⟨b7, hb32⟩ : ∃ b, b = wm29.heap.size := ⟨_, rfl⟩
  rw [← hb32] at hka hsz32 ⊢
  rw [ints_rep] at hka
  replace hx := hx.tr hxb
  replace hv := own_ext hv hxb
  replace hpa := own_ext hpa hxb
  clear hxb
  refine WL.c rfl (o_ash (by first | exact (show _ = Value.slice _ _ _ from rfl) | exact rfl) ?_)
  refine WL.nil ?_
  refine W.seq ?_
  refine W.seq ?_
  have hw6 : w0.heap.size ≤ b6 := by have := hx26.size; have := hx23.size; omega
  have hb67 : b6 < b7 := by omega
  refine W.region ?_
  refine WL.c rfl (o_ash (show _ = Value.int _ _ from rfl) ?_)
  refine WL.nil ?_
  refine W.block ?_
  refine W.loop (fun e w => ∃ (i : Nat) (PA KA : List Nat), i ≤ t.flat.length ∧ e 1 = v2 ∧ e 5 = nv ∧ e 6 = Value.slice (some ⟨b6, 0, none⟩) t.flat.length t.flat.length ∧ e 7 = Value.slice (some ⟨b7, 0, none⟩) t.flat.length t.flat.length ∧ e 8 = .int .i64 (i : Int) ∧ Wr t PA KA i 0 ∧ w.ownsRow w0.heap.size 69 3 nv t.flat.length (nds t.flat) ∧ w.ownsRow b6 3 1 (Value.slice (some ⟨b6, 0, none⟩) t.flat.length t.flat.length) t.flat.length (ints PA) ∧ w.ownsRow b7 3 1 (Value.slice (some ⟨b7, 0, none⟩) t.flat.length t.flat.length) t.flat.length (ints KA) ∧ Ext w0 w) (fun e w => t.flat.length - (intOf (e 8)).toNat) ?_ ?_
  · exact ⟨0, _, _, Nat.zero_le _, rfl, rfl, rfl, rfl, rfl, ⟨by simp, by simp, fun i' k' h => by omega⟩, hv, hpa, hka, hx⟩
  rintro e w ⟨i, PA, KA, hi, h1, h5, h6, h7, h8, hWr, hv, hpa, hka, hx⟩
  have hm8 := h8
  refine W.seq ?_
  refine W.seq ?_
  refine W.region ?_
  refine WL.c rfl (o_mvh h8 ?_)
  refine WL.c rfl (o_mvh h5 ?_)
  refine WL.c rfl (o_lenR TI30 rfl (Sl.own hv) ?_)
  refine WL.c rfl (o_lt rfl rfl ?_)
  refine WL.nil ?_
  refine W.cond rfl (fun c36 => ?_) (fun c36 => ?_)
  · try simp only [decide_eq_true_eq, decide_eq_false_iff_not, Bool.not_eq_true', Bool.not_eq_false', Bool.and_eq_true, Bool.or_eq_true, Bool.and_eq_false_iff, Bool.or_eq_false_iff] at c36
    have hi1 : i < t.flat.length := by omega
    have hkd := right_kids (node_at hck hi1).choose_spec.choose_spec.1
    refine W.skip ?_
    refine W.seq ?_
    refine W.block ?_
    refine W.seq ?_
    refine W.region ?_
    refine WL.c rfl (o_mvh h8 ?_)
    refine WL.c rfl (o_addi rfl rfl (by omega) ?_)
    refine WL.c rfl (o_ash (show _ = Value.int _ _ from rfl) ?_)
    refine WL.nil ?_
    refine W.seq ?_
    refine W.region ?_
    refine WL.c rfl (o_ash (show _ = Value.int _ _ from rfl) ?_)
    refine WL.nil ?_
    refine W.block ?_
    refine W.loop (fun e w => ∃ (k : Nat) (PA KA : List Nat), (k : Int) ≤ t.flat[i].kids ∧ e 1 = v2 ∧ e 5 = nv ∧ e 6 = Value.slice (some ⟨b6, 0, none⟩) t.flat.length t.flat.length ∧ e 7 = Value.slice (some ⟨b7, 0, none⟩) t.flat.length t.flat.length ∧ e 8 = .int .i64 (i : Int) ∧ e 9 = .int .i64 (kidP t.flat (i + 1) k : Int) ∧ e 10 = .int .i64 (k : Int) ∧ Wr t PA KA i k ∧ w.ownsRow w0.heap.size 69 3 nv t.flat.length (nds t.flat) ∧ w.ownsRow b6 3 1 (Value.slice (some ⟨b6, 0, none⟩) t.flat.length t.flat.length) t.flat.length (ints PA) ∧ w.ownsRow b7 3 1 (Value.slice (some ⟨b7, 0, none⟩) t.flat.length t.flat.length) t.flat.length (ints KA) ∧ Ext w0 w) (fun e w => t.flat[i].kids.toNat - (intOf (e 10)).toNat) ?_ ?_
    · exact ⟨0, PA, KA, hkd.1, h1, h5, h6, h7, h8, rfl, rfl, hWr, hv, hpa, hka, hx⟩
    rintro e w ⟨k, PA, KA, hk, h1, h5, h6, h7, h8, h9, h10, hWr, hv, hpa, hka, hx⟩
    have hm10 := h10
    have hPl := hWr.1
    have hKl := hWr.2.1
    obtain ⟨nb, nc, rfl, hnb⟩ := own_some hv (by omega)
    refine W.seq ?_
    refine W.seq ?_
    refine W.region ?_
    refine WL.c rfl (o_mvh h10 ?_)
    refine WL.c rfl (o_mvh h5 ?_)
    refine WL.c rfl (o_mvh h8 ?_)
    refine WL.c rfl (o_ixB (i := i) TI30 TI69 (show _ = Value.slice (some ⟨nb, 0, none⟩) t.flat.length nc from by first | rfl | assumption) (show _ = Value.int .i64 (i : Int) from by first | rfl | assumption) (by omega) ?_)
    refine WL.c rfl (o_fa 2 TI69 rfl TI3 rfl rfl ?_)
    refine WL.c rfl (o_ld TI3 rfl rfl (own_cell (j := 0 + i * 3 + 2) hv (by rw [Nat.zero_add]; exact (nds_at hi1 (by decide)).trans rfl)) ?_)
    refine WL.c rfl (o_lt rfl rfl ?_)
    refine WL.nil ?_
    refine W.cond rfl (fun c47 => ?_) (fun c47 => ?_)
    · try simp only [decide_eq_true_eq, decide_eq_false_iff_not, Bool.not_eq_true', Bool.not_eq_false', Bool.and_eq_true, Bool.or_eq_true, Bool.and_eq_false_iff, Bool.or_eq_false_iff] at c47
      have hk1 : (k : Int) < t.flat[i].kids := by omega
      obtain ⟨hj1, hj2⟩ := kid_lt hck hi1 hk1
      refine W.skip ?_
      refine W.seq ?_
      refine W.block ?_
      refine W.seq ?_
      refine W.region ?_
      refine WL.c rfl (o_mvh h6 ?_)
      refine WL.c rfl (o_mvh h9 ?_)
      refine WL.c rfl (o_mvh h8 ?_)
      refine WL.c rfl (o_ixB (i := (kidP t.flat (i + 1) k)) TI75 TI3 (show _ = Value.slice (some ⟨b6, 0, none⟩) t.flat.length t.flat.length from by first | rfl | assumption) (show _ = Value.int .i64 ((kidP t.flat (i + 1) k) : Int) from by first | rfl | assumption) (by omega) ?_)
      refine WL.u (o_stRj TI3 rfl (show 0 + kidP t.flat (i + 1) k * 1 = kidP t.flat (i + 1) k by omega) (show _ = Value.int .i64 (i : Int) from by first | rfl | assumption) rfl hpa rfl (by omega) ?_)
      intro ws53 hr53 ho53 hs53
      rw [ints_set] at hr53
      replace ho53 : Only (fun k => k = b6) _ ws53 := ho53.mono (fun k _ hk => by simp only [Value.ownBlock, Option.some.injEq] at hk; exact hk.symm)
      replace hv := own_only hv ho53 (fun j hj he => own_off2 hv hpa (by decide) hj he)
      replace hka := own_only hka ho53 (fun j hj he => by simp only [Value.ownBlock, Option.some.injEq] at hj; omega)
      replace hx := hx.trans' ho53 (fun _ h => h) (fun j hj he => by omega)
      clear hpa
      have hpa := hr53
      clear hr53 hs53
      refine WL.nil ?_
      refine W.seq ?_
      refine W.region ?_
      refine WL.c rfl (o_mvh h7 ?_)
      refine WL.c rfl (o_mvh h9 ?_)
      refine WL.c rfl (o_mvh h10 ?_)
      refine WL.c rfl (o_ixB (i := (kidP t.flat (i + 1) k)) TI75 TI3 (show _ = Value.slice (some ⟨b7, 0, none⟩) t.flat.length t.flat.length from by first | rfl | assumption) (show _ = Value.int .i64 ((kidP t.flat (i + 1) k) : Int) from by first | rfl | assumption) (by omega) ?_)
      refine WL.u (o_stRj TI3 rfl (show 0 + kidP t.flat (i + 1) k * 1 = kidP t.flat (i + 1) k by omega) (show _ = Value.int .i64 (k : Int) from by first | rfl | assumption) rfl hka rfl (by omega) ?_)
      intro ws57 hr57 ho57 hs57
      rw [ints_set] at hr57
      replace ho57 : Only (fun k => k = b7) _ ws57 := ho57.mono (fun k _ hk => by simp only [Value.ownBlock, Option.some.injEq] at hk; exact hk.symm)
      replace hv := own_only hv ho57 (fun j hj he => own_off2 hv hka (by decide) hj he)
      replace hpa := own_only hpa ho57 (fun j hj he => by simp only [Value.ownBlock, Option.some.injEq] at hj; omega)
      replace hx := hx.trans' ho57 (fun _ h => h) (fun j hj he => by omega)
      clear hka
      have hka := hr57
      clear hr57 hs57
      refine WL.nil ?_
      refine W.region ?_
      refine WL.c rfl (o_mvh h5 ?_)
      refine WL.c rfl (o_mvh h9 ?_)
      refine WL.c rfl (o_call Tryd.call32 (lc rfl (lc rfl ln)) ((rnext_spec t.flat _ (kidP t.flat (i + 1) k) _ (Sl.own hv) (by omega)).mono ?_))
      rintro v61 w61 ⟨rfl, hx61⟩
      rw [there_in hck hj1, if_pos rfl, Int.toNat_natCast]
      replace hx := hx.tr hx61
      replace hv := own_ext hv hx61
      replace hpa := own_ext hpa hx61
      replace hka := own_ext hka hx61
      refine WL.c rfl (o_mvh (by first | exact (show _ = Value.tuple _ from rfl) | exact rfl) ?_)
      refine WL.c rfl (o_ext rfl rfl ?_)
      refine WL.c rfl (o_ext rfl rfl ?_)
      refine WL.c rfl (o_ash (show _ = Value.int _ _ from rfl) ?_)
      refine WL.nil ?_
      refine W.region ?_
      refine WL.c rfl (o_mvh h10 ?_)
      refine WL.c rfl (o_addi rfl rfl (by omega) ?_)
      refine WL.c rfl (o_ash (show _ = Value.int _ _ from rfl) ?_)
      refine WL.nil ?_
      refine ⟨⟨k + 1, _, _, by omega, h1, h5, h6, h7, h8, rfl, rfl, hWr.put htw hi1 hk1, hv, hpa, hka, hx⟩, ?_⟩
      show t.flat[i].kids.toNat - ((k : Int) + 1).toNat < _
      rw [hm10]; simp [intOf]; omega
    · try simp only [decide_eq_true_eq, decide_eq_false_iff_not, Bool.not_eq_true', Bool.not_eq_false', Bool.and_eq_true, Bool.or_eq_true, Bool.and_eq_false_iff, Bool.or_eq_false_iff] at c47
      have hk1 : ¬ (k : Int) < t.flat[i].kids := by omega
      refine W.exit ?_
      refine W.region ?_
      refine WL.c rfl (o_mvh h8 ?_)
      refine WL.c rfl (o_addi rfl rfl (by omega) ?_)
      refine WL.c rfl (o_ash (show _ = Value.int _ _ from rfl) ?_)
      refine WL.nil ?_
      refine ⟨⟨i + 1, PA, KA, by omega, h1, h5, h6, h7, rfl, hWr.next hi1 hk1, hv, hpa, hka, hx⟩, ?_⟩
      show t.flat.length - ((i : Int) + 1).toNat < _
      rw [hm8]; simp [intOf]; omega
  · try simp only [decide_eq_true_eq, decide_eq_false_iff_not, Bool.not_eq_true', Bool.not_eq_false', Bool.and_eq_true, Bool.or_eq_true, Bool.and_eq_false_iff, Bool.or_eq_false_iff] at c36
    obtain rfl : i = t.flat.length := by omega
    refine W.exit ?_
    refine W.seq ?_
    refine W.region ?_
    refine WL.c rfl (o_call Tryd.call12 ln ((vnew_spec _).mono ?_))
    rintro v64 w64 ⟨p, mb, rfl, hA, hx64⟩
    obtain ⟨BA, hBA⟩ : ∃ B, B = w.heap.size := ⟨_, rfl⟩
    rw [← hBA] at hA
    have hBA0 : w0.heap.size ≤ BA := by rw [hBA]; exact hx.size
    replace hx := hx.tr hx64
    replace hv := own_ext hv hx64
    replace hpa := own_ext hpa hx64
    replace hka := own_ext hka hx64
    refine WL.c rfl (o_ash (by first | exact (show _ = Value.pointer _ from rfl) | exact rfl) ?_)
    refine WL.nil ?_
    refine W.seq ?_
    refine W.seq ?_
    refine W.region ?_
    refine WL.c rfl (o_mvh (by first | exact (show _ = Value.pointer _ from rfl) | exact rfl) ?_)
    refine WL.c rfl (o_eqN TI35 rfl rfl ?_)
    refine WL.nil ?_
    refine W.condF' rfl (rfl) ?_
    refine W.skip ?_
    refine W.seq ?_
    have hlt7 : b7 < w64.heap.size := (hka.lt b7 rfl).2
    have hltA : BA ≤ w64.heap.size := hA.szB
    refine W.region ?_
    refine WL.c rfl (o_mvh h5 ?_)
    refine WL.c rfl (o_lenR TI30 rfl (Sl.own hv) ?_)
    refine WL.c rfl (o_mk2 TI75 TI3 (l := t.flat.length) (n := t.flat.length) rfl rfl (Nat.le_refl _) (by omega) (by omega) ?_)
    have hnu := own_made1 (w := w64) (el := 3) (l := t.flat.length) (n := t.flat.length) (z := .int .i64 0) rfl (Nat.le_refl _) (by omega)
    have hxb : Ext w64 (w64.alloc (.cells (madeCells (Value.int .i64 0).cells (t.flat.length * 1)) 3)) := Only.alloc w64 _
    have hsz69 : (w64.alloc (.cells (madeCells (Value.int .i64 0).cells (t.flat.length * 1)) 3)).heap.size = w64.heap.size + 1 := Array.size_push _
    generalize w64.alloc (.cells (madeCells (Value.int .i64 0).cells (t.flat.length * 1)) 3) = wm69 at hnu hxb hsz69 ⊢
    obtain ⟨b12, hb69⟩ : ∃ b, b = w64.heap.size := ⟨_, rfl⟩
    rw [← hb69] at hnu hsz69 ⊢
    rw [ints_rep] at hnu
    replace hx := hx.tr hxb
    replace hv := own_ext hv hxb
    replace hpa := own_ext hpa hxb
    replace hka := own_ext hka hxb
    replace hA := hA.ext hxb
    clear hxb
    refine WL.c rfl (o_ash (by first | exact (show _ = Value.slice _ _ _ from rfl) | exact rfl) ?_)
    refine WL.nil ?_
    refine W.seq ?_
    refine W.region ?_
    refine WL.c rfl (o_bs1 TI75 TI3 (show _ = Value.int _ _ from rfl) (by decide) (by decide) rfl ?_)
    have hop : (wm69.alloc (.cells (Value.int .i64 0).cells 3)).ownsRow wm69.heap.size 3 1 (.slice (some ⟨wm69.heap.size, 0, none⟩) 1 1) [0].length (ints [0]) := own_new1 rfl
    have hxa : Ext wm69 (wm69.alloc (.cells (Value.int .i64 0).cells 3)) := Only.alloc wm69 _
    generalize wm69.alloc (.cells (Value.int .i64 0).cells 3) = wa at *
    replace hop := own_mono hop (show b12 + 1 ≤ wm69.heap.size by omega)
    replace hx := hx.tr hxa
    replace hv := own_ext hv hxa
    replace hpa := own_ext hpa hxa
    replace hka := own_ext hka hxa
    replace hnu := own_ext hnu hxa
    replace hA := hA.ext hxa
    have hb712 : b7 < b12 := by omega
    have hBA1 : BA ≤ b12 := by omega
    refine WL.c rfl (o_ash (by first | exact (show _ = Value.slice _ _ _ from rfl) | exact rfl) ?_)
    refine WL.nil ?_
    refine W.seq ?_
    refine W.seq ?_
    refine W.region ?_
    refine WL.c rfl (o_ash (show _ = Value.int _ _ from rfl) ?_)
    refine WL.nil ?_
    refine W.block ?_
    refine W.loop (fun e w => ∃ (D S : List Nat) (A : List Mk) (NU : List Nat) (ov cv : Value), D.length ≤ t.flat.length ∧ e 1 = (v2) ∧ e 5 = (nv) ∧ e 6 = (Value.slice (some ⟨b6, 0, none⟩) t.flat.length t.flat.length) ∧ e 7 = (Value.slice (some ⟨b7, 0, none⟩) t.flat.length t.flat.length) ∧ e 11 = (.pointer (some ⟨p, 0, none⟩)) ∧ e 12 = (Value.slice (some ⟨b12, 0, none⟩) t.flat.length t.flat.length) ∧ e 13 = ov ∧ e 14 = .int .i64 (D.length : Int) ∧ OrdS t D S A ∧ NU.length = t.flat.length ∧ (∀ (m x : Nat), D[m]? = some x → NU[x]? = some m) ∧ w.ownsRow w0.heap.size 69 3 nv t.flat.length (nds t.flat) ∧ w.ownsRow b6 3 1 (Value.slice (some ⟨b6, 0, none⟩) t.flat.length t.flat.length) t.flat.length (ints PA) ∧ w.ownsRow b7 3 1 (Value.slice (some ⟨b7, 0, none⟩) t.flat.length t.flat.length) t.flat.length (ints KA) ∧ w.ownsRow b12 3 1 (Value.slice (some ⟨b12, 0, none⟩) t.flat.length t.flat.length) t.flat.length (ints NU) ∧ w.ownsRow (b12 + 1) 3 1 (ov) (S).length (ints (S)) ∧ ArM w BA p mb cv A ∧ Ext w0 w) (fun e w => t.flat.length - (intOf (e 14)).toNat) ?_ ?_
    · exact ⟨[], [0], [], _, _, _, Nat.zero_le _, h1, h5, h6, h7, rfl, rfl, rfl, rfl, OrdS.start t, by simp, fun m x h => by simp at h, hv, hpa, hka, hnu, hop, hA, hx⟩
    rintro e w ⟨D, S, A, NU, ov, cv, hDl, h1, h5, h6, h7, h11, h12, h13, h14, hord, hNl, hNU, hv, hpa, hka, hnu, hop, hA, hx⟩
    have hm14 := h14
    have hPl := hWr.1
    have hKl := hWr.2.1
    have hbd := hord.bound
    refine W.seq ?_
    refine W.seq ?_
    refine W.region ?_
    refine WL.c rfl (o_mvh h14 ?_)
    refine WL.c rfl (o_mvh h5 ?_)
    refine WL.c rfl (o_lenR TI30 rfl (Sl.own hv) ?_)
    refine WL.c rfl (o_lt rfl rfl ?_)
    refine WL.nil ?_
    refine W.cond rfl (fun c74 => ?_) (fun c74 => ?_)
    · try simp only [decide_eq_true_eq, decide_eq_false_iff_not, Bool.not_eq_true', Bool.not_eq_false', Bool.and_eq_true, Bool.or_eq_true, Bool.and_eq_false_iff, Bool.or_eq_false_iff] at c74
      have hlt : D.length < t.flat.length := by omega
      have hSp := hord.open_pos htw hlt
      refine W.skip ?_
      refine W.seq ?_
      refine W.block ?_
      refine W.seq ?_
      refine W.region ?_
      refine WL.c rfl (o_ash (show _ = Value.int _ _ from rfl) ?_)
      refine WL.nil ?_
      refine W.seq ?_
      refine W.seq ?_
      refine W.region ?_
      refine WL.c rfl (o_mvh h14 ?_)
      refine WL.c rfl (o_mvh h1 ?_)
      refine WL.c rfl (o_lenR TI75 rfl (hZ.ext hx) ?_)
      refine WL.c rfl (o_lt rfl rfl ?_)
      refine WL.nil ?_
      refine W.cut (fun e1 w1 => ∃ kq : Nat, kq < S.length ∧ e1 15 = .int .i64 (kq : Int) ∧ e1 1 = (v2) ∧ e1 5 = (nv) ∧ e1 6 = (Value.slice (some ⟨b6, 0, none⟩) t.flat.length t.flat.length) ∧ e1 7 = (Value.slice (some ⟨b7, 0, none⟩) t.flat.length t.flat.length) ∧ e1 11 = (.pointer (some ⟨p, 0, none⟩)) ∧ e1 12 = (Value.slice (some ⟨b12, 0, none⟩) t.flat.length t.flat.length) ∧ e1 13 = ov ∧ e1 14 = .int .i64 (D.length : Int) ∧ w1.ownsRow w0.heap.size 69 3 nv t.flat.length (nds t.flat) ∧ w1.ownsRow b6 3 1 (Value.slice (some ⟨b6, 0, none⟩) t.flat.length t.flat.length) t.flat.length (ints PA) ∧ w1.ownsRow b7 3 1 (Value.slice (some ⟨b7, 0, none⟩) t.flat.length t.flat.length) t.flat.length (ints KA) ∧ w1.ownsRow b12 3 1 (Value.slice (some ⟨b12, 0, none⟩) t.flat.length t.flat.length) t.flat.length (ints NU) ∧ w1.ownsRow (b12 + 1) 3 1 (ov) (S).length (ints (S)) ∧ ArM w1 BA p mb cv A ∧ Ext w0 w1) ?_ ?_
      · -- both ways
        refine W.cond rfl (fun c80 => ?_) (fun c80 => ?_)
        · try simp only [decide_eq_true_eq, decide_eq_false_iff_not, Bool.not_eq_true', Bool.not_eq_false', Bool.and_eq_true, Bool.or_eq_true, Bool.and_eq_false_iff, Bool.or_eq_false_iff] at c80
          have hi1 : D.length < zs.length := by omega
          obtain ⟨zb, zo, zc, hz, hzc⟩ := Sl.zat (hZ.ext hx) hi1
          rw [hz] at h1
          refine W.region ?_
          refine WL.c rfl (o_mvh h1 ?_)
          refine WL.c rfl (o_mvh h14 ?_)
          refine WL.c rfl (o_ixB (i := D.length) TI75 TI3 (show _ = Value.slice (some ⟨zb, zo, none⟩) zs.length zc from by first | rfl | assumption) (show _ = Value.int .i64 (D.length : Int) from by first | rfl | assumption) (by omega) ?_)
          refine WL.c rfl (o_ld TI3 rfl rfl hzc ?_)
          refine WL.c rfl (o_mvh h13 ?_)
          refine WL.c rfl (o_lenR TI75 rfl (Sl.own hop) ?_)
          refine WL.c rfl (o_subi rfl rfl (by omega) ?_)
          refine WL.c rfl (o_call Tryd.call28 (lc rfl (lc rfl (lc rfl ln))) ((rest_spec zs[D.length] 0 ((S.length : Int) - 1) _ (by omega) (by decide) (by omega)).mono ?_))
          rintro v88 w88 ⟨⟨q, rfl, hq0, hq1⟩, rfl⟩
          obtain ⟨kq, rfl⟩ : ∃ k : Nat, q = (k : Int) := ⟨q.toNat, by omega⟩
          refine WL.c rfl (o_ash (show _ = Value.int _ _ from rfl) ?_)
          refine WL.nil ?_
          first | exact ⟨kq, by omega, rfl, h1.trans hz.symm, h5, h6, h7, h11, h12, h13, h14, hv, hpa, hka, hnu, hop, hA, hx⟩ | exact ⟨0, hSp, rfl, h1, h5, h6, h7, h11, h12, h13, h14, hv, hpa, hka, hnu, hop, hA, hx⟩
        · try simp only [decide_eq_true_eq, decide_eq_false_iff_not, Bool.not_eq_true', Bool.not_eq_false', Bool.and_eq_true, Bool.or_eq_true, Bool.and_eq_false_iff, Bool.or_eq_false_iff] at c80
          refine W.skip ?_
          first | exact ⟨kq, by omega, rfl, h1.trans hz.symm, h5, h6, h7, h11, h12, h13, h14, hv, hpa, hka, hnu, hop, hA, hx⟩ | exact ⟨0, hSp, rfl, h1, h5, h6, h7, h11, h12, h13, h14, hv, hpa, hka, hnu, hop, hA, hx⟩
      rintro e w ⟨kq, hkS, h15, h1, h5, h6, h7, h11, h12, h13, h14, hv, hpa, hka, hnu, hop, hA, hx⟩
      refine W.seq ?_
      obtain ⟨ob, oc, rfl, hob⟩ := own_some hop hSp
      have hoc : S.length ≤ oc := by obtain ⟨a, c, h1, h2⟩ := own_form hop; cases h1; exact h2
      have hxl : S[kq] < t.flat.length := hord.lt _ (List.mem_append_right _ (List.getElem_mem hkS))
      refine W.region ?_
      refine WL.c rfl (o_mvh h13 ?_)
      refine WL.c rfl (o_mvh h15 ?_)
      refine WL.c rfl (o_ixB (i := kq) TI75 TI3 (show _ = Value.slice (some ⟨ob, 0, none⟩) S.length oc from by first | rfl | assumption) (show _ = Value.int .i64 (kq : Int) from by first | rfl | assumption) (by omega) ?_)
      refine WL.c rfl (o_ld TI3 rfl rfl (own_cell (j := 0 + kq * 1) hop (by rw [Nat.zero_add, Nat.mul_one]; exact ints_cell2 (List.getElem?_eq_getElem hkS))) ?_)
      refine WL.c rfl (o_ash (show _ = Value.int _ _ from rfl) ?_)
      refine WL.nil ?_
      refine W.seq ?_
      obtain ⟨wd, hwd⟩ : ∃ wd, wd = w.drew := ⟨_, rfl⟩
      have hxd : Ext w wd := hwd ▸ Only.drew w
      replace hx := hx.tr hxd
      replace hv := own_ext hv hxd
      replace hpa := own_ext hpa hxd
      replace hka := own_ext hka hxd
      replace hnu := own_ext hnu hxd
      replace hop := own_ext hop hxd
      replace hA := hA.ext hxd
      have hwz : b12 + 1 ≤ wd.heap.size := by have := (hop.lt ob rfl); omega
      refine W.states (fun kS e w => match kS with | 0 => e 1 = (v2) ∧ e 5 = (nv) ∧ e 6 = (Value.slice (some ⟨b6, 0, none⟩) t.flat.length t.flat.length) ∧ e 7 = (Value.slice (some ⟨b7, 0, none⟩) t.flat.length t.flat.length) ∧ e 11 = (.pointer (some ⟨p, 0, none⟩)) ∧ e 12 = (Value.slice (some ⟨b12, 0, none⟩) t.flat.length t.flat.length) ∧ e 14 = (.int .i64 (D.length : Int)) ∧ e 15 = (.int .i64 (kq : Int)) ∧ e 16 = (.int .i64 (S[kq] : Int)) ∧ e 13 = (Value.slice (some ⟨ob, 0, none⟩) S.length oc) ∧ Ext wd w | 1 => e 1 = (v2) ∧ e 5 = (nv) ∧ e 6 = (Value.slice (some ⟨b6, 0, none⟩) t.flat.length t.flat.length) ∧ e 7 = (Value.slice (some ⟨b7, 0, none⟩) t.flat.length t.flat.length) ∧ e 11 = (.pointer (some ⟨p, 0, none⟩)) ∧ e 12 = (Value.slice (some ⟨b12, 0, none⟩) t.flat.length t.flat.length) ∧ e 14 = (.int .i64 (D.length : Int)) ∧ e 15 = (.int .i64 (kq : Int)) ∧ e 16 = (.int .i64 (S[kq] : Int)) ∧ e 93 = (Value.slice (some ⟨ob, 0, none⟩) S.length oc) ∧ e 13 = (Value.slice (some ⟨ob, 0, none⟩) S.length oc) ∧ Ext wd w | 2 => e 1 = (v2) ∧ e 5 = (nv) ∧ e 6 = (Value.slice (some ⟨b6, 0, none⟩) t.flat.length t.flat.length) ∧ e 7 = (Value.slice (some ⟨b7, 0, none⟩) t.flat.length t.flat.length) ∧ e 11 = (.pointer (some ⟨p, 0, none⟩)) ∧ e 12 = (Value.slice (some ⟨b12, 0, none⟩) t.flat.length t.flat.length) ∧ e 14 = (.int .i64 (D.length : Int)) ∧ e 15 = (.int .i64 (kq : Int)) ∧ e 16 = (.int .i64 (S[kq] : Int)) ∧ e 94 = (.int .i64 (kq : Int)) ∧ e 13 = (Value.slice (some ⟨ob, 0, none⟩) S.length oc) ∧ Ext wd w | 3 => e 1 = (v2) ∧ e 5 = (nv) ∧ e 6 = (Value.slice (some ⟨b6, 0, none⟩) t.flat.length t.flat.length) ∧ e 7 = (Value.slice (some ⟨b7, 0, none⟩) t.flat.length t.flat.length) ∧ e 11 = (.pointer (some ⟨p, 0, none⟩)) ∧ e 12 = (Value.slice (some ⟨b12, 0, none⟩) t.flat.length t.flat.length) ∧ e 14 = (.int .i64 (D.length : Int)) ∧ e 15 = (.int .i64 (kq : Int)) ∧ e 16 = (.int .i64 (S[kq] : Int)) ∧ e 97 = (Value.slice (some ⟨ob, 0, none⟩) S.length oc) ∧ e 13 = (Value.slice (some ⟨ob, 0, none⟩) S.length oc) ∧ Ext wd w | 4 => e 1 = (v2) ∧ e 5 = (nv) ∧ e 6 = (Value.slice (some ⟨b6, 0, none⟩) t.flat.length t.flat.length) ∧ e 7 = (Value.slice (some ⟨b7, 0, none⟩) t.flat.length t.flat.length) ∧ e 11 = (.pointer (some ⟨p, 0, none⟩)) ∧ e 12 = (Value.slice (some ⟨b12, 0, none⟩) t.flat.length t.flat.length) ∧ e 14 = (.int .i64 (D.length : Int)) ∧ e 15 = (.int .i64 (kq : Int)) ∧ e 16 = (.int .i64 (S[kq] : Int)) ∧ e 98 = (.int .i64 (kq : Int)) ∧ e 13 = (Value.slice (some ⟨ob, 0, none⟩) S.length oc) ∧ Ext wd w | 5 => e 1 = (v2) ∧ e 5 = (nv) ∧ e 6 = (Value.slice (some ⟨b6, 0, none⟩) t.flat.length t.flat.length) ∧ e 7 = (Value.slice (some ⟨b7, 0, none⟩) t.flat.length t.flat.length) ∧ e 11 = (.pointer (some ⟨p, 0, none⟩)) ∧ e 12 = (Value.slice (some ⟨b12, 0, none⟩) t.flat.length t.flat.length) ∧ e 14 = (.int .i64 (D.length : Int)) ∧ e 15 = (.int .i64 (kq : Int)) ∧ e 16 = (.int .i64 (S[kq] : Int)) ∧ e 93 = (Value.slice (some ⟨ob, 0, none⟩) S.length oc) ∧ e 94 = (.int .i64 (kq : Int)) ∧ e 13 = (Value.slice (some ⟨ob, 0, none⟩) S.length oc) ∧ Ext wd w | 6 => e 1 = (v2) ∧ e 5 = (nv) ∧ e 6 = (Value.slice (some ⟨b6, 0, none⟩) t.flat.length t.flat.length) ∧ e 7 = (Value.slice (some ⟨b7, 0, none⟩) t.flat.length t.flat.length) ∧ e 11 = (.pointer (some ⟨p, 0, none⟩)) ∧ e 12 = (Value.slice (some ⟨b12, 0, none⟩) t.flat.length t.flat.length) ∧ e 14 = (.int .i64 (D.length : Int)) ∧ e 15 = (.int .i64 (kq : Int)) ∧ e 16 = (.int .i64 (S[kq] : Int)) ∧ e 93 = (Value.slice (some ⟨ob, 0, none⟩) S.length oc) ∧ e 97 = (Value.slice (some ⟨ob, 0, none⟩) S.length oc) ∧ e 13 = (Value.slice (some ⟨ob, 0, none⟩) S.length oc) ∧ Ext wd w | 7 => e 1 = (v2) ∧ e 5 = (nv) ∧ e 6 = (Value.slice (some ⟨b6, 0, none⟩) t.flat.length t.flat.length) ∧ e 7 = (Value.slice (some ⟨b7, 0, none⟩) t.flat.length t.flat.length) ∧ e 11 = (.pointer (some ⟨p, 0, none⟩)) ∧ e 12 = (Value.slice (some ⟨b12, 0, none⟩) t.flat.length t.flat.length) ∧ e 14 = (.int .i64 (D.length : Int)) ∧ e 15 = (.int .i64 (kq : Int)) ∧ e 16 = (.int .i64 (S[kq] : Int)) ∧ e 93 = (Value.slice (some ⟨ob, 0, none⟩) S.length oc) ∧ e 98 = (.int .i64 (kq : Int)) ∧ e 13 = (Value.slice (some ⟨ob, 0, none⟩) S.length oc) ∧ Ext wd w | 8 => e 1 = (v2) ∧ e 5 = (nv) ∧ e 6 = (Value.slice (some ⟨b6, 0, none⟩) t.flat.length t.flat.length) ∧ e 7 = (Value.slice (some ⟨b7, 0, none⟩) t.flat.length t.flat.length) ∧ e 11 = (.pointer (some ⟨p, 0, none⟩)) ∧ e 12 = (Value.slice (some ⟨b12, 0, none⟩) t.flat.length t.flat.length) ∧ e 14 = (.int .i64 (D.length : Int)) ∧ e 15 = (.int .i64 (kq : Int)) ∧ e 16 = (.int .i64 (S[kq] : Int)) ∧ e 94 = (.int .i64 (kq : Int)) ∧ e 97 = (Value.slice (some ⟨ob, 0, none⟩) S.length oc) ∧ e 13 = (Value.slice (some ⟨ob, 0, none⟩) S.length oc) ∧ Ext wd w | 9 => e 1 = (v2) ∧ e 5 = (nv) ∧ e 6 = (Value.slice (some ⟨b6, 0, none⟩) t.flat.length t.flat.length) ∧ e 7 = (Value.slice (some ⟨b7, 0, none⟩) t.flat.length t.flat.length) ∧ e 11 = (.pointer (some ⟨p, 0, none⟩)) ∧ e 12 = (Value.slice (some ⟨b12, 0, none⟩) t.flat.length t.flat.length) ∧ e 14 = (.int .i64 (D.length : Int)) ∧ e 15 = (.int .i64 (kq : Int)) ∧ e 16 = (.int .i64 (S[kq] : Int)) ∧ e 94 = (.int .i64 (kq : Int)) ∧ e 98 = (.int .i64 (kq : Int)) ∧ e 13 = (Value.slice (some ⟨ob, 0, none⟩) S.length oc) ∧ Ext wd w | 10 => e 1 = (v2) ∧ e 5 = (nv) ∧ e 6 = (Value.slice (some ⟨b6, 0, none⟩) t.flat.length t.flat.length) ∧ e 7 = (Value.slice (some ⟨b7, 0, none⟩) t.flat.length t.flat.length) ∧ e 11 = (.pointer (some ⟨p, 0, none⟩)) ∧ e 12 = (Value.slice (some ⟨b12, 0, none⟩) t.flat.length t.flat.length) ∧ e 14 = (.int .i64 (D.length : Int)) ∧ e 15 = (.int .i64 (kq : Int)) ∧ e 16 = (.int .i64 (S[kq] : Int)) ∧ e 97 = (Value.slice (some ⟨ob, 0, none⟩) S.length oc) ∧ e 98 = (.int .i64 (kq : Int)) ∧ e 13 = (Value.slice (some ⟨ob, 0, none⟩) S.length oc) ∧ Ext wd w | 11 => e 1 = (v2) ∧ e 5 = (nv) ∧ e 6 = (Value.slice (some ⟨b6, 0, none⟩) t.flat.length t.flat.length) ∧ e 7 = (Value.slice (some ⟨b7, 0, none⟩) t.flat.length t.flat.length) ∧ e 11 = (.pointer (some ⟨p, 0, none⟩)) ∧ e 12 = (Value.slice (some ⟨b12, 0, none⟩) t.flat.length t.flat.length) ∧ e 14 = (.int .i64 (D.length : Int)) ∧ e 15 = (.int .i64 (kq : Int)) ∧ e 16 = (.int .i64 (S[kq] : Int)) ∧ e 98 = (.int .i64 (kq : Int)) ∧ e 99 = (.int .i64 ((kq : Int) + 1)) ∧ e 13 = (Value.slice (some ⟨ob, 0, none⟩) S.length oc) ∧ Ext wd w | 12 => e 1 = (v2) ∧ e 5 = (nv) ∧ e 6 = (Value.slice (some ⟨b6, 0, none⟩) t.flat.length t.flat.length) ∧ e 7 = (Value.slice (some ⟨b7, 0, none⟩) t.flat.length t.flat.length) ∧ e 11 = (.pointer (some ⟨p, 0, none⟩)) ∧ e 12 = (Value.slice (some ⟨b12, 0, none⟩) t.flat.length t.flat.length) ∧ e 14 = (.int .i64 (D.length : Int)) ∧ e 15 = (.int .i64 (kq : Int)) ∧ e 16 = (.int .i64 (S[kq] : Int)) ∧ e 93 = (Value.slice (some ⟨ob, 0, none⟩) S.length oc) ∧ e 94 = (.int .i64 (kq : Int)) ∧ e 95 = (sliced (some ⟨ob, 0, none⟩) 0 kq oc 1) ∧ e 13 = (Value.slice (some ⟨ob, 0, none⟩) S.length oc) ∧ Ext wd w | 13 => e 1 = (v2) ∧ e 5 = (nv) ∧ e 6 = (Value.slice (some ⟨b6, 0, none⟩) t.flat.length t.flat.length) ∧ e 7 = (Value.slice (some ⟨b7, 0, none⟩) t.flat.length t.flat.length) ∧ e 11 = (.pointer (some ⟨p, 0, none⟩)) ∧ e 12 = (Value.slice (some ⟨b12, 0, none⟩) t.flat.length t.flat.length) ∧ e 14 = (.int .i64 (D.length : Int)) ∧ e 15 = (.int .i64 (kq : Int)) ∧ e 16 = (.int .i64 (S[kq] : Int)) ∧ e 93 = (Value.slice (some ⟨ob, 0, none⟩) S.length oc) ∧ e 94 = (.int .i64 (kq : Int)) ∧ e 97 = (Value.slice (some ⟨ob, 0, none⟩) S.length oc) ∧ e 13 = (Value.slice (some ⟨ob, 0, none⟩) S.length oc) ∧ Ext wd w | 14 => e 1 = (v2) ∧ e 5 = (nv) ∧ e 6 = (Value.slice (some ⟨b6, 0, none⟩) t.flat.length t.flat.length) ∧ e 7 = (Value.slice (some ⟨b7, 0, none⟩) t.flat.length t.flat.length) ∧ e 11 = (.pointer (some ⟨p, 0, none⟩)) ∧ e 12 = (Value.slice (some ⟨b12, 0, none⟩) t.flat.length t.flat.length) ∧ e 14 = (.int .i64 (D.length : Int)) ∧ e 15 = (.int .i64 (kq : Int)) ∧ e 16 = (.int .i64 (S[kq] : Int)) ∧ e 93 = (Value.slice (some ⟨ob, 0, none⟩) S.length oc) ∧ e 94 = (.int .i64 (kq : Int)) ∧ e 98 = (.int .i64 (kq : Int)) ∧ e 13 = (Value.slice (some ⟨ob, 0, none⟩) S.length oc) ∧ Ext wd w | 15 => e 1 = (v2) ∧ e 5 = (nv) ∧ e 6 = (Value.slice (some ⟨b6, 0, none⟩) t.flat.length t.flat.length) ∧ e 7 = (Value.slice (some ⟨b7, 0, none⟩) t.flat.length t.flat.length) ∧ e 11 = (.pointer (some ⟨p, 0, none⟩)) ∧ e 12 = (Value.slice (some ⟨b12, 0, none⟩) t.flat.length t.flat.length) ∧ e 14 = (.int .i64 (D.length : Int)) ∧ e 15 = (.int .i64 (kq : Int)) ∧ e 16 = (.int .i64 (S[kq] : Int)) ∧ e 93 = (Value.slice (some ⟨ob, 0, none⟩) S.length oc) ∧ e 97 = (Value.slice (some ⟨ob, 0, none⟩) S.length oc) ∧ e 98 = (.int .i64 (kq : Int)) ∧ e 13 = (Value.slice (some ⟨ob, 0, none⟩) S.length oc) ∧ Ext wd w | 16 => e 1 = (v2) ∧ e 5 = (nv) ∧ e 6 = (Value.slice (some ⟨b6, 0, none⟩) t.flat.length t.flat.length) ∧ e 7 = (Value.slice (some ⟨b7, 0, none⟩) t.flat.length t.flat.length) ∧ e 11 = (.pointer (some ⟨p, 0, none⟩)) ∧ e 12 = (Value.slice (some ⟨b12, 0, none⟩) t.flat.length t.flat.length) ∧ e 14 = (.int .i64 (D.length : Int)) ∧ e 15 = (.int .i64 (kq : Int)) ∧ e 16 = (.int .i64 (S[kq] : Int)) ∧ e 93 = (Value.slice (some ⟨ob, 0, none⟩) S.length oc) ∧ e 98 = (.int .i64 (kq : Int)) ∧ e 99 = (.int .i64 ((kq : Int) + 1)) ∧ e 13 = (Value.slice (some ⟨ob, 0, none⟩) S.length oc) ∧ Ext wd w | 17 => e 1 = (v2) ∧ e 5 = (nv) ∧ e 6 = (Value.slice (some ⟨b6, 0, none⟩) t.flat.length t.flat.length) ∧ e 7 = (Value.slice (some ⟨b7, 0, none⟩) t.flat.length t.flat.length) ∧ e 11 = (.pointer (some ⟨p, 0, none⟩)) ∧ e 12 = (Value.slice (some ⟨b12, 0, none⟩) t.flat.length t.flat.length) ∧ e 14 = (.int .i64 (D.length : Int)) ∧ e 15 = (.int .i64 (kq : Int)) ∧ e 16 = (.int .i64 (S[kq] : Int)) ∧ e 94 = (.int .i64 (kq : Int)) ∧ e 97 = (Value.slice (some ⟨ob, 0, none⟩) S.length oc) ∧ e 98 = (.int .i64 (kq : Int)) ∧ e 13 = (Value.slice (some ⟨ob, 0, none⟩) S.length oc) ∧ Ext wd w | 18 => e 1 = (v2) ∧ e 5 = (nv) ∧ e 6 = (Value.slice (some ⟨b6, 0, none⟩) t.flat.length t.flat.length) ∧ e 7 = (Value.slice (some ⟨b7, 0, none⟩) t.flat.length t.flat.length) ∧ e 11 = (.pointer (some ⟨p, 0, none⟩)) ∧ e 12 = (Value.slice (some ⟨b12, 0, none⟩) t.flat.length t.flat.length) ∧ e 14 = (.int .i64 (D.length : Int)) ∧ e 15 = (.int .i64 (kq : Int)) ∧ e 16 = (.int .i64 (S[kq] : Int)) ∧ e 94 = (.int .i64 (kq : Int)) ∧ e 98 = (.int .i64 (kq : Int)) ∧ e 99 = (.int .i64 ((kq : Int) + 1)) ∧ e 13 = (Value.slice (some ⟨ob, 0, none⟩) S.length oc) ∧ Ext wd w | 19 => e 1 = (v2) ∧ e 5 = (nv) ∧ e 6 = (Value.slice (some ⟨b6, 0, none⟩) t.flat.length t.flat.length) ∧ e 7 = (Value.slice (some ⟨b7, 0, none⟩) t.flat.length t.flat.length) ∧ e 11 = (.pointer (some ⟨p, 0, none⟩)) ∧ e 12 = (Value.slice (some ⟨b12, 0, none⟩) t.flat.length t.flat.length) ∧ e 14 = (.int .i64 (D.length : Int)) ∧ e 15 = (.int .i64 (kq : Int)) ∧ e 16 = (.int .i64 (S[kq] : Int)) ∧ e 97 = (Value.slice (some ⟨ob, 0, none⟩) S.length oc) ∧ e 98 = (.int .i64 (kq : Int)) ∧ e 99 = (.int .i64 ((kq : Int) + 1)) ∧ e 13 = (Value.slice (some ⟨ob, 0, none⟩) S.length oc) ∧ Ext wd w | 20 => e 1 = (v2) ∧ e 5 = (nv) ∧ e 6 = (Value.slice (some ⟨b6, 0, none⟩) t.flat.length t.flat.length) ∧ e 7 = (Value.slice (some ⟨b7, 0, none⟩) t.flat.length t.flat.length) ∧ e 11 = (.pointer (some ⟨p, 0, none⟩)) ∧ e 12 = (Value.slice (some ⟨b12, 0, none⟩) t.flat.length t.flat.length) ∧ e 14 = (.int .i64 (D.length : Int)) ∧ e 15 = (.int .i64 (kq : Int)) ∧ e 16 = (.int .i64 (S[kq] : Int)) ∧ e 93 = (Value.slice (some ⟨ob, 0, none⟩) S.length oc) ∧ e 94 = (.int .i64 (kq : Int)) ∧ e 95 = (sliced (some ⟨ob, 0, none⟩) 0 kq oc 1) ∧ e 13 = (Value.slice (some ⟨ob, 0, none⟩) S.length oc) ∧ Ext wd w ∧ w.ownsRow wd.heap.size 3 1 (e 96) (S.take kq).length (ints (S.take kq)) | 21 => e 1 = (v2) ∧ e 5 = (nv) ∧ e 6 = (Value.slice (some ⟨b6, 0, none⟩) t.flat.length t.flat.length) ∧ e 7 = (Value.slice (some ⟨b7, 0, none⟩) t.flat.length t.flat.length) ∧ e 11 = (.pointer (some ⟨p, 0, none⟩)) ∧ e 12 = (Value.slice (some ⟨b12, 0, none⟩) t.flat.length t.flat.length) ∧ e 14 = (.int .i64 (D.length : Int)) ∧ e 15 = (.int .i64 (kq : Int)) ∧ e 16 = (.int .i64 (S[kq] : Int)) ∧ e 93 = (Value.slice (some ⟨ob, 0, none⟩) S.length oc) ∧ e 94 = (.int .i64 (kq : Int)) ∧ e 95 = (sliced (some ⟨ob, 0, none⟩) 0 kq oc 1) ∧ e 97 = (Value.slice (some ⟨ob, 0, none⟩) S.length oc) ∧ e 13 = (Value.slice (some ⟨ob, 0, none⟩) S.length oc) ∧ Ext wd w | 22 => e 1 = (v2) ∧ e 5 = (nv) ∧ e 6 = (Value.slice (some ⟨b6, 0, none⟩) t.flat.length t.flat.length) ∧ e 7 = (Value.slice (some ⟨b7, 0, none⟩) t.flat.length t.flat.length) ∧ e 11 = (.pointer (some ⟨p, 0, none⟩)) ∧ e 12 = (Value.slice (some ⟨b12, 0, none⟩) t.flat.length t.flat.length) ∧ e 14 = (.int .i64 (D.length : Int)) ∧ e 15 = (.int .i64 (kq : Int)) ∧ e 16 = (.int .i64 (S[kq] : Int)) ∧ e 93 = (Value.slice (some ⟨ob, 0, none⟩) S.length oc) ∧ e 94 = (.int .i64 (kq : Int)) ∧ e 95 = (sliced (some ⟨ob, 0, none⟩) 0 kq oc 1) ∧ e 98 = (.int .i64 (kq : Int)) ∧ e 13 = (Value.slice (some ⟨ob, 0, none⟩) S.length oc) ∧ Ext wd w | 23 => e 1 = (v2) ∧ e 5 = (nv) ∧ e 6 = (Value.slice (some ⟨b6, 0, none⟩) t.flat.length t.flat.length) ∧ e 7 = (Value.slice (some ⟨b7, 0, none⟩) t.flat.length t.flat.length) ∧ e 11 = (.pointer (some ⟨p, 0, none⟩)) ∧ e 12 = (Value.slice (some ⟨b12, 0, none⟩) t.flat.length t.flat.length) ∧ e 14 = (.int .i64 (D.length : Int)) ∧ e 15 = (.int .i64 (kq : Int)) ∧ e 16 = (.int .i64 (S[kq] : Int)) ∧ e 93 = (Value.slice (some ⟨ob, 0, none⟩) S.length oc) ∧ e 94 = (.int .i64 (kq : Int)) ∧ e 97 = (Value.slice (some ⟨ob, 0, none⟩) S.length oc) ∧ e 98 = (.int .i64 (kq : Int)) ∧ e 13 = (Value.slice (some ⟨ob, 0, none⟩) S.length oc) ∧ Ext wd w | 24 => e 1 = (v2) ∧ e 5 = (nv) ∧ e 6 = (Value.slice (some ⟨b6, 0, none⟩) t.flat.length t.flat.length) ∧ e 7 = (Value.slice (some ⟨b7, 0, none⟩) t.flat.length t.flat.length) ∧ e 11 = (.pointer (some ⟨p, 0, none⟩)) ∧ e 12 = (Value.slice (some ⟨b12, 0, none⟩) t.flat.length t.flat.length) ∧ e 14 = (.int .i64 (D.length : Int)) ∧ e 15 = (.int .i64 (kq : Int)) ∧ e 16 = (.int .i64 (S[kq] : Int)) ∧ e 93 = (Value.slice (some ⟨ob, 0, none⟩) S.length oc) ∧ e 94 = (.int .i64 (kq : Int)) ∧ e 98 = (.int .i64 (kq : Int)) ∧ e 99 = (.int .i64 ((kq : Int) + 1)) ∧ e 13 = (Value.slice (some ⟨ob, 0, none⟩) S.length oc) ∧ Ext wd w | 25 => e 1 = (v2) ∧ e 5 = (nv) ∧ e 6 = (Value.slice (some ⟨b6, 0, none⟩) t.flat.length t.flat.length) ∧ e 7 = (Value.slice (some ⟨b7, 0, none⟩) t.flat.length t.flat.length) ∧ e 11 = (.pointer (some ⟨p, 0, none⟩)) ∧ e 12 = (Value.slice (some ⟨b12, 0, none⟩) t.flat.length t.flat.length) ∧ e 14 = (.int .i64 (D.length : Int)) ∧ e 15 = (.int .i64 (kq : Int)) ∧ e 16 = (.int .i64 (S[kq] : Int)) ∧ e 93 = (Value.slice (some ⟨ob, 0, none⟩) S.length oc) ∧ e 97 = (Value.slice (some ⟨ob, 0, none⟩) S.length oc) ∧ e 98 = (.int .i64 (kq : Int)) ∧ e 99 = (.int .i64 ((kq : Int) + 1)) ∧ e 13 = (Value.slice (some ⟨ob, 0, none⟩) S.length oc) ∧ Ext wd w | 26 => e 1 = (v2) ∧ e 5 = (nv) ∧ e 6 = (Value.slice (some ⟨b6, 0, none⟩) t.flat.length t.flat.length) ∧ e 7 = (Value.slice (some ⟨b7, 0, none⟩) t.flat.length t.flat.length) ∧ e 11 = (.pointer (some ⟨p, 0, none⟩)) ∧ e 12 = (Value.slice (some ⟨b12, 0, none⟩) t.flat.length t.flat.length) ∧ e 14 = (.int .i64 (D.length : Int)) ∧ e 15 = (.int .i64 (kq : Int)) ∧ e 16 = (.int .i64 (S[kq] : Int)) ∧ e 94 = (.int .i64 (kq : Int)) ∧ e 97 = (Value.slice (some ⟨ob, 0, none⟩) S.length oc) ∧ e 98 = (.int .i64 (kq : Int)) ∧ e 99 = (.int .i64 ((kq : Int) + 1)) ∧ e 13 = (Value.slice (some ⟨ob, 0, none⟩) S.length oc) ∧ Ext wd w | 27 => e 1 = (v2) ∧ e 5 = (nv) ∧ e 6 = (Value.slice (some ⟨b6, 0, none⟩) t.flat.length t.flat.length) ∧ e 7 = (Value.slice (some ⟨b7, 0, none⟩) t.flat.length t.flat.length) ∧ e 11 = (.pointer (some ⟨p, 0, none⟩)) ∧ e 12 = (Value.slice (some ⟨b12, 0, none⟩) t.flat.length t.flat.length) ∧ e 14 = (.int .i64 (D.length : Int)) ∧ e 15 = (.int .i64 (kq : Int)) ∧ e 16 = (.int .i64 (S[kq] : Int)) ∧ e 97 = (Value.slice (some ⟨ob, 0, none⟩) S.length oc) ∧ e 98 = (.int .i64 (kq : Int)) ∧ e 99 = (.int .i64 ((kq : Int) + 1)) ∧ e 100 = (sliced (some ⟨ob, 0, none⟩) (kq + 1) S.length oc 1) ∧ e 13 = (Value.slice (some ⟨ob, 0, none⟩) S.length oc) ∧ Ext wd w | 28 => e 1 = (v2) ∧ e 5 = (nv) ∧ e 6 = (Value.slice (some ⟨b6, 0, none⟩) t.flat.length t.flat.length) ∧ e 7 = (Value.slice (some ⟨b7, 0, none⟩) t.flat.length t.flat.length) ∧ e 11 = (.pointer (some ⟨p, 0, none⟩)) ∧ e 12 = (Value.slice (some ⟨b12, 0, none⟩) t.flat.length t.flat.length) ∧ e 14 = (.int .i64 (D.length : Int)) ∧ e 15 = (.int .i64 (kq : Int)) ∧ e 16 = (.int .i64 (S[kq] : Int)) ∧ e 93 = (Value.slice (some ⟨ob, 0, none⟩) S.length oc) ∧ e 94 = (.int .i64 (kq : Int)) ∧ e 95 = (sliced (some ⟨ob, 0, none⟩) 0 kq oc 1) ∧ e 97 = (Value.slice (some ⟨ob, 0, none⟩) S.length oc) ∧ e 13 = (Value.slice (some ⟨ob, 0, none⟩) S.length oc) ∧ Ext wd w ∧ w.ownsRow wd.heap.size 3 1 (e 96) (S.take kq).length (ints (S.take kq)) | 29 => e 1 = (v2) ∧ e 5 = (nv) ∧ e 6 = (Value.slice (some ⟨b6, 0, none⟩) t.flat.length t.flat.length) ∧ e 7 = (Value.slice (some ⟨b7, 0, none⟩) t.flat.length t.flat.length) ∧ e 11 = (.pointer (some ⟨p, 0, none⟩)) ∧ e 12 = (Value.slice (some ⟨b12, 0, none⟩) t.flat.length t.flat.length) ∧ e 14 = (.int .i64 (D.length : Int)) ∧ e 15 = (.int .i64 (kq : Int)) ∧ e 16 = (.int .i64 (S[kq] : Int)) ∧ e 93 = (Value.slice (some ⟨ob, 0, none⟩) S.length oc) ∧ e 94 = (.int .i64 (kq : Int)) ∧ e 95 = (sliced (some ⟨ob, 0, none⟩) 0 kq oc 1) ∧ e 98 = (.int .i64 (kq : Int)) ∧ e 13 = (Value.slice (some ⟨ob, 0, none⟩) S.length oc) ∧ Ext wd w ∧ w.ownsRow wd.heap.size 3 1 (e 96) (S.take kq).length (ints (S.take kq)) | 30 => e 1 = (v2) ∧ e 5 = (nv) ∧ e 6 = (Value.slice (some ⟨b6, 0, none⟩) t.flat.length t.flat.length) ∧ e 7 = (Value.slice (some ⟨b7, 0, none⟩) t.flat.length t.flat.length) ∧ e 11 = (.pointer (some ⟨p, 0, none⟩)) ∧ e 12 = (Value.slice (some ⟨b12, 0, none⟩) t.flat.length t.flat.length) ∧ e 14 = (.int .i64 (D.length : Int)) ∧ e 15 = (.int .i64 (kq : Int)) ∧ e 16 = (.int .i64 (S[kq] : Int)) ∧ e 93 = (Value.slice (some ⟨ob, 0, none⟩) S.length oc) ∧ e 94 = (.int .i64 (kq : Int)) ∧ e 95 = (sliced (some ⟨ob, 0, none⟩) 0 kq oc 1) ∧ e 97 = (Value.slice (some ⟨ob, 0, none⟩) S.length oc) ∧ e 98 = (.int .i64 (kq : Int)) ∧ e 13 = (Value.slice (some ⟨ob, 0, none⟩) S.length oc) ∧ Ext wd w | 31 => e 1 = (v2) ∧ e 5 = (nv) ∧ e 6 = (Value.slice (some ⟨b6, 0, none⟩) t.flat.length t.flat.length) ∧ e 7 = (Value.slice (some ⟨b7, 0, none⟩) t.flat.length t.flat.length) ∧ e 11 = (.pointer (some ⟨p, 0, none⟩)) ∧ e 12 = (Value.slice (some ⟨b12, 0, none⟩) t.flat.length t.flat.length) ∧ e 14 = (.int .i64 (D.length : Int)) ∧ e 15 = (.int .i64 (kq : Int)) ∧ e 16 = (.int .i64 (S[kq] : Int)) ∧ e 93 = (Value.slice (some ⟨ob, 0, none⟩) S.length oc) ∧ e 94 = (.int .i64 (kq : Int)) ∧ e 95 = (sliced (some ⟨ob, 0, none⟩) 0 kq oc 1) ∧ e 98 = (.int .i64 (kq : Int)) ∧ e 99 = (.int .i64 ((kq : Int) + 1)) ∧ e 13 = (Value.slice (some ⟨ob, 0, none⟩) S.length oc) ∧ Ext wd w | 32 => e 1 = (v2) ∧ e 5 = (nv) ∧ e 6 = (Value.slice (some ⟨b6, 0, none⟩) t.flat.length t.flat.length) ∧ e 7 = (Value.slice (some ⟨b7, 0, none⟩) t.flat.length t.flat.length) ∧ e 11 = (.pointer (some ⟨p, 0, none⟩)) ∧ e 12 = (Value.slice (some ⟨b12, 0, none⟩) t.flat.length t.flat.length) ∧ e 14 = (.int .i64 (D.length : Int)) ∧ e 15 = (.int .i64 (kq : Int)) ∧ e 16 = (.int .i64 (S[kq] : Int)) ∧ e 93 = (Value.slice (some ⟨ob, 0, none⟩) S.length oc) ∧ e 94 = (.int .i64 (kq : Int)) ∧ e 97 = (Value.slice (some ⟨ob, 0, none⟩) S.length oc) ∧ e 98 = (.int .i64 (kq : Int)) ∧ e 99 = (.int .i64 ((kq : Int) + 1)) ∧ e 13 = (Value.slice (some ⟨ob, 0, none⟩) S.length oc) ∧ Ext wd w | 33 => e 1 = (v2) ∧ e 5 = (nv) ∧ e 6 = (Value.slice (some ⟨b6, 0, none⟩) t.flat.length t.flat.length) ∧ e 7 = (Value.slice (some ⟨b7, 0, none⟩) t.flat.length t.flat.length) ∧ e 11 = (.pointer (some ⟨p, 0, none⟩)) ∧ e 12 = (Value.slice (some ⟨b12, 0, none⟩) t.flat.length t.flat.length) ∧ e 14 = (.int .i64 (D.length : Int)) ∧ e 15 = (.int .i64 (kq : Int)) ∧ e 16 = (.int .i64 (S[kq] : Int)) ∧ e 93 = (Value.slice (some ⟨ob, 0, none⟩) S.length oc) ∧ e 97 = (Value.slice (some ⟨ob, 0, none⟩) S.length oc) ∧ e 98 = (.int .i64 (kq : Int)) ∧ e 99 = (.int .i64 ((kq : Int) + 1)) ∧ e 100 = (sliced (some ⟨ob, 0, none⟩) (kq + 1) S.length oc 1) ∧ e 13 = (Value.slice (some ⟨ob, 0, none⟩) S.length oc) ∧ Ext wd w | 34 => e 1 = (v2) ∧ e 5 = (nv) ∧ e 6 = (Value.slice (some ⟨b6, 0, none⟩) t.flat.length t.flat.length) ∧ e 7 = (Value.slice (some ⟨b7, 0, none⟩) t.flat.length t.flat.length) ∧ e 11 = (.pointer (some ⟨p, 0, none⟩)) ∧ e 12 = (Value.slice (some ⟨b12, 0, none⟩) t.flat.length t.flat.length) ∧ e 14 = (.int .i64 (D.length : Int)) ∧ e 15 = (.int .i64 (kq : Int)) ∧ e 16 = (.int .i64 (S[kq] : Int)) ∧ e 94 = (.int .i64 (kq : Int)) ∧ e 97 = (Value.slice (some ⟨ob, 0, none⟩) S.length oc) ∧ e 98 = (.int .i64 (kq : Int)) ∧ e 99 = (.int .i64 ((kq : Int) + 1)) ∧ e 100 = (sliced (some ⟨ob, 0, none⟩) (kq + 1) S.length oc 1) ∧ e 13 = (Value.slice (some ⟨ob, 0, none⟩) S.length oc) ∧ Ext wd w | 35 => e 1 = (v2) ∧ e 5 = (nv) ∧ e 6 = (Value.slice (some ⟨b6, 0, none⟩) t.flat.length t.flat.length) ∧ e 7 = (Value.slice (some ⟨b7, 0, none⟩) t.flat.length t.flat.length) ∧ e 11 = (.pointer (some ⟨p, 0, none⟩)) ∧ e 12 = (Value.slice (some ⟨b12, 0, none⟩) t.flat.length t.flat.length) ∧ e 14 = (.int .i64 (D.length : Int)) ∧ e 15 = (.int .i64 (kq : Int)) ∧ e 16 = (.int .i64 (S[kq] : Int)) ∧ e 93 = (Value.slice (some ⟨ob, 0, none⟩) S.length oc) ∧ e 94 = (.int .i64 (kq : Int)) ∧ e 95 = (sliced (some ⟨ob, 0, none⟩) 0 kq oc 1) ∧ e 97 = (Value.slice (some ⟨ob, 0, none⟩) S.length oc) ∧ e 98 = (.int .i64 (kq : Int)) ∧ e 13 = (Value.slice (some ⟨ob, 0, none⟩) S.length oc) ∧ Ext wd w ∧ w.ownsRow wd.heap.size 3 1 (e 96) (S.take kq).length (ints (S.take kq)) | 36 => e 1 = (v2) ∧ e 5 = (nv) ∧ e 6 = (Value.slice (some ⟨b6, 0, none⟩) t.flat.length t.flat.length) ∧ e 7 = (Value.slice (some ⟨b7, 0, none⟩) t.flat.length t.flat.length) ∧ e 11 = (.pointer (some ⟨p, 0, none⟩)) ∧ e 12 = (Value.slice (some ⟨b12, 0, none⟩) t.flat.length t.flat.length) ∧ e 14 = (.int .i64 (D.length : Int)) ∧ e 15 = (.int .i64 (kq : Int)) ∧ e 16 = (.int .i64 (S[kq] : Int)) ∧ e 93 = (Value.slice (some ⟨ob, 0, none⟩) S.length oc) ∧ e 94 = (.int .i64 (kq : Int)) ∧ e 95 = (sliced (some ⟨ob, 0, none⟩) 0 kq oc 1) ∧ e 98 = (.int .i64 (kq : Int)) ∧ e 99 = (.int .i64 ((kq : Int) + 1)) ∧ e 13 = (Value.slice (some ⟨ob, 0, none⟩) S.length oc) ∧ Ext wd w ∧ w.ownsRow wd.heap.size 3 1 (e 96) (S.take kq).length (ints (S.take kq)) | 37 => e 1 = (v2) ∧ e 5 = (nv) ∧ e 6 = (Value.slice (some ⟨b6, 0, none⟩) t.flat.length t.flat.length) ∧ e 7 = (Value.slice (some ⟨b7, 0, none⟩) t.flat.length t.flat.length) ∧ e 11 = (.pointer (some ⟨p, 0, none⟩)) ∧ e 12 = (Value.slice (some ⟨b12, 0, none⟩) t.flat.length t.flat.length) ∧ e 14 = (.int .i64 (D.length : Int)) ∧ e 15 = (.int .i64 (kq : Int)) ∧ e 16 = (.int .i64 (S[kq] : Int)) ∧ e 93 = (Value.slice (some ⟨ob, 0, none⟩) S.length oc) ∧ e 94 = (.int .i64 (kq : Int)) ∧ e 95 = (sliced (some ⟨ob, 0, none⟩) 0 kq oc 1) ∧ e 97 = (Value.slice (some ⟨ob, 0, none⟩) S.length oc) ∧ e 98 = (.int .i64 (kq : Int)) ∧ e 99 = (.int .i64 ((kq : Int) + 1)) ∧ e 13 = (Value.slice (some ⟨ob, 0, none⟩) S.length oc) ∧ Ext wd w | 38 => e 1 = (v2) ∧ e 5 = (nv) ∧ e 6 = (Value.slice (some ⟨b6, 0, none⟩) t.flat.length t.flat.length) ∧ e 7 = (Value.slice (some ⟨b7, 0, none⟩) t.flat.length t.flat.length) ∧ e 11 = (.pointer (some ⟨p, 0, none⟩)) ∧ e 12 = (Value.slice (some ⟨b12, 0, none⟩) t.flat.length t.flat.length) ∧ e 14 = (.int .i64 (D.length : Int)) ∧ e 15 = (.int .i64 (kq : Int)) ∧ e 16 = (.int .i64 (S[kq] : Int)) ∧ e 93 = (Value.slice (some ⟨ob, 0, none⟩) S.length oc) ∧ e 94 = (.int .i64 (kq : Int)) ∧ e 97 = (Value.slice (some ⟨ob, 0, none⟩) S.length oc) ∧ e 98 = (.int .i64 (kq : Int)) ∧ e 99 = (.int .i64 ((kq : Int) + 1)) ∧ e 100 = (sliced (some ⟨ob, 0, none⟩) (kq + 1) S.length oc 1) ∧ e 13 = (Value.slice (some ⟨ob, 0, none⟩) S.length oc) ∧ Ext wd w | 39 => e 1 = (v2) ∧ e 5 = (nv) ∧ e 6 = (Value.slice (some ⟨b6, 0, none⟩) t.flat.length t.flat.length) ∧ e 7 = (Value.slice (some ⟨b7, 0, none⟩) t.flat.length t.flat.length) ∧ e 11 = (.pointer (some ⟨p, 0, none⟩)) ∧ e 12 = (Value.slice (some ⟨b12, 0, none⟩) t.flat.length t.flat.length) ∧ e 14 = (.int .i64 (D.length : Int)) ∧ e 15 = (.int .i64 (kq : Int)) ∧ e 16 = (.int .i64 (S[kq] : Int)) ∧ e 93 = (Value.slice (some ⟨ob, 0, none⟩) S.length oc) ∧ e 94 = (.int .i64 (kq : Int)) ∧ e 95 = (sliced (some ⟨ob, 0, none⟩) 0 kq oc 1) ∧ e 97 = (Value.slice (some ⟨ob, 0, none⟩) S.length oc) ∧ e 98 = (.int .i64 (kq : Int)) ∧ e 99 = (.int .i64 ((kq : Int) + 1)) ∧ e 13 = (Value.slice (some ⟨ob, 0, none⟩) S.length oc) ∧ Ext wd w ∧ w.ownsRow wd.heap.size 3 1 (e 96) (S.take kq).length (ints (S.take kq)) | 40 => e 1 = (v2) ∧ e 5 = (nv) ∧ e 6 = (Value.slice (some ⟨b6, 0, none⟩) t.flat.length t.flat.length) ∧ e 7 = (Value.slice (some ⟨b7, 0, none⟩) t.flat.length t.flat.length) ∧ e 11 = (.pointer (some ⟨p, 0, none⟩)) ∧ e 12 = (Value.slice (some ⟨b12, 0, none⟩) t.flat.length t.flat.length) ∧ e 14 = (.int .i64 (D.length : Int)) ∧ e 15 = (.int .i64 (kq : Int)) ∧ e 16 = (.int .i64 (S[kq] : Int)) ∧ e 93 = (Value.slice (some ⟨ob, 0, none⟩) S.length oc) ∧ e 94 = (.int .i64 (kq : Int)) ∧ e 95 = (sliced (some ⟨ob, 0, none⟩) 0 kq oc 1) ∧ e 97 = (Value.slice (some ⟨ob, 0, none⟩) S.length oc) ∧ e 98 = (.int .i64 (kq : Int)) ∧ e 99 = (.int .i64 ((kq : Int) + 1)) ∧ e 100 = (sliced (some ⟨ob, 0, none⟩) (kq + 1) S.length oc 1) ∧ e 13 = (Value.slice (some ⟨ob, 0, none⟩) S.length oc) ∧ Ext wd w | 41 => e 1 = (v2) ∧ e 5 = (nv) ∧ e 6 = (Value.slice (some ⟨b6, 0, none⟩) t.flat.length t.flat.length) ∧ e 7 = (Value.slice (some ⟨b7, 0, none⟩) t.flat.length t.flat.length) ∧ e 11 = (.pointer (some ⟨p, 0, none⟩)) ∧ e 12 = (Value.slice (some ⟨b12, 0, none⟩) t.flat.length t.flat.length) ∧ e 14 = (.int .i64 (D.length : Int)) ∧ e 15 = (.int .i64 (kq : Int)) ∧ e 16 = (.int .i64 (S[kq] : Int)) ∧ e 93 = (Value.slice (some ⟨ob, 0, none⟩) S.length oc) ∧ e 94 = (.int .i64 (kq : Int)) ∧ e 95 = (sliced (some ⟨ob, 0, none⟩) 0 kq oc 1) ∧ e 97 = (Value.slice (some ⟨ob, 0, none⟩) S.length oc) ∧ e 98 = (.int .i64 (kq : Int)) ∧ e 99 = (.int .i64 ((kq : Int) + 1)) ∧ e 100 = (sliced (some ⟨ob, 0, none⟩) (kq + 1) S.length oc 1) ∧ e 13 = (Value.slice (some ⟨ob, 0, none⟩) S.length oc) ∧ Ext wd w ∧ w.ownsRow wd.heap.size 3 1 (e 96) (S.take kq).length (ints (S.take kq)) | 42 => e 1 = (v2) ∧ e 5 = (nv) ∧ e 6 = (Value.slice (some ⟨b6, 0, none⟩) t.flat.length t.flat.length) ∧ e 7 = (Value.slice (some ⟨b7, 0, none⟩) t.flat.length t.flat.length) ∧ e 11 = (.pointer (some ⟨p, 0, none⟩)) ∧ e 12 = (Value.slice (some ⟨b12, 0, none⟩) t.flat.length t.flat.length) ∧ e 14 = (.int .i64 (D.length : Int)) ∧ e 15 = (.int .i64 (kq : Int)) ∧ e 16 = (.int .i64 (S[kq] : Int)) ∧ e 93 = (Value.slice (some ⟨ob, 0, none⟩) S.length oc) ∧ e 94 = (.int .i64 (kq : Int)) ∧ e 95 = (sliced (some ⟨ob, 0, none⟩) 0 kq oc 1) ∧ e 97 = (Value.slice (some ⟨ob, 0, none⟩) S.length oc) ∧ e 98 = (.int .i64 (kq : Int)) ∧ e 99 = (.int .i64 ((kq : Int) + 1)) ∧ e 100 = (sliced (some ⟨ob, 0, none⟩) (kq + 1) S.length oc 1) ∧ e 13 = (Value.slice (some ⟨ob, 0, none⟩) S.length oc) ∧ Ext wd w ∧ w.ownsRow wd.heap.size 3 1 (e 101) (S.eraseIdx kq).length (ints (S.eraseIdx kq)) | 43 => e 1 = (v2) ∧ e 5 = (nv) ∧ e 6 = (Value.slice (some ⟨b6, 0, none⟩) t.flat.length t.flat.length) ∧ e 7 = (Value.slice (some ⟨b7, 0, none⟩) t.flat.length t.flat.length) ∧ e 11 = (.pointer (some ⟨p, 0, none⟩)) ∧ e 12 = (Value.slice (some ⟨b12, 0, none⟩) t.flat.length t.flat.length) ∧ e 14 = (.int .i64 (D.length : Int)) ∧ e 15 = (.int .i64 (kq : Int)) ∧ e 16 = (.int .i64 (S[kq] : Int)) ∧ e 93 = (Value.slice (some ⟨ob, 0, none⟩) S.length oc) ∧ e 94 = (.int .i64 (kq : Int)) ∧ e 95 = (sliced (some ⟨ob, 0, none⟩) 0 kq oc 1) ∧ e 97 = (Value.slice (some ⟨ob, 0, none⟩) S.length oc) ∧ e 98 = (.int .i64 (kq : Int)) ∧ e 99 = (.int .i64 ((kq : Int) + 1)) ∧ e 100 = (sliced (some ⟨ob, 0, none⟩) (kq + 1) S.length oc 1) ∧ Ext wd w ∧ w.ownsRow wd.heap.size 3 1 (e 13) (S.eraseIdx kq).length (ints (S.eraseIdx kq)) | _ => False) ([([false, false, false, false, false, false, false, false, false, false], [(0, 1), (1, 2), (4, 3), (5, 4)]), ([true, false, false, false, false, false, false, false, false, false], [(1, 5), (4, 6), (5, 7)]), ([false, true, false, false, false, false, false, false, false, false], [(0, 5), (4, 8), (5, 9)]), ([false, false, false, false, true, false, false, false, false, false], [(0, 6), (1, 8), (5, 10)]), ([false, false, false, false, false, true, false, false, false, false], [(0, 7), (1, 9), (4, 10), (6, 11)]), ([true, true, false, false, false, false, false, false, false, false], [(2, 12), (4, 13), (5, 14)]), ([true, false, false, false, true, false, false, false, false, false], [(1, 13), (5, 15)]), ([true, false, false, false, false, true, false, false, false, false], [(1, 14), (4, 15), (6, 16)]), ([false, true, false, false, true, false, false, false, false, false], [(0, 13), (5, 17)]), ([false, true, false, false, false, true, false, false, false, false], [(0, 14), (4, 17), (6, 18)]), ([false, false, false, false, true, true, false, false, false, false], [(0, 15), (1, 17), (6, 19)]), ([false, false, false, false, false, true, true, false, false, false], [(0, 16), (1, 18), (4, 19)]), ([true, true, true, false, false, false, false, false, false, false], [(3, 20), (4, 21), (5, 22)]), ([true, true, false, false, true, false, false, false, false, false], [(2, 21), (5, 23)]), ([true, true, false, false, false, true, false, false, false, false], [(2, 22), (4, 23), (6, 24)]), ([true, false, false, false, true, true, false, false, false, false], [(1, 23), (6, 25)]), ([true, false, false, false, false, true, true, false, false, false], [(1, 24), (4, 25)]), ([false, true, false, false, true, true, false, false, false, false], [(0, 23), (6, 26)]), ([false, true, false, false, false, true, true, false, false, false], [(0, 24), (4, 26)]), ([false, false, false, false, true, true, true, false, false, false], [(0, 25), (1, 26), (7, 27)]), ([true, true, true, true, false, false, false, false, false, false], [(4, 28), (5, 29)]), ([true, true, true, false, true, false, false, false, false, false], [(3, 28), (5, 30)]), ([true, true, true, false, false, true, false, false, false, false], [(3, 29), (4, 30), (6, 31)]), ([true, true, false, false, true, true, false, false, false, false], [(2, 30), (6, 32)]), ([true, true, false, false, false, true, true, false, false, false], [(2, 31), (4, 32)]), ([true, false, false, false, true, true, true, false, false, false], [(1, 32), (7, 33)]), ([false, true, false, false, true, true, true, false, false, false], [(0, 32), (7, 34)]), ([false, false, false, false, true, true, true, true, false, false], [(0, 33), (1, 34)]), ([true, true, true, true, true, false, false, false, false, false], [(5, 35)]), ([true, true, true, true, false, true, false, false, false, false], [(4, 35), (6, 36)]), ([true, true, true, false, true, true, false, false, false, false], [(3, 35), (6, 37)]), ([true, true, true, false, false, true, true, false, false, false], [(3, 36), (4, 37)]), ([true, true, false, false, true, true, true, false, false, false], [(2, 37), (7, 38)]), ([true, false, false, false, true, true, true, true, false, false], [(1, 38)]), ([false, true, false, false, true, true, true, true, false, false], [(0, 38)]), ([true, true, true, true, true, true, false, false, false, false], [(6, 39)]), ([true, true, true, true, false, true, true, false, false, false], [(4, 39)]), ([true, true, true, false, true, true, true, false, false, false], [(3, 39), (7, 40)]), ([true, true, false, false, true, true, true, true, false, false], [(2, 40)]), ([true, true, true, true, true, true, true, false, false, false], [(7, 41)]), ([true, true, true, false, true, true, true, true, false, false], [(3, 41)]), ([true, true, true, true, true, true, true, true, false, false], [(8, 42)]), ([true, true, true, true, true, true, true, true, true, false], [(9, 43)]), ([true, true, true, true, true, true, true, true, true, true], [])]) rfl (by kernel_rfl) rfl ⟨h1, h5, h6, h7, h11, h12, h14, h15, rfl, ⟨h13, hwd ▸ Only.refl No _⟩⟩ ?_
      refine ⟨?_, ?_, ?_, ?_, ?_, ?_, ?_, ?_, ?_, ?_, ?_, ?_, ?_, ?_, ?_, ?_, ?_, ?_, ?_, ?_, ?_, ?_, ?_, ?_, ?_, ?_, ?_, ?_, ?_, ?_, ?_, ?_, ?_, ?_, ?_, ?_, ?_, ?_, ?_, ?_, ?_, ?_, ?_, ?_, trivial⟩
      · -- state 0 of region 28
        rintro e w ⟨h1, h5, h6, h7, h11, h12, h14, h15, h16, h13, hR⟩
        refine ⟨?_, ?_, ?_, ?_, trivial⟩
        · skip
          refine WO.c rfl rfl (o_mvh h13 ?_)
          exact ⟨h1, h5, h6, h7, h11, h12, h14, h15, h16, rfl, h13, hR⟩
        · skip
          refine WO.c rfl rfl (o_mvh h15 ?_)
          exact ⟨h1, h5, h6, h7, h11, h12, h14, h15, h16, rfl, h13, hR⟩
        · skip
          refine WO.c rfl rfl (o_mvh h13 ?_)
          exact ⟨h1, h5, h6, h7, h11, h12, h14, h15, h16, rfl, h13, hR⟩
        · skip
          refine WO.c rfl rfl (o_mvh h15 ?_)
          exact ⟨h1, h5, h6, h7, h11, h12, h14, h15, h16, rfl, h13, hR⟩
      · -- state 1 of region 28
        rintro e w ⟨h1, h5, h6, h7, h11, h12, h14, h15, h16, h93, h13, hR⟩
        refine ⟨?_, ?_, ?_, trivial⟩
        · skip
          refine WO.c rfl rfl (o_mvh h15 ?_)
          exact ⟨h1, h5, h6, h7, h11, h12, h14, h15, h16, h93, rfl, h13, hR⟩
        · skip
          refine WO.c rfl rfl (o_mvh h13 ?_)
          exact ⟨h1, h5, h6, h7, h11, h12, h14, h15, h16, h93, rfl, h13, hR⟩
        · skip
          refine WO.c rfl rfl (o_mvh h15 ?_)
          exact ⟨h1, h5, h6, h7, h11, h12, h14, h15, h16, h93, rfl, h13, hR⟩
      · -- state 2 of region 28
        rintro e w ⟨h1, h5, h6, h7, h11, h12, h14, h15, h16, h94, h13, hR⟩
        refine ⟨?_, ?_, ?_, trivial⟩
        · skip
          refine WO.c rfl rfl (o_mvh h13 ?_)
          exact ⟨h1, h5, h6, h7, h11, h12, h14, h15, h16, rfl, h94, h13, hR⟩
        · skip
          refine WO.c rfl rfl (o_mvh h13 ?_)
          exact ⟨h1, h5, h6, h7, h11, h12, h14, h15, h16, h94, rfl, h13, hR⟩
        · skip
          refine WO.c rfl rfl (o_mvh h15 ?_)
          exact ⟨h1, h5, h6, h7, h11, h12, h14, h15, h16, h94, rfl, h13, hR⟩
      · -- state 3 of region 28
        rintro e w ⟨h1, h5, h6, h7, h11, h12, h14, h15, h16, h97, h13, hR⟩
        refine ⟨?_, ?_, ?_, trivial⟩
        · skip
          refine WO.c rfl rfl (o_mvh h13 ?_)
          exact ⟨h1, h5, h6, h7, h11, h12, h14, h15, h16, rfl, h97, h13, hR⟩
        · skip
          refine WO.c rfl rfl (o_mvh h15 ?_)
          exact ⟨h1, h5, h6, h7, h11, h12, h14, h15, h16, rfl, h97, h13, hR⟩
        · skip
          refine WO.c rfl rfl (o_mvh h15 ?_)
          exact ⟨h1, h5, h6, h7, h11, h12, h14, h15, h16, h97, rfl, h13, hR⟩
      · -- state 4 of region 28
        rintro e w ⟨h1, h5, h6, h7, h11, h12, h14, h15, h16, h98, h13, hR⟩
        refine ⟨?_, ?_, ?_, ?_, trivial⟩
        · skip
          refine WO.c rfl rfl (o_mvh h13 ?_)
          exact ⟨h1, h5, h6, h7, h11, h12, h14, h15, h16, rfl, h98, h13, hR⟩
        · skip
          refine WO.c rfl rfl (o_mvh h15 ?_)
          exact ⟨h1, h5, h6, h7, h11, h12, h14, h15, h16, rfl, h98, h13, hR⟩
        · skip
          refine WO.c rfl rfl (o_mvh h13 ?_)
          exact ⟨h1, h5, h6, h7, h11, h12, h14, h15, h16, rfl, h98, h13, hR⟩
        · skip
          refine WO.c rfl rfl (o_addi h98 rfl (by omega) ?_)
          exact ⟨h1, h5, h6, h7, h11, h12, h14, h15, h16, h98, rfl, h13, hR⟩
      · -- state 5 of region 28
        rintro e w ⟨h1, h5, h6, h7, h11, h12, h14, h15, h16, h93, h94, h13, hR⟩
        refine ⟨?_, ?_, ?_, trivial⟩
        · skip
          refine WO.c rfl rfl (o_slv TI75 TI3 h93 Lo.n (Hi.s (h := kq) h94) (Nat.zero_le _) (by omega) ?_)
          exact ⟨h1, h5, h6, h7, h11, h12, h14, h15, h16, h93, h94, rfl, h13, hR⟩
        · skip
          refine WO.c rfl rfl (o_mvh h13 ?_)
          exact ⟨h1, h5, h6, h7, h11, h12, h14, h15, h16, h93, h94, rfl, h13, hR⟩
        · skip
          refine WO.c rfl rfl (o_mvh h15 ?_)
          exact ⟨h1, h5, h6, h7, h11, h12, h14, h15, h16, h93, h94, rfl, h13, hR⟩
      · -- state 6 of region 28
        rintro e w ⟨h1, h5, h6, h7, h11, h12, h14, h15, h16, h93, h97, h13, hR⟩
        refine ⟨?_, ?_, trivial⟩
        · skip
          refine WO.c rfl rfl (o_mvh h15 ?_)
          exact ⟨h1, h5, h6, h7, h11, h12, h14, h15, h16, h93, rfl, h97, h13, hR⟩
        · skip
          refine WO.c rfl rfl (o_mvh h15 ?_)
          exact ⟨h1, h5, h6, h7, h11, h12, h14, h15, h16, h93, h97, rfl, h13, hR⟩
      · -- state 7 of region 28
        rintro e w ⟨h1, h5, h6, h7, h11, h12, h14, h15, h16, h93, h98, h13, hR⟩
        refine ⟨?_, ?_, ?_, trivial⟩
        · skip
          refine WO.c rfl rfl (o_mvh h15 ?_)
          exact ⟨h1, h5, h6, h7, h11, h12, h14, h15, h16, h93, rfl, h98, h13, hR⟩
        · skip
          refine WO.c rfl rfl (o_mvh h13 ?_)
          exact ⟨h1, h5, h6, h7, h11, h12, h14, h15, h16, h93, rfl, h98, h13, hR⟩
        · skip
          refine WO.c rfl rfl (o_addi h98 rfl (by omega) ?_)
          exact ⟨h1, h5, h6, h7, h11, h12, h14, h15, h16, h93, h98, rfl, h13, hR⟩
      · -- state 8 of region 28
        rintro e w ⟨h1, h5, h6, h7, h11, h12, h14, h15, h16, h94, h97, h13, hR⟩
        refine ⟨?_, ?_, trivial⟩
        · skip
          refine WO.c rfl rfl (o_mvh h13 ?_)
          exact ⟨h1, h5, h6, h7, h11, h12, h14, h15, h16, rfl, h94, h97, h13, hR⟩
        · skip
          refine WO.c rfl rfl (o_mvh h15 ?_)
          exact ⟨h1, h5, h6, h7, h11, h12, h14, h15, h16, h94, h97, rfl, h13, hR⟩
      · -- state 9 of region 28
        rintro e w ⟨h1, h5, h6, h7, h11, h12, h14, h15, h16, h94, h98, h13, hR⟩
        refine ⟨?_, ?_, ?_, trivial⟩
        · skip
          refine WO.c rfl rfl (o_mvh h13 ?_)
          exact ⟨h1, h5, h6, h7, h11, h12, h14, h15, h16, rfl, h94, h98, h13, hR⟩
        · skip
          refine WO.c rfl rfl (o_mvh h13 ?_)
          exact ⟨h1, h5, h6, h7, h11, h12, h14, h15, h16, h94, rfl, h98, h13, hR⟩
        · skip
          refine WO.c rfl rfl (o_addi h98 rfl (by omega) ?_)
          exact ⟨h1, h5, h6, h7, h11, h12, h14, h15, h16, h94, h98, rfl, h13, hR⟩
      · -- state 10 of region 28
        rintro e w ⟨h1, h5, h6, h7, h11, h12, h14, h15, h16, h97, h98, h13, hR⟩
        refine ⟨?_, ?_, ?_, trivial⟩
        · skip
          refine WO.c rfl rfl (o_mvh h13 ?_)
          exact ⟨h1, h5, h6, h7, h11, h12, h14, h15, h16, rfl, h97, h98, h13, hR⟩
        · skip
          refine WO.c rfl rfl (o_mvh h15 ?_)
          exact ⟨h1, h5, h6, h7, h11, h12, h14, h15, h16, rfl, h97, h98, h13, hR⟩
        · skip
          refine WO.c rfl rfl (o_addi h98 rfl (by omega) ?_)
          exact ⟨h1, h5, h6, h7, h11, h12, h14, h15, h16, h97, h98, rfl, h13, hR⟩
      · -- state 11 of region 28
        rintro e w ⟨h1, h5, h6, h7, h11, h12, h14, h15, h16, h98, h99, h13, hR⟩
        refine ⟨?_, ?_, ?_, trivial⟩
        · skip
          refine WO.c rfl rfl (o_mvh h13 ?_)
          exact ⟨h1, h5, h6, h7, h11, h12, h14, h15, h16, rfl, h98, h99, h13, hR⟩
        · skip
          refine WO.c rfl rfl (o_mvh h15 ?_)
          exact ⟨h1, h5, h6, h7, h11, h12, h14, h15, h16, rfl, h98, h99, h13, hR⟩
        · skip
          refine WO.c rfl rfl (o_mvh h13 ?_)
          exact ⟨h1, h5, h6, h7, h11, h12, h14, h15, h16, rfl, h98, h99, h13, hR⟩
      · -- state 12 of region 28
        rintro e w ⟨h1, h5, h6, h7, h11, h12, h14, h15, h16, h93, h94, h95, h13, hR⟩
        refine ⟨?_, ?_, ?_, trivial⟩
        · skip
          have hs96 := Sl.sliced (Sl.own (own_ext hop hR)) 0 kq (Nat.zero_le _) (by omega)
          rw [Nat.zero_mul, List.drop_zero, Nat.sub_zero, Nat.mul_one, ints_take] at hs96
          have htl : (S.take kq).length = kq := by rw [List.length_take]; omega
          refine WO.c rfl rfl (o_apO wd.heap.size TI75 TI3 (show _ = Value.slice none 0 0 from rfl) h95 (World.ownsRow_nil w _ _ _) hs96 rfl (by decide) (ints_one _) (by rw [maxLen_eq]; omega) (by omega) hR.size ?_)
          intro v96 w96 h96r ho96 _hb _hk
          replace hR := hR.tr (ho96.mono (fun k _ h => by cases h))
          rw [List.nil_append, Nat.zero_add] at h96r
          replace h96r : w96.ownsRow wd.heap.size 3 1 v96 (S.take kq).length (ints (S.take kq)) := by rw [htl]; exact h96r
          exact ⟨h1, h5, h6, h7, h11, h12, h14, h15, h16, h93, h94, h95, h13, hR, h96r⟩
        · skip
          refine WO.c rfl rfl (o_mvh h13 ?_)
          exact ⟨h1, h5, h6, h7, h11, h12, h14, h15, h16, h93, h94, h95, rfl, h13, hR⟩
        · skip
          refine WO.c rfl rfl (o_mvh h15 ?_)
          exact ⟨h1, h5, h6, h7, h11, h12, h14, h15, h16, h93, h94, h95, rfl, h13, hR⟩
      · -- state 13 of region 28
        rintro e w ⟨h1, h5, h6, h7, h11, h12, h14, h15, h16, h93, h94, h97, h13, hR⟩
        refine ⟨?_, ?_, trivial⟩
        · skip
          refine WO.c rfl rfl (o_slv TI75 TI3 h93 Lo.n (Hi.s (h := kq) h94) (Nat.zero_le _) (by omega) ?_)
          exact ⟨h1, h5, h6, h7, h11, h12, h14, h15, h16, h93, h94, rfl, h97, h13, hR⟩
        · skip
          refine WO.c rfl rfl (o_mvh h15 ?_)
          exact ⟨h1, h5, h6, h7, h11, h12, h14, h15, h16, h93, h94, h97, rfl, h13, hR⟩
      · -- state 14 of region 28
        rintro e w ⟨h1, h5, h6, h7, h11, h12, h14, h15, h16, h93, h94, h98, h13, hR⟩
        refine ⟨?_, ?_, ?_, trivial⟩
        · skip
          refine WO.c rfl rfl (o_slv TI75 TI3 h93 Lo.n (Hi.s (h := kq) h94) (Nat.zero_le _) (by omega) ?_)
          exact ⟨h1, h5, h6, h7, h11, h12, h14, h15, h16, h93, h94, rfl, h98, h13, hR⟩
        · skip
          refine WO.c rfl rfl (o_mvh h13 ?_)
          exact ⟨h1, h5, h6, h7, h11, h12, h14, h15, h16, h93, h94, rfl, h98, h13, hR⟩
        · skip
          refine WO.c rfl rfl (o_addi h98 rfl (by omega) ?_)
          exact ⟨h1, h5, h6, h7, h11, h12, h14, h15, h16, h93, h94, h98, rfl, h13, hR⟩
      · -- state 15 of region 28
        rintro e w ⟨h1, h5, h6, h7, h11, h12, h14, h15, h16, h93, h97, h98, h13, hR⟩
        refine ⟨?_, ?_, trivial⟩
        · skip
          refine WO.c rfl rfl (o_mvh h15 ?_)
          exact ⟨h1, h5, h6, h7, h11, h12, h14, h15, h16, h93, rfl, h97, h98, h13, hR⟩
        · skip
          refine WO.c rfl rfl (o_addi h98 rfl (by omega) ?_)
          exact ⟨h1, h5, h6, h7, h11, h12, h14, h15, h16, h93, h97, h98, rfl, h13, hR⟩
      · -- state 16 of region 28
        rintro e w ⟨h1, h5, h6, h7, h11, h12, h14, h15, h16, h93, h98, h99, h13, hR⟩
        refine ⟨?_, ?_, trivial⟩
        · skip
          refine WO.c rfl rfl (o_mvh h15 ?_)
          exact ⟨h1, h5, h6, h7, h11, h12, h14, h15, h16, h93, rfl, h98, h99, h13, hR⟩
        · skip
          refine WO.c rfl rfl (o_mvh h13 ?_)
          exact ⟨h1, h5, h6, h7, h11, h12, h14, h15, h16, h93, rfl, h98, h99, h13, hR⟩
      · -- state 17 of region 28
        rintro e w ⟨h1, h5, h6, h7, h11, h12, h14, h15, h16, h94, h97, h98, h13, hR⟩
        refine ⟨?_, ?_, trivial⟩
        · skip
          refine WO.c rfl rfl (o_mvh h13 ?_)
          exact ⟨h1, h5, h6, h7, h11, h12, h14, h15, h16, rfl, h94, h97, h98, h13, hR⟩
        · skip
          refine WO.c rfl rfl (o_addi h98 rfl (by omega) ?_)
          exact ⟨h1, h5, h6, h7, h11, h12, h14, h15, h16, h94, h97, h98, rfl, h13, hR⟩
      · -- state 18 of region 28
        rintro e w ⟨h1, h5, h6, h7, h11, h12, h14, h15, h16, h94, h98, h99, h13, hR⟩
        refine ⟨?_, ?_, trivial⟩
        · skip
          refine WO.c rfl rfl (o_mvh h13 ?_)
          exact ⟨h1, h5, h6, h7, h11, h12, h14, h15, h16, rfl, h94, h98, h99, h13, hR⟩
        · skip
          refine WO.c rfl rfl (o_mvh h13 ?_)
          exact ⟨h1, h5, h6, h7, h11, h12, h14, h15, h16, h94, rfl, h98, h99, h13, hR⟩
      · -- state 19 of region 28
        rintro e w ⟨h1, h5, h6, h7, h11, h12, h14, h15, h16, h97, h98, h99, h13, hR⟩
        refine ⟨?_, ?_, ?_, trivial⟩
        · skip
          refine WO.c rfl rfl (o_mvh h13 ?_)
          exact ⟨h1, h5, h6, h7, h11, h12, h14, h15, h16, rfl, h97, h98, h99, h13, hR⟩
        · skip
          refine WO.c rfl rfl (o_mvh h15 ?_)
          exact ⟨h1, h5, h6, h7, h11, h12, h14, h15, h16, rfl, h97, h98, h99, h13, hR⟩
        · skip
          refine WO.c rfl rfl (o_slv TI75 TI3 h97 (Lo.s (l := kq + 1) (h99.trans (by congr 1))) Hi.n (by omega) (by omega) ?_)
          exact ⟨h1, h5, h6, h7, h11, h12, h14, h15, h16, h97, h98, h99, rfl, h13, hR⟩
      · -- state 20 of region 28
        rintro e w ⟨h1, h5, h6, h7, h11, h12, h14, h15, h16, h93, h94, h95, h13, hR, h96r⟩
        refine ⟨?_, ?_, trivial⟩
        · skip
          refine WO.c rfl rfl (o_mvh h13 ?_)
          exact ⟨h1, h5, h6, h7, h11, h12, h14, h15, h16, h93, h94, h95, rfl, h13, hR, h96r⟩
        · skip
          refine WO.c rfl rfl (o_mvh h15 ?_)
          exact ⟨h1, h5, h6, h7, h11, h12, h14, h15, h16, h93, h94, h95, rfl, h13, hR, h96r⟩
      · -- state 21 of region 28
        rintro e w ⟨h1, h5, h6, h7, h11, h12, h14, h15, h16, h93, h94, h95, h97, h13, hR⟩
        refine ⟨?_, ?_, trivial⟩
        · skip
          have hs96 := Sl.sliced (Sl.own (own_ext hop hR)) 0 kq (Nat.zero_le _) (by omega)
          rw [Nat.zero_mul, List.drop_zero, Nat.sub_zero, Nat.mul_one, ints_take] at hs96
          have htl : (S.take kq).length = kq := by rw [List.length_take]; omega
          refine WO.c rfl rfl (o_apO wd.heap.size TI75 TI3 (show _ = Value.slice none 0 0 from rfl) h95 (World.ownsRow_nil w _ _ _) hs96 rfl (by decide) (ints_one _) (by rw [maxLen_eq]; omega) (by omega) hR.size ?_)
          intro v96 w96 h96r ho96 _hb _hk
          replace hR := hR.tr (ho96.mono (fun k _ h => by cases h))
          rw [List.nil_append, Nat.zero_add] at h96r
          replace h96r : w96.ownsRow wd.heap.size 3 1 v96 (S.take kq).length (ints (S.take kq)) := by rw [htl]; exact h96r
          exact ⟨h1, h5, h6, h7, h11, h12, h14, h15, h16, h93, h94, h95, h97, h13, hR, h96r⟩
        · skip
          refine WO.c rfl rfl (o_mvh h15 ?_)
          exact ⟨h1, h5, h6, h7, h11, h12, h14, h15, h16, h93, h94, h95, h97, rfl, h13, hR⟩
      · -- state 22 of region 28
        rintro e w ⟨h1, h5, h6, h7, h11, h12, h14, h15, h16, h93, h94, h95, h98, h13, hR⟩
        refine ⟨?_, ?_, ?_, trivial⟩
        · skip
          have hs96 := Sl.sliced (Sl.own (own_ext hop hR)) 0 kq (Nat.zero_le _) (by omega)
          rw [Nat.zero_mul, List.drop_zero, Nat.sub_zero, Nat.mul_one, ints_take] at hs96
          have htl : (S.take kq).length = kq := by rw [List.length_take]; omega
          refine WO.c rfl rfl (o_apO wd.heap.size TI75 TI3 (show _ = Value.slice none 0 0 from rfl) h95 (World.ownsRow_nil w _ _ _) hs96 rfl (by decide) (ints_one _) (by rw [maxLen_eq]; omega) (by omega) hR.size ?_)
          intro v96 w96 h96r ho96 _hb _hk
          replace hR := hR.tr (ho96.mono (fun k _ h => by cases h))
          rw [List.nil_append, Nat.zero_add] at h96r
          replace h96r : w96.ownsRow wd.heap.size 3 1 v96 (S.take kq).length (ints (S.take kq)) := by rw [htl]; exact h96r
          exact ⟨h1, h5, h6, h7, h11, h12, h14, h15, h16, h93, h94, h95, h98, h13, hR, h96r⟩
        · skip
          refine WO.c rfl rfl (o_mvh h13 ?_)
          exact ⟨h1, h5, h6, h7, h11, h12, h14, h15, h16, h93, h94, h95, rfl, h98, h13, hR⟩
        · skip
          refine WO.c rfl rfl (o_addi h98 rfl (by omega) ?_)
          exact ⟨h1, h5, h6, h7, h11, h12, h14, h15, h16, h93, h94, h95, h98, rfl, h13, hR⟩
      · -- state 23 of region 28
        rintro e w ⟨h1, h5, h6, h7, h11, h12, h14, h15, h16, h93, h94, h97, h98, h13, hR⟩
        refine ⟨?_, ?_, trivial⟩
        · skip
          refine WO.c rfl rfl (o_slv TI75 TI3 h93 Lo.n (Hi.s (h := kq) h94) (Nat.zero_le _) (by omega) ?_)
          exact ⟨h1, h5, h6, h7, h11, h12, h14, h15, h16, h93, h94, rfl, h97, h98, h13, hR⟩
        · skip
          refine WO.c rfl rfl (o_addi h98 rfl (by omega) ?_)
          exact ⟨h1, h5, h6, h7, h11, h12, h14, h15, h16, h93, h94, h97, h98, rfl, h13, hR⟩
      · -- state 24 of region 28
        rintro e w ⟨h1, h5, h6, h7, h11, h12, h14, h15, h16, h93, h94, h98, h99, h13, hR⟩
        refine ⟨?_, ?_, trivial⟩
        · skip
          refine WO.c rfl rfl (o_slv TI75 TI3 h93 Lo.n (Hi.s (h := kq) h94) (Nat.zero_le _) (by omega) ?_)
          exact ⟨h1, h5, h6, h7, h11, h12, h14, h15, h16, h93, h94, rfl, h98, h99, h13, hR⟩
        · skip
          refine WO.c rfl rfl (o_mvh h13 ?_)
          exact ⟨h1, h5, h6, h7, h11, h12, h14, h15, h16, h93, h94, rfl, h98, h99, h13, hR⟩
      · -- state 25 of region 28
        rintro e w ⟨h1, h5, h6, h7, h11, h12, h14, h15, h16, h93, h97, h98, h99, h13, hR⟩
        refine ⟨?_, ?_, trivial⟩
        · skip
          refine WO.c rfl rfl (o_mvh h15 ?_)
          exact ⟨h1, h5, h6, h7, h11, h12, h14, h15, h16, h93, rfl, h97, h98, h99, h13, hR⟩
        · skip
          refine WO.c rfl rfl (o_slv TI75 TI3 h97 (Lo.s (l := kq + 1) (h99.trans (by congr 1))) Hi.n (by omega) (by omega) ?_)
          exact ⟨h1, h5, h6, h7, h11, h12, h14, h15, h16, h93, h97, h98, h99, rfl, h13, hR⟩
      · -- state 26 of region 28
        rintro e w ⟨h1, h5, h6, h7, h11, h12, h14, h15, h16, h94, h97, h98, h99, h13, hR⟩
        refine ⟨?_, ?_, trivial⟩
        · skip
          refine WO.c rfl rfl (o_mvh h13 ?_)
          exact ⟨h1, h5, h6, h7, h11, h12, h14, h15, h16, rfl, h94, h97, h98, h99, h13, hR⟩
        · skip
          refine WO.c rfl rfl (o_slv TI75 TI3 h97 (Lo.s (l := kq + 1) (h99.trans (by congr 1))) Hi.n (by omega) (by omega) ?_)
          exact ⟨h1, h5, h6, h7, h11, h12, h14, h15, h16, h94, h97, h98, h99, rfl, h13, hR⟩
      · -- state 27 of region 28
        rintro e w ⟨h1, h5, h6, h7, h11, h12, h14, h15, h16, h97, h98, h99, h100, h13, hR⟩
        refine ⟨?_, ?_, trivial⟩
        · skip
          refine WO.c rfl rfl (o_mvh h13 ?_)
          exact ⟨h1, h5, h6, h7, h11, h12, h14, h15, h16, rfl, h97, h98, h99, h100, h13, hR⟩
        · skip
          refine WO.c rfl rfl (o_mvh h15 ?_)
          exact ⟨h1, h5, h6, h7, h11, h12, h14, h15, h16, rfl, h97, h98, h99, h100, h13, hR⟩
      · -- state 28 of region 28
        rintro e w ⟨h1, h5, h6, h7, h11, h12, h14, h15, h16, h93, h94, h95, h97, h13, hR, h96r⟩
        refine ⟨?_, trivial⟩
        · skip
          refine WO.c rfl rfl (o_mvh h15 ?_)
          exact ⟨h1, h5, h6, h7, h11, h12, h14, h15, h16, h93, h94, h95, h97, rfl, h13, hR, h96r⟩
      · -- state 29 of region 28
        rintro e w ⟨h1, h5, h6, h7, h11, h12, h14, h15, h16, h93, h94, h95, h98, h13, hR, h96r⟩
        refine ⟨?_, ?_, trivial⟩
        · skip
          refine WO.c rfl rfl (o_mvh h13 ?_)
          exact ⟨h1, h5, h6, h7, h11, h12, h14, h15, h16, h93, h94, h95, rfl, h98, h13, hR, h96r⟩
        · skip
          refine WO.c rfl rfl (o_addi h98 rfl (by omega) ?_)
          exact ⟨h1, h5, h6, h7, h11, h12, h14, h15, h16, h93, h94, h95, h98, rfl, h13, hR, h96r⟩
      · -- state 30 of region 28
        rintro e w ⟨h1, h5, h6, h7, h11, h12, h14, h15, h16, h93, h94, h95, h97, h98, h13, hR⟩
        refine ⟨?_, ?_, trivial⟩
        · skip
          have hs96 := Sl.sliced (Sl.own (own_ext hop hR)) 0 kq (Nat.zero_le _) (by omega)
          rw [Nat.zero_mul, List.drop_zero, Nat.sub_zero, Nat.mul_one, ints_take] at hs96
          have htl : (S.take kq).length = kq := by rw [List.length_take]; omega
          refine WO.c rfl rfl (o_apO wd.heap.size TI75 TI3 (show _ = Value.slice none 0 0 from rfl) h95 (World.ownsRow_nil w _ _ _) hs96 rfl (by decide) (ints_one _) (by rw [maxLen_eq]; omega) (by omega) hR.size ?_)
          intro v96 w96 h96r ho96 _hb _hk
          replace hR := hR.tr (ho96.mono (fun k _ h => by cases h))
          rw [List.nil_append, Nat.zero_add] at h96r
          replace h96r : w96.ownsRow wd.heap.size 3 1 v96 (S.take kq).length (ints (S.take kq)) := by rw [htl]; exact h96r
          exact ⟨h1, h5, h6, h7, h11, h12, h14, h15, h16, h93, h94, h95, h97, h98, h13, hR, h96r⟩
        · skip
          refine WO.c rfl rfl (o_addi h98 rfl (by omega) ?_)
          exact ⟨h1, h5, h6, h7, h11, h12, h14, h15, h16, h93, h94, h95, h97, h98, rfl, h13, hR⟩
      · -- state 31 of region 28
        rintro e w ⟨h1, h5, h6, h7, h11, h12, h14, h15, h16, h93, h94, h95, h98, h99, h13, hR⟩
        refine ⟨?_, ?_, trivial⟩
        · skip
          have hs96 := Sl.sliced (Sl.own (own_ext hop hR)) 0 kq (Nat.zero_le _) (by omega)
          rw [Nat.zero_mul, List.drop_zero, Nat.sub_zero, Nat.mul_one, ints_take] at hs96
          have htl : (S.take kq).length = kq := by rw [List.length_take]; omega
          refine WO.c rfl rfl (o_apO wd.heap.size TI75 TI3 (show _ = Value.slice none 0 0 from rfl) h95 (World.ownsRow_nil w _ _ _) hs96 rfl (by decide) (ints_one _) (by rw [maxLen_eq]; omega) (by omega) hR.size ?_)
          intro v96 w96 h96r ho96 _hb _hk
          replace hR := hR.tr (ho96.mono (fun k _ h => by cases h))
          rw [List.nil_append, Nat.zero_add] at h96r
          replace h96r : w96.ownsRow wd.heap.size 3 1 v96 (S.take kq).length (ints (S.take kq)) := by rw [htl]; exact h96r
          exact ⟨h1, h5, h6, h7, h11, h12, h14, h15, h16, h93, h94, h95, h98, h99, h13, hR, h96r⟩
        · skip
          refine WO.c rfl rfl (o_mvh h13 ?_)
          exact ⟨h1, h5, h6, h7, h11, h12, h14, h15, h16, h93, h94, h95, rfl, h98, h99, h13, hR⟩
      · -- state 32 of region 28
        rintro e w ⟨h1, h5, h6, h7, h11, h12, h14, h15, h16, h93, h94, h97, h98, h99, h13, hR⟩
        refine ⟨?_, ?_, trivial⟩
        · skip
          refine WO.c rfl rfl (o_slv TI75 TI3 h93 Lo.n (Hi.s (h := kq) h94) (Nat.zero_le _) (by omega) ?_)
          exact ⟨h1, h5, h6, h7, h11, h12, h14, h15, h16, h93, h94, rfl, h97, h98, h99, h13, hR⟩
        · skip
          refine WO.c rfl rfl (o_slv TI75 TI3 h97 (Lo.s (l := kq + 1) (h99.trans (by congr 1))) Hi.n (by omega) (by omega) ?_)
          exact ⟨h1, h5, h6, h7, h11, h12, h14, h15, h16, h93, h94, h97, h98, h99, rfl, h13, hR⟩
      · -- state 33 of region 28
        rintro e w ⟨h1, h5, h6, h7, h11, h12, h14, h15, h16, h93, h97, h98, h99, h100, h13, hR⟩
        refine ⟨?_, trivial⟩
        · skip
          refine WO.c rfl rfl (o_mvh h15 ?_)
          exact ⟨h1, h5, h6, h7, h11, h12, h14, h15, h16, h93, rfl, h97, h98, h99, h100, h13, hR⟩
      · -- state 34 of region 28
        rintro e w ⟨h1, h5, h6, h7, h11, h12, h14, h15, h16, h94, h97, h98, h99, h100, h13, hR⟩
        refine ⟨?_, trivial⟩
        · skip
          refine WO.c rfl rfl (o_mvh h13 ?_)
          exact ⟨h1, h5, h6, h7, h11, h12, h14, h15, h16, rfl, h94, h97, h98, h99, h100, h13, hR⟩
      · -- state 35 of region 28
        rintro e w ⟨h1, h5, h6, h7, h11, h12, h14, h15, h16, h93, h94, h95, h97, h98, h13, hR, h96r⟩
        refine ⟨?_, trivial⟩
        · skip
          refine WO.c rfl rfl (o_addi h98 rfl (by omega) ?_)
          exact ⟨h1, h5, h6, h7, h11, h12, h14, h15, h16, h93, h94, h95, h97, h98, rfl, h13, hR, h96r⟩
      · -- state 36 of region 28
        rintro e w ⟨h1, h5, h6, h7, h11, h12, h14, h15, h16, h93, h94, h95, h98, h99, h13, hR, h96r⟩
        refine ⟨?_, trivial⟩
        · skip
          refine WO.c rfl rfl (o_mvh h13 ?_)
          exact ⟨h1, h5, h6, h7, h11, h12, h14, h15, h16, h93, h94, h95, rfl, h98, h99, h13, hR, h96r⟩
      · -- state 37 of region 28
        rintro e w ⟨h1, h5, h6, h7, h11, h12, h14, h15, h16, h93, h94, h95, h97, h98, h99, h13, hR⟩
        refine ⟨?_, ?_, trivial⟩
        · skip
          have hs96 := Sl.sliced (Sl.own (own_ext hop hR)) 0 kq (Nat.zero_le _) (by omega)
          rw [Nat.zero_mul, List.drop_zero, Nat.sub_zero, Nat.mul_one, ints_take] at hs96
          have htl : (S.take kq).length = kq := by rw [List.length_take]; omega
          refine WO.c rfl rfl (o_apO wd.heap.size TI75 TI3 (show _ = Value.slice none 0 0 from rfl) h95 (World.ownsRow_nil w _ _ _) hs96 rfl (by decide) (ints_one _) (by rw [maxLen_eq]; omega) (by omega) hR.size ?_)
          intro v96 w96 h96r ho96 _hb _hk
          replace hR := hR.tr (ho96.mono (fun k _ h => by cases h))
          rw [List.nil_append, Nat.zero_add] at h96r
          replace h96r : w96.ownsRow wd.heap.size 3 1 v96 (S.take kq).length (ints (S.take kq)) := by rw [htl]; exact h96r
          exact ⟨h1, h5, h6, h7, h11, h12, h14, h15, h16, h93, h94, h95, h97, h98, h99, h13, hR, h96r⟩
        · skip
          refine WO.c rfl rfl (o_slv TI75 TI3 h97 (Lo.s (l := kq + 1) (h99.trans (by congr 1))) Hi.n (by omega) (by omega) ?_)
          exact ⟨h1, h5, h6, h7, h11, h12, h14, h15, h16, h93, h94, h95, h97, h98, h99, rfl, h13, hR⟩
      · -- state 38 of region 28
        rintro e w ⟨h1, h5, h6, h7, h11, h12, h14, h15, h16, h93, h94, h97, h98, h99, h100, h13, hR⟩
        refine ⟨?_, trivial⟩
        · skip
          refine WO.c rfl rfl (o_slv TI75 TI3 h93 Lo.n (Hi.s (h := kq) h94) (Nat.zero_le _) (by omega) ?_)
          exact ⟨h1, h5, h6, h7, h11, h12, h14, h15, h16, h93, h94, rfl, h97, h98, h99, h100, h13, hR⟩
      · -- state 39 of region 28
        rintro e w ⟨h1, h5, h6, h7, h11, h12, h14, h15, h16, h93, h94, h95, h97, h98, h99, h13, hR, h96r⟩
        refine ⟨?_, trivial⟩
        · skip
          refine WO.c rfl rfl (o_slv TI75 TI3 h97 (Lo.s (l := kq + 1) (h99.trans (by congr 1))) Hi.n (by omega) (by omega) ?_)
          exact ⟨h1, h5, h6, h7, h11, h12, h14, h15, h16, h93, h94, h95, h97, h98, h99, rfl, h13, hR, h96r⟩
      · -- state 40 of region 28
        rintro e w ⟨h1, h5, h6, h7, h11, h12, h14, h15, h16, h93, h94, h95, h97, h98, h99, h100, h13, hR⟩
        refine ⟨?_, trivial⟩
        · skip
          have hs96 := Sl.sliced (Sl.own (own_ext hop hR)) 0 kq (Nat.zero_le _) (by omega)
          rw [Nat.zero_mul, List.drop_zero, Nat.sub_zero, Nat.mul_one, ints_take] at hs96
          have htl : (S.take kq).length = kq := by rw [List.length_take]; omega
          refine WO.c rfl rfl (o_apO wd.heap.size TI75 TI3 (show _ = Value.slice none 0 0 from rfl) h95 (World.ownsRow_nil w _ _ _) hs96 rfl (by decide) (ints_one _) (by rw [maxLen_eq]; omega) (by omega) hR.size ?_)
          intro v96 w96 h96r ho96 _hb _hk
          replace hR := hR.tr (ho96.mono (fun k _ h => by cases h))
          rw [List.nil_append, Nat.zero_add] at h96r
          replace h96r : w96.ownsRow wd.heap.size 3 1 v96 (S.take kq).length (ints (S.take kq)) := by rw [htl]; exact h96r
          exact ⟨h1, h5, h6, h7, h11, h12, h14, h15, h16, h93, h94, h95, h97, h98, h99, h100, h13, hR, h96r⟩
      · -- state 41 of region 28
        rintro e w ⟨h1, h5, h6, h7, h11, h12, h14, h15, h16, h93, h94, h95, h97, h98, h99, h100, h13, hR, h96r⟩
        refine ⟨?_, trivial⟩
        · skip
          have hs101 := Sl.sliced (Sl.own (own_ext hop hR)) (kq + 1) S.length (by omega) (Nat.le_refl _)
          rw [Nat.mul_one, Nat.mul_one, ints_drop, ints_take, List.take_of_length_le (by rw [List.length_drop]; exact Nat.le_refl _)] at hs101
          refine WO.c rfl rfl (o_apO wd.heap.size TI75 TI3 rfl h100 h96r hs101 rfl (by decide) (ints_one _) (by rw [maxLen_eq]; rw [List.length_take]; omega) (by rw [List.length_take]; omega) hR.size ?_)
          intro v101 w101 h101r ho101 _hb _hk
          replace hR := hR.trans' ho101 (fun _ h => h) (fun k hk he => by have := (h96r.lt k he).1; omega)
          replace h101r : w101.ownsRow wd.heap.size 3 1 v101 (S.eraseIdx kq).length (ints (S.eraseIdx kq)) := by
            rw [erase_td, ints_app, List.length_append, List.length_drop]
            exact h101r
          exact ⟨h1, h5, h6, h7, h11, h12, h14, h15, h16, h93, h94, h95, h97, h98, h99, h100, h13, hR, h101r⟩
      · -- state 42 of region 28
        rintro e w ⟨h1, h5, h6, h7, h11, h12, h14, h15, h16, h93, h94, h95, h97, h98, h99, h100, h13, hR, h101r⟩
        refine ⟨?_, trivial⟩
        · skip
          refine WO.c rfl rfl (o_as ?_)
          exact ⟨h1, h5, h6, h7, h11, h12, h14, h15, h16, h93, h94, h95, h97, h98, h99, h100, hR, h101r⟩
      · -- state 43 of region 28
        rintro e w ⟨h1, h5, h6, h7, h11, h12, h14, h15, h16, h93, h94, h95, h97, h98, h99, h100, hR, h101r⟩
        have hv13 := h101r
        obtain ⟨v13, hv13e⟩ : ∃ v, v = e 13 := ⟨_, rfl⟩
        rw [← hv13e] at h101r
        clear hv13
        replace hop := own_mono h101r hwz
        replace hx := hx.tr hR
        replace hv := own_ext hv hR
        replace hpa := own_ext hpa hR
        replace hka := own_ext hka hR
        replace hnu := own_ext hnu hR
        replace hA := hA.ext hR
        have h13 : e 13 = v13 := hv13e.symm
        clear hR hwd hxd hwz h101r
        refine W.seq ?_
        refine W.region ?_
        refine WL.c rfl (o_ash (show _ = Value.int _ _ from rfl) ?_)
        refine WL.nil ?_
        refine W.seq ?_
        refine W.seq ?_
        refine W.region ?_
        refine WL.c rfl (o_mvh h16 ?_)
        refine WL.c rfl (o_gt rfl rfl ?_)
        refine WL.nil ?_
        refine W.cut (fun e1 w1 => ∃ pI : Int, (S[kq] = 0 → pI = -1) ∧ (S[kq] ≠ 0 → ∃ q : Nat, pI = (q : Int) ∧ D[q]? = some (pkO t S[kq]).1) ∧ e1 17 = .int .i64 pI ∧ e1 1 = (v2) ∧ e1 5 = (nv) ∧ e1 6 = (Value.slice (some ⟨b6, 0, none⟩) t.flat.length t.flat.length) ∧ e1 7 = (Value.slice (some ⟨b7, 0, none⟩) t.flat.length t.flat.length) ∧ e1 11 = (.pointer (some ⟨p, 0, none⟩)) ∧ e1 12 = (Value.slice (some ⟨b12, 0, none⟩) t.flat.length t.flat.length) ∧ e1 13 = v13 ∧ e1 14 = .int .i64 (D.length : Int) ∧ e1 16 = .int .i64 (S[kq] : Int) ∧ w1.ownsRow w0.heap.size 69 3 nv t.flat.length (nds t.flat) ∧ w1.ownsRow b6 3 1 (Value.slice (some ⟨b6, 0, none⟩) t.flat.length t.flat.length) t.flat.length (ints PA) ∧ w1.ownsRow b7 3 1 (Value.slice (some ⟨b7, 0, none⟩) t.flat.length t.flat.length) t.flat.length (ints KA) ∧ w1.ownsRow b12 3 1 (Value.slice (some ⟨b12, 0, none⟩) t.flat.length t.flat.length) t.flat.length (ints NU) ∧ w1.ownsRow (b12 + 1) 3 1 (v13) (S.eraseIdx kq).length (ints (S.eraseIdx kq)) ∧ ArM w1 BA p mb cv A ∧ Ext w0 w1) ?_ ?_
        · -- both ways
          refine W.cond rfl (fun c103 => ?_) (fun c103 => ?_)
          · try simp only [decide_eq_true_eq, decide_eq_false_iff_not, Bool.not_eq_true', Bool.not_eq_false', Bool.and_eq_true, Bool.or_eq_true, Bool.and_eq_false_iff, Bool.or_eq_false_iff] at c103
            have h0 : S[kq] ≠ 0 := by omega
            obtain ⟨hg1, hg2⟩ := hWr.get htw h0 hxl
            obtain ⟨qd, hqd⟩ := List.getElem?_of_mem (hord.up S[kq] (List.mem_append_right _ (List.getElem_mem hkS)) h0)
            have hnu1 := hNU qd _ hqd
            obtain ⟨hpl, -⟩ := pk_of htw h0 hxl
            refine W.region ?_
            refine WL.c rfl (o_mvh h12 ?_)
            refine WL.c rfl (o_mvh h6 ?_)
            refine WL.c rfl (o_mvh h16 ?_)
            refine WL.c rfl (o_ixB (i := S[kq]) TI75 TI3 (show _ = Value.slice (some ⟨b6, 0, none⟩) t.flat.length t.flat.length from by first | rfl | assumption) (show _ = Value.int .i64 (S[kq] : Int) from by first | rfl | assumption) (by omega) ?_)
            refine WL.c rfl (o_ld TI3 rfl rfl (own_cell (j := 0 + S[kq] * 1) hpa (by rw [Nat.zero_add, Nat.mul_one]; exact ints_cell2 hg1)) ?_)
            refine WL.c rfl (o_ixB (i := (pkO t S[kq]).1) TI75 TI3 (show _ = Value.slice (some ⟨b12, 0, none⟩) t.flat.length t.flat.length from by first | rfl | assumption) (show _ = Value.int .i64 ((pkO t S[kq]).1 : Int) from by first | rfl | assumption) (by omega) ?_)
            refine WL.c rfl (o_ld TI3 rfl rfl (own_cell (j := 0 + (pkO t S[kq]).1 * 1) hnu (by rw [Nat.zero_add, Nat.mul_one]; exact ints_cell2 hnu1)) ?_)
            refine WL.c rfl (o_ash (show _ = Value.int _ _ from rfl) ?_)
            refine WL.nil ?_
            first | exact ⟨(qd : Int), fun h => absurd h h0, fun _ => ⟨qd, rfl, hqd⟩, rfl, h1, h5, h6, h7, h11, h12, h13, h14, h16, hv, hpa, hka, hnu, hop, hA, hx⟩ | exact ⟨-1, fun _ => rfl, fun h => absurd (by omega) h, rfl, h1, h5, h6, h7, h11, h12, h13, h14, h16, hv, hpa, hka, hnu, hop, hA, hx⟩
          · try simp only [decide_eq_true_eq, decide_eq_false_iff_not, Bool.not_eq_true', Bool.not_eq_false', Bool.and_eq_true, Bool.or_eq_true, Bool.and_eq_false_iff, Bool.or_eq_false_iff] at c103
            refine W.skip ?_
            first | exact ⟨(qd : Int), fun h => absurd h h0, fun _ => ⟨qd, rfl, hqd⟩, rfl, h1, h5, h6, h7, h11, h12, h13, h14, h16, hv, hpa, hka, hnu, hop, hA, hx⟩ | exact ⟨-1, fun _ => rfl, fun h => absurd (by omega) h, rfl, h1, h5, h6, h7, h11, h12, h13, h14, h16, hv, hpa, hka, hnu, hop, hA, hx⟩
        rintro e w ⟨pI, hp0, hp1, h17, h1, h5, h6, h7, h11, h12, h13, h14, h16, hv, hpa, hka, hnu, hop, hA, hx⟩
        refine W.seq ?_
        obtain ⟨wd, hwd⟩ : ∃ wd, wd = w.drew := ⟨_, rfl⟩
        have hxd : Ext w wd := hwd ▸ Only.drew w
        replace hx := hx.tr hxd
        replace hv := own_ext hv hxd
        replace hpa := own_ext hpa hxd
        replace hka := own_ext hka hxd
        replace hnu := own_ext hnu hxd
        replace hop := own_ext hop hxd
        replace hA := hA.ext hxd
        have hnv : ∀ j, nv.ownBlock = some j → ¬ AF p mb cv j := fun j hj hF => by
          rcases hF with rfl | rfl | hF
          · exact own_off hv hA.cell (by decide) hj
          · exact own_nmap hA.map hv hj
          · exact own_row_off hA.row hv (by decide) j hj hF
        have hnpa : ∀ j, (Value.slice (some ⟨b6, 0, none⟩) t.flat.length t.flat.length).ownBlock = some j → ¬ AF p mb cv j := fun j hj hF => by
          rcases hF with rfl | rfl | hF
          · exact own_off hpa hA.cell (by decide) hj
          · exact own_nmap hA.map hpa hj
          · exact own_row_off hA.row hpa (by decide) j hj hF
        have hnka : ∀ j, (Value.slice (some ⟨b7, 0, none⟩) t.flat.length t.flat.length).ownBlock = some j → ¬ AF p mb cv j := fun j hj hF => by
          rcases hF with rfl | rfl | hF
          · exact own_off hka hA.cell (by decide) hj
          · exact own_nmap hA.map hka hj
          · exact own_row_off hA.row hka (by decide) j hj hF
        have hnnu : ∀ j, (Value.slice (some ⟨b12, 0, none⟩) t.flat.length t.flat.length).ownBlock = some j → ¬ AF p mb cv j := fun j hj hF => by
          rcases hF with rfl | rfl | hF
          · exact own_off hnu hA.cell (by decide) hj
          · exact own_nmap hA.map hnu hj
          · exact own_row_off hA.row hnu (by decide) j hj hF
        have hnop : ∀ j, v13.ownBlock = some j → ¬ AF p mb cv j := fun j hj hF => by
          rcases hF with rfl | rfl | hF
          · exact own_off hop hA.cell (by decide) hj
          · exact own_nmap hA.map hop hj
          · exact own_row_off hA.row hop (by decide) j hj hF
        have hkA : S[kq] < KA.length := by omega
        obtain ⟨kz, hkz⟩ : ∃ kz, KA[S[kq]]? = some kz := ⟨KA[S[kq]]'hkA, List.getElem?_eq_getElem hkA⟩
        have hz : S[kq] ≠ 0 → (kz : Int) = ((pkO t S[kq]).2 : Int) := fun h0 => by
          have := (hWr.get htw h0 hxl).2
          rw [hkz] at this
          simp only [Option.some.injEq] at this
          rw [this]
        have hadd := hord.add htw hkS hp0 hp1 hz
        have hgd : t.flat.getD S[kq] nd0 = t.flat[S[kq]] := by rw [List.getD_eq_getElem?_getD, List.getElem?_eq_getElem hxl]; rfl
        rw [hgd] at hadd
        obtain ⟨nb, nc, hnve, hnb⟩ := own_some hv (by omega)
        have hv2 := hv
        rw [hnve] at hv2
        have hnv2 := hnv
        rw [hnve] at hnv2
        have hAl : A.length ≤ 1000000 := by rw [hord.len]; omega
        have hAlt := hA.lt
        refine W.drawF 21 [16] [AF p mb cv] [(1, fun v _ => v = _), (5, fun v _ => v = _), (6, fun v _ => v = _), (7, fun v _ => v = _), (11, fun v _ => v = _), (12, fun v _ => v = _), (13, fun v _ => v = _), (14, fun v _ => v = _), (16, fun v _ => v = _), (17, fun v _ => v = _)] rfl (by kernel_rfl) (by kernel_rfl) ⟨Mono.eq, Mono.eq, Mono.eq, Mono.eq, Mono.eq, Mono.eq, Mono.eq, Mono.eq, Mono.eq, Mono.eq, trivial⟩ ⟨h1, h5, h6, h7, h11, h12, h13, h14, h16, h17, trivial⟩ ?_
        refine WDS.p rfl (by decide) (fun e w hR hh => by obtain ⟨h11, -⟩ := hh; exact SG.n (o_mvh h11 ⟨rfl, Only.refl No _⟩)) ?_
        refine WDS.p rfl (by decide) (fun e w hR hh => by obtain ⟨h17, -⟩ := hh; exact SG.n (o_mvh h17 ⟨rfl, Only.refl No _⟩)) ?_
        refine WDS.p rfl (by decide) (fun e w hR hh => by obtain ⟨h7, -⟩ := hh; exact SG.n (o_mvh h7 ⟨rfl, Only.refl No _⟩)) ?_
        refine WDS.p rfl (by decide) (fun e w hR hh => by obtain ⟨h16, -⟩ := hh; exact SG.n (o_mvh h16 ⟨rfl, Only.refl No _⟩)) ?_
        refine WDS.p rfl (by decide) (fun e w hR hh => by obtain ⟨h115, h114, -⟩ := hh; exact SG.n (o_ixB (i := S[kq]) TI75 TI3 h114 h115 (by omega) ⟨rfl, Only.refl No _⟩)) ?_
        refine WDS.p rfl (by decide) (fun e w hR hh => by obtain ⟨h116, -⟩ := hh; rw [← hwd] at hR; exact SG.n (o_ld TI3 rfl h116 (own_cell (j := 0 + S[kq] * 1) (own_only hka hR (fun k hk hF => by rcases hF with hF | hF <;> first | exact hnka k hk hF | exact hF)) (by rw [Nat.zero_add, Nat.mul_one]; exact ints_cell2 hkz)) ⟨rfl, Only.refl No _⟩)) ?_
        refine WDS.p rfl (by decide) (fun e w hR hh => by obtain ⟨h5, -⟩ := hh; exact SG.n (o_mvh h5 ⟨rfl, Only.refl No _⟩)) ?_
        refine WDS.p rfl (by decide) (fun e w hR hh => by obtain ⟨h16, -⟩ := hh; exact SG.n (o_mvh h16 ⟨rfl, Only.refl No _⟩)) ?_
        refine WDS.p rfl (by decide) (fun e w hR hh => by obtain ⟨h119, h118, -⟩ := hh; exact SG.n (o_ixB (i := S[kq]) TI30 TI69 (h118.trans hnve) h119 (by omega) ⟨rfl, Only.refl No _⟩)) ?_
        refine WDS.p rfl (by decide) (fun e w hR hh => by obtain ⟨h120, -⟩ := hh; exact SG.n (o_fa 0 TI69 rfl TI3 rfl h120 ⟨rfl, Only.refl No _⟩)) ?_
        refine WDS.p rfl (by decide) (fun e w hR hh => by obtain ⟨h121, -⟩ := hh; rw [← hwd] at hR; exact SG.n (o_ld TI3 rfl h121 (own_cell (j := 0 + S[kq] * 3 + 0) (own_only hv2 hR (fun k hk hF => by rcases hF with hF | hF <;> first | exact hnv2 k hk hF | exact hF)) (by rw [Nat.zero_add]; exact (nds_at hxl (by decide)).trans rfl)) ⟨rfl, Only.refl No _⟩)) ?_
        refine WDS.p rfl (by decide) (fun e w hR hh => by obtain ⟨h5, -⟩ := hh; exact SG.n (o_mvh h5 ⟨rfl, Only.refl No _⟩)) ?_
        refine WDS.p rfl (by decide) (fun e w hR hh => by obtain ⟨h16, -⟩ := hh; exact SG.n (o_mvh h16 ⟨rfl, Only.refl No _⟩)) ?_
        refine WDS.p rfl (by decide) (fun e w hR hh => by obtain ⟨h124, h123, -⟩ := hh; exact SG.n (o_ixB (i := S[kq]) TI30 TI69 (h123.trans hnve) h124 (by omega) ⟨rfl, Only.refl No _⟩)) ?_
        refine WDS.p rfl (by decide) (fun e w hR hh => by obtain ⟨h125, -⟩ := hh; exact SG.n (o_fa 1 TI69 rfl TI43 rfl h125 ⟨rfl, Only.refl No _⟩)) ?_
        refine WDS.p rfl (by decide) (fun e w hR hh => by obtain ⟨h126, -⟩ := hh; rw [← hwd] at hR; exact SG.n (o_ld TI43 rfl h126 (own_cell (j := 0 + S[kq] * 3 + 1) (own_only hv2 hR (fun k hk hF => by rcases hF with hF | hF <;> first | exact hnv2 k hk hF | exact hF)) (by rw [Nat.zero_add]; exact (nds_at hxl (by decide)).trans rfl)) ⟨rfl, Only.refl No _⟩)) ?_
        refine WDS.mf 0 1 (fun v w => v = .tuple #[.int .i64 (D.length : Int), .int .i64 0] ∧ ∃ cv2, ArM w BA p mb cv2 (A ++ [mkO t S[kq] pI])) (fun v w w2 hR hh => by obtain ⟨h1, cv2, h2⟩ := hh; exact ⟨h1, cv2, h2.ext hR⟩) (by kernel_rfl) rfl rfl rfl (fun e w hR hW hh => by obtain ⟨h127, h122, h117, h113, h112, -⟩ := hh; rw [← hwd] at hR hW; have hW2 : Ext wd w := hW.mono (fun k _ hF => hF); exact SGX.n (OP.x (o_call Tryd.call13 (lc h112 (lc h113 (lc h117 (lc h122 (lc h127 ln))))) ((vadd_spec BA p mb cv A pI kz t.flat[S[kq]].kind t.flat[S[kq]].n w (hA.ext hW2) hAl).mono (fun v w' hh => by obtain ⟨h1, cv2, h2, h3, -⟩ := hh; rw [hadd] at h1 h2; exact ⟨⟨h1, cv2, h2⟩, h3⟩))))) ?_
        refine WDS.q 1 (fun v w => v = .tuple #[.int .i64 (D.length : Int), .int .i64 0] ∧ ∃ cv2, ArM w BA p mb cv2 (A ++ [mkO t S[kq] pI])) (fun v w w2 hR hh => by obtain ⟨h1, cv2, h2⟩ := hh; exact ⟨h1, cv2, h2.ext hR⟩) (by kernel_rfl) rfl (by decide) (fun e w hR hh => by obtain ⟨h128, -⟩ := hh; exact SG.n (o_mv ⟨h128, Only.refl No _⟩)) ?_
        refine WDS.p rfl (by decide) (fun e w hR hh => by obtain ⟨h111, -⟩ := hh; obtain ⟨h111, -⟩ := h111; exact SG.n (o_ext h111 rfl ⟨rfl, Only.refl No _⟩)) ?_
        refine WDS.p rfl (by decide) (fun e w hR hh => by obtain ⟨h111, -⟩ := hh; obtain ⟨h111, -⟩ := h111; exact SG.n (o_ext h111 rfl ⟨rfl, Only.refl No _⟩)) ?_
        refine WDS.p rfl (by decide) (fun e w hR hh => by obtain ⟨h129, -⟩ := hh; exact SG.n (o_ash h129 ⟨rfl, Only.refl No _⟩)) ?_
        rintro e w hR ⟨h18, h130, h129, h111, h128, h127, h126, h125, h124, h123, h122, h121, h120, h119, h118, h117, h116, h115, h114, h113, h112, h1, h5, h6, h7, h11, h12, h13, h14, h16, h17, -⟩
        rw [← hwd] at hR
        obtain ⟨-, cv2, hA2⟩ := h128
        have ho32 : Only (AF p mb cv) wd w := hR.mono (fun k _ hF => by rcases hF with hF | hF <;> first | exact hF | exact hF.elim)
        replace hv := own_only hv ho32 hnv
        replace hpa := own_only hpa ho32 hnpa
        replace hka := own_only hka ho32 hnka
        replace hnu := own_only hnu ho32 hnnu
        replace hop := own_only hop ho32 hnop
        replace hx := hx.trans' ho32 (fun _ h => h) (fun k hk hF => by have := (hAlt k hF).1; omega)
        clear hR hv2
        refine WL.c rfl (o_ash h130 ?_)
        refine WL.nil ?_
        refine W.seq ?_
        refine W.seq ?_
        refine W.region ?_
        refine WL.c rfl (o_mvh (show _ = Value.int _ _ from rfl) ?_)
        refine WL.c rfl (o_call Tryd.call15 (lc rfl ln) ((num_spec 0 _).mono ?_))
        rintro v132 w132 ⟨rfl, rfl⟩
        refine WL.c rfl (o_ne rfl rfl ?_)
        refine WL.c rfl (o_mvh (show _ = Value.bool _ from rfl) ?_)
        refine WL.g rfl (by decide) rfl (o_mvh h18 ?_)
        refine WL.g rfl (by decide) rfl (o_mvh h14 ?_)
        refine WL.g rfl (by decide) rfl (o_ne rfl rfl ?_)
        refine WL.c rfl (o_pickO rfl rfl ?_)
        refine WL.nil ?_
        refine W.condF' rfl (by simp) ?_
        refine W.skip ?_
        refine W.seq ?_
        refine W.region ?_
        refine WL.c rfl (o_mvh h12 ?_)
        refine WL.c rfl (o_mvh h16 ?_)
        refine WL.c rfl (o_mvh h18 ?_)
        refine WL.c rfl (o_ixB (i := S[kq]) TI75 TI3 (show _ = Value.slice (some ⟨b12, 0, none⟩) t.flat.length t.flat.length from by first | rfl | assumption) (show _ = Value.int .i64 (S[kq] : Int) from by first | rfl | assumption) (by omega) ?_)
        refine WL.u (o_stRj TI3 rfl (show 0 + S[kq] * 1 = S[kq] by omega) (show _ = Value.int .i64 (D.length : Int) from by first | rfl | assumption) rfl hnu rfl (by omega) ?_)
        intro ws hrs hos hss
        rw [ints_set] at hrs
        replace hos : Only (fun k => k = b12) _ ws := hos.mono (fun k _ hk => by simp only [Value.ownBlock, Option.some.injEq] at hk; exact hk.symm)
        have hAn : ∀ j, AF p mb cv2 j → ¬ j = b12 := fun j hF he => by
          rcases hF with rfl | rfl | hF
          · exact own_off hnu hA2.cell (by decide) (by rw [he]; rfl)
          · exact own_nmap hA2.map hnu (by rw [he]; rfl)
          · exact own_row_off hnu hA2.row (by decide) j hF (by rw [he]; rfl)
        replace hA2 := hA2.only hos (fun j hj he => hAn j hj he)
        replace hv := own_only hv hos (fun j hj he => own_off2 hv hnu (by decide) hj he)
        replace hpa := own_only hpa hos (fun j hj he => by simp only [Value.ownBlock, Option.some.injEq] at hj; omega)
        replace hka := own_only hka hos (fun j hj he => by simp only [Value.ownBlock, Option.some.injEq] at hj; omega)
        replace hop := own_only hop hos (fun j hj he => by have := (hop.lt j hj).1; omega)
        replace hx := hx.trans' hos (fun _ h => h) (fun j hj he => by omega)
        clear hnu hA
        have hnu := hrs
        have hA := hA2
        clear hrs hss hA2 hos
        refine WL.nil ?_
        refine W.seq ?_
        refine W.region ?_
        refine WL.c rfl (o_mvh h16 ?_)
        refine WL.c rfl (o_addi rfl rfl (by omega) ?_)
        refine WL.c rfl (o_ash (show _ = Value.int _ _ from rfl) ?_)
        refine WL.nil ?_
        refine W.block ?_
        refine W.loop (fun e w => ∃ (j : Nat) (ov2 : Value), S[kq] < j ∧ j ≤ t.flat.length ∧ e 1 = (v2) ∧ e 5 = (nv) ∧ e 6 = (Value.slice (some ⟨b6, 0, none⟩) t.flat.length t.flat.length) ∧ e 7 = (Value.slice (some ⟨b7, 0, none⟩) t.flat.length t.flat.length) ∧ e 11 = (.pointer (some ⟨p, 0, none⟩)) ∧ e 12 = (Value.slice (some ⟨b12, 0, none⟩) t.flat.length t.flat.length) ∧ e 13 = ov2 ∧ e 14 = .int .i64 (D.length : Int) ∧ e 16 = .int .i64 (S[kq] : Int) ∧ e 20 = .int .i64 (j : Int) ∧ w.ownsRow w0.heap.size 69 3 nv t.flat.length (nds t.flat) ∧ w.ownsRow b6 3 1 (Value.slice (some ⟨b6, 0, none⟩) t.flat.length t.flat.length) t.flat.length (ints PA) ∧ w.ownsRow b7 3 1 (Value.slice (some ⟨b7, 0, none⟩) t.flat.length t.flat.length) t.flat.length (ints KA) ∧ w.ownsRow b12 3 1 (Value.slice (some ⟨b12, 0, none⟩) t.flat.length t.flat.length) t.flat.length (ints (NU.set S[kq] D.length)) ∧ w.ownsRow (b12 + 1) 3 1 (ov2) (S.eraseIdx kq ++ kidsTo t S[kq] j).length (ints (S.eraseIdx kq ++ kidsTo t S[kq] j)) ∧ ArM w BA p mb cv2 (A ++ [mkO t S[kq] pI]) ∧ Ext w0 w) (fun e w => t.flat.length - (intOf (e 20)).toNat) ?_ ?_
        · exact ⟨S[kq] + 1, v13, by omega, by omega, h1, h5, h6, h7, h11, h12, h13, h14, h16, rfl, hv, hpa, hka, hnu, by rw [kidsTo_zero, List.append_nil]; exact hop, hA, hx⟩
        rintro e w ⟨j, ov2, hj1, hj2, h1, h5, h6, h7, h11, h12, h13, h14, h16, h20, hv, hpa, hka, hnu, hop, hA, hx⟩
        have hm20 := h20
        have hkl : (S.eraseIdx kq ++ kidsTo t S[kq] j).length ≤ 3000 := by
          have h1 := kidsTo_len t S[kq] j
          have h2 := List.length_eraseIdx_le S kq
          rw [List.length_append]; omega
        refine W.seq ?_
        refine W.seq ?_
        refine W.region ?_
        refine WL.c rfl (o_mvh h20 ?_)
        refine WL.c rfl (o_mvh h5 ?_)
        refine WL.c rfl (o_lenR TI30 rfl (Sl.own hv) ?_)
        refine WL.c rfl (o_lt rfl rfl ?_)
        refine WL.nil ?_
        refine W.cond rfl (fun c148 => ?_) (fun c148 => ?_)
        · try simp only [decide_eq_true_eq, decide_eq_false_iff_not, Bool.not_eq_true', Bool.not_eq_false', Bool.and_eq_true, Bool.or_eq_true, Bool.and_eq_false_iff, Bool.or_eq_false_iff] at c148
          have hjl : j < t.flat.length := by omega
          obtain ⟨hg1, hg2⟩ := hWr.get htw (j := j) (by omega) hjl
          refine W.skip ?_
          refine W.seq ?_
          refine W.block ?_
          refine W.seq ?_
          refine W.region ?_
          refine WL.c rfl (o_mvh h6 ?_)
          refine WL.c rfl (o_mvh h20 ?_)
          refine WL.c rfl (o_ixB (i := j) TI75 TI3 (show _ = Value.slice (some ⟨b6, 0, none⟩) t.flat.length t.flat.length from by first | rfl | assumption) (show _ = Value.int .i64 (j : Int) from by first | rfl | assumption) (by omega) ?_)
          refine WL.c rfl (o_ld TI3 rfl rfl (own_cell (j := 0 + j * 1) hpa (by rw [Nat.zero_add, Nat.mul_one]; exact ints_cell2 hg1)) ?_)
          refine WL.c rfl (o_mvh h16 ?_)
          refine WL.c rfl (o_eq rfl rfl ?_)
          refine WL.nil ?_
          refine W.cond rfl (fun c156 => ?_) (fun c156 => ?_)
          · try simp only [decide_eq_true_eq, decide_eq_false_iff_not, Bool.not_eq_true', Bool.not_eq_false', Bool.and_eq_true, Bool.or_eq_true, Bool.and_eq_false_iff, Bool.or_eq_false_iff] at c156
            have heq : (pkO t j).1 = S[kq] := by omega
            refine W.region ?_
            refine WL.c rfl (o_mvh h13 ?_)
            refine WL.c rfl (o_mvh h20 ?_)
            refine WL.ap1 (b12 + 1) rfl rfl TI75 TI3 (show _ = Value.int _ _ from rfl) rfl hop (by decide) (by decide) rfl (fun a ha => by simp [Value.cells] at ha; rw [ha]; rfl) rfl (by rw [maxLen_eq]; omega) (by omega) (by have := (hnu.lt b12 rfl).2; omega) ?_
            intro v160 w160 hown ho
            have hn6 : ∀ j', ov2.ownBlock = some j' → b12 + 1 ≤ j' := fun j' hj' => (hop.lt j' hj').1
            replace hv := own_only hv ho (fun j' hj' hF => own_row_off hop hv (by decide) j' hj' hF)
            replace hpa := own_only hpa ho (fun j' hj' hF => by have := hn6 j' hF; simp only [Value.ownBlock, Option.some.injEq] at hj'; omega)
            replace hka := own_only hka ho (fun j' hj' hF => by have := hn6 j' hF; simp only [Value.ownBlock, Option.some.injEq] at hj'; omega)
            replace hnu := own_only hnu ho (fun j' hj' hF => by have := hn6 j' hF; simp only [Value.ownBlock, Option.some.injEq] at hj'; omega)
            replace hA := hA.only ho (fun j' hj' hF => by
              rcases hj' with rfl | rfl | hj'
              · exact own_off hop hA.cell (by decide) hF
              · exact own_nmap hA.map hop hF
              · exact own_row_off hop hA.row (by decide) j' hj' hF)
            replace hx := hx.trans' ho (fun _ h => h) (fun j' hj' hF => by have := hn6 j' hF; omega)
            replace hown : w160.ownsRow (b12 + 1) 3 1 v160 (S.eraseIdx kq ++ kidsTo t S[kq] j ++ [j]).length (ints (S.eraseIdx kq ++ kidsTo t S[kq] j ++ [j])) := by rw [ints_snoc, List.length_append]; exact hown
            clear hop hn6
            have hop := hown
            clear hown ho
            refine WL.c rfl (o_ash (by first | exact (show _ = Value.slice _ _ _ from rfl) | exact rfl) ?_)
            refine WL.nil ?_
            refine W.region ?_
            refine WL.c rfl (o_mvh h20 ?_)
            refine WL.c rfl (o_addi rfl rfl (by omega) ?_)
            refine WL.c rfl (o_ash (show _ = Value.int _ _ from rfl) ?_)
            refine WL.nil ?_
            first
              | refine ⟨⟨j + 1, v160, by omega, by omega, h1, h5, h6, h7, h11, h12, rfl, h14, h16, rfl, hv, hpa, hka, hnu, by rw [kidsTo_step t hj1, if_pos heq, ← List.append_assoc]; exact hop, hA, hx⟩, ?_⟩
              | refine ⟨⟨j + 1, ov2, by omega, by omega, h1, h5, h6, h7, h11, h12, h13, h14, h16, rfl, hv, hpa, hka, hnu, by rw [kidsTo_step t hj1, if_neg hne, List.append_nil]; exact hop, hA, hx⟩, ?_⟩
            show t.flat.length - ((j : Int) + 1).toNat < _
            rw [hm20]; simp [intOf]; omega
          · try simp only [decide_eq_true_eq, decide_eq_false_iff_not, Bool.not_eq_true', Bool.not_eq_false', Bool.and_eq_true, Bool.or_eq_true, Bool.and_eq_false_iff, Bool.or_eq_false_iff] at c156
            have hne : ¬ (pkO t j).1 = S[kq] := by omega
            refine W.skip ?_
            refine W.region ?_
            refine WL.c rfl (o_mvh h20 ?_)
            refine WL.c rfl (o_addi rfl rfl (by omega) ?_)
            refine WL.c rfl (o_ash (show _ = Value.int _ _ from rfl) ?_)
            refine WL.nil ?_
            first
              | refine ⟨⟨j + 1, v160, by omega, by omega, h1, h5, h6, h7, h11, h12, rfl, h14, h16, rfl, hv, hpa, hka, hnu, by rw [kidsTo_step t hj1, if_pos heq, ← List.append_assoc]; exact hop, hA, hx⟩, ?_⟩
              | refine ⟨⟨j + 1, ov2, by omega, by omega, h1, h5, h6, h7, h11, h12, h13, h14, h16, rfl, hv, hpa, hka, hnu, by rw [kidsTo_step t hj1, if_neg hne, List.append_nil]; exact hop, hA, hx⟩, ?_⟩
            show t.flat.length - ((j : Int) + 1).toNat < _
            rw [hm20]; simp [intOf]; omega
        · try simp only [decide_eq_true_eq, decide_eq_false_iff_not, Bool.not_eq_true', Bool.not_eq_false', Bool.and_eq_true, Bool.or_eq_true, Bool.and_eq_false_iff, Bool.or_eq_false_iff] at c148
          obtain rfl : j = t.flat.length := by omega
          refine W.exit ?_
          refine W.region ?_
          refine WL.c rfl (o_mvh h14 ?_)
          refine WL.c rfl (o_addi rfl rfl (by omega) ?_)
          refine WL.c rfl (o_ash (show _ = Value.int _ _ from rfl) ?_)
          refine WL.nil ?_
          have hDx : (D ++ [S[kq]]).length = D.length + 1 := by simp
          refine ⟨⟨D ++ [S[kq]], S.eraseIdx kq ++ kidsOf t S[kq], A ++ [mkO t S[kq] pI], NU.set S[kq] D.length, ov2, cv2, by omega, h1, h5, h6, h7, h11, h12, h13, by rw [hDx]; rfl, hord.step htw hkS hp0 hp1, by rw [List.length_set]; exact hNl, fun m y hm => ?_, hv, hpa, hka, hnu, by rw [← kidsTo_all]; exact hop, hA, hx⟩, ?_⟩
          · by_cases hl : m < D.length
            · rw [List.getElem?_append_left hl] at hm
              have hne : S[kq] ≠ y := fun e => (List.nodup_append.1 hord.nd).2.2 y (List.mem_of_getElem? hm) S[kq] (List.getElem_mem hkS) e.symm
              rw [List.getElem?_set_ne hne]
              exact hNU m y hm
            · have hme : m = D.length := by have := (List.getElem?_eq_some_iff.1 hm).1; omega
              subst hme
              rw [List.getElem?_append_right (Nat.le_refl _), Nat.sub_self] at hm
              simp only [List.getElem?_cons_zero, Option.some.injEq] at hm
              rw [← hm, List.getElem?_set_self (by omega)]
          · show t.flat.length - ((D.length : Int) + 1).toNat < _
            rw [hm14]; simp [intOf]; omega
    · try simp only [decide_eq_true_eq, decide_eq_false_iff_not, Bool.not_eq_true', Bool.not_eq_false', Bool.and_eq_true, Bool.or_eq_true, Bool.and_eq_false_iff, Bool.or_eq_false_iff] at c74
      have hDn : D.length = t.flat.length := by omega
      refine W.exit ?_
      refine W.seq ?_
      have hfull := hord.full htw hDn hA.good
      have htold := hord.value htw hDn hA.good
      have hAl : A.length ≤ 1000000 := by rw [hord.len]; omega
      refine W.region ?_
      refine WL.c rfl (o_mvh h11 ?_)
      refine WL.c rfl (o_call Tryd.call16 (lc rfl ln) ((vvalue_spec BA p mb cv A _ hA hA.szB hAl).mono ?_))
      rintro v163 w163 ⟨hx163, -, hp⟩
      obtain ⟨-, wv, rfl, hwv⟩ := hp hfull
      rw [htold] at hwv
      replace hwv := own_mono hwv hx.size
      replace hx := hx.tr hx163
      replace hv := own_ext hv hx163
      replace hA := hA.ext hx163
      refine WL.c rfl (o_mvh (by first | exact (show _ = Value.tuple _ from rfl) | exact rfl) ?_)
      refine WL.c rfl (o_ext rfl rfl ?_)
      refine WL.c rfl (o_ext rfl rfl ?_)
      refine WL.c rfl (o_ash (by first | exact (show _ = Value.slice _ _ _ from rfl) | exact rfl) ?_)
      refine WL.c rfl (o_ash (show _ = Value.int _ _ from rfl) ?_)
      refine WL.nil ?_
      refine W.seq ?_
      refine W.region ?_
      refine WL.c rfl (o_mvh (show _ = Value.int _ _ from rfl) ?_)
      refine WL.c rfl (o_call Tryd.call15 (lc rfl ln) ((num_spec 0 _).mono ?_))
      rintro v167 w167 ⟨rfl, rfl⟩
      refine WL.c rfl (o_eq rfl rfl ?_)
      refine WL.c rfl (o_mvh (show _ = Value.bool _ from rfl) ?_)
      refine WL.g rfl (by decide) rfl (o_mvh (by first | exact (show _ = Value.slice _ _ _ from rfl) | exact rfl) ?_)
      refine WL.g rfl (by decide) rfl (o_mvh h5 ?_)
      refine WL.g rfl (by decide) rfl (o_call Tryd.call26 (lc rfl (lc rfl ln)) ((vEqual_spec t.flat t.flat wv nv _ (Sl.own hwv) (Sl.own hv) (by omega)).mono ?_))
      rintro v172 w172 ⟨rfl, hx172⟩
      replace hx := hx.tr hx172
      replace hv := own_ext hv hx172
      replace hA := hA.ext hx172
      refine WL.c rfl (o_pickA rfl rfl ?_)
      refine WL.c rfl (o_mvh (show _ = Value.bool _ from rfl) ?_)
      refine WL.g rfl (by simp) rfl (o_mvh h11 ?_)
      refine WL.g rfl (by simp) rfl (o_call Tryd.call19 (lc rfl ln) ((vcount_spec BA p mb cv A _ hA).mono ?_))
      rintro v176 w176 ⟨rfl, rfl⟩
      refine WL.g rfl (by simp) rfl (o_mvh h5 ?_)
      refine WL.g rfl (by simp) rfl (o_lenR TI30 rfl (Sl.own hv) ?_)
      refine WL.g rfl (by simp) rfl (o_eq rfl rfl ?_)
      refine WL.c rfl (o_pickA rfl rfl ?_)
      refine WL.c rfl (o_ash (show _ = Value.bool _ from rfl) ?_)
      refine WL.nil ?_
      refine W.ret ?_
      refine ret1v rfl (show _ = Value.bool _ from rfl) ?_
      exact ⟨congrArg Value.bool (by rw [hord.len, hDn]; simp), hx⟩
end Go.Proofs.YtgmjfcekeglhjaaDoor
