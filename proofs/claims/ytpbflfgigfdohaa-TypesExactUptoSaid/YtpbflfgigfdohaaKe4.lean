/-
  Walks and lemmas. Written by program out of specs of mine.
-/
import Derived.WalkKit
import Derived.WalkSpells
import Derived.WalkLawsBesides
import Derived.Deep.Quiet
import Derived.StillTail
import Derived.StringKeys
import Derived.Laws.StructEq
import Derived.Laws.Externs
import Derived.Laws.Tables
import Derived.Scope
import Derived.Test.YtpbflfgigfdohaaProg
import Derived.Laws.AppendOwn
import Derived.Maps.AppendAt
import Derived.Recover
import Derived.Lib.Bytealg
import Derived.SizedLaws
import Derived.ChangeArms
import Derived.ChangeSlices
import Derived.Maps.OwnSet
import Derived.Test.YtpbflfgigfdohaaRows
import Derived.ProofKit
import Derived.OpenShut
import Derived.ShutString
import Derived.ChangeOld
import Derived.Below
import Derived.JoinedCond
import Derived.SliceStrings
import Derived.Test.YtpbflfgigfdohaaKe3
set_option linter.unusedSimpArgs false
set_option linter.unusedVariables false
set_option maxRecDepth 100000
namespace Go.Proofs.Ytpbflfgigfdohaa
open Go Go.Vc Go.RowKit Go.Proofs

section
open Go.Vc
theorem retTTC {fn : Func} {P : Program} {e : Env} {w : World} {R : Value → World → Prop} {t u a : Tmp} {T : TypeId} {d : TypeDesc} {s bs b o : Nat} {z v1 v2 : Value} {xs : List Value} (hr : fn.results = #[.tmp t, .tmp u, .cell a T]) (ht : Ty P T d s bs z) (hd : isAggD d = true) (h1 : e t = v1) (h3 : e u = v2) (h2 : e a = .pointer (some ⟨b, o, none⟩)) (hc : Cells w b o xs) (hl : xs.length = s)
  (h : R (.tuple #[v1, v2, .agg xs.toArray]) w) : Rt fn P R e w :=
 ⟨fun _ ac ha => ⟨.tuple #[v1, v2, .agg xs.toArray], by
  have g1 : ac.tmps.getD t undef = v1 := by rw [ha.get]; exact h1
  have g3 : ac.tmps.getD u undef = v2 := by rw [ha.get]; exact h3
  have g2 : ac.tmps.getD a undef = .pointer (some ⟨b, o, none⟩) := by rw [ha.get]; exact h2
  simp only [Array.getD_eq_getD_getElem?] at g1 g2 g3
  simp [results, hr, asAddr, g1, g2, g3, run_loadA ht hd hc hl], h⟩⟩
end
noncomputable def fA (D : List Df) : Option (Int × Int) := (resA D).or ((ringF D).or (deepF D (TD D)))
noncomputable def flt (D : List Df) : Int × Int := (fA D).getD (0, 0)
noncomputable def ordR (D : List Df) : List Nat := if fA D = none then ordN D else []
noncomputable def depR (D : List Df) : List Nat := if fA D = none then (List.range D.length).map (depN D (TD D)) else []
theorem PRes.form {D : List Df} {dv : Value} {V : Nat → Value} {w0 w' : World} {v : Value} (h : PRes D dv V w0 v w') : ∃ (pv : Value) (er at_ : Int), v = .tuple #[pv, .agg #[.int .i64 er, .int .i64 at_]] ∧ ((¬ er = 0 ∧ pv = .pointer none ∧ resA D = some (er, at_)) ∨ (er = 0 ∧ at_ = 0 ∧ resA D = none ∧ (chkS D).2.2 = 0 ∧ ∃ pb mb, pv = .pointer (some ⟨pb, 0, none⟩) ∧ Bk w' pb mb D dv V)) ∧ Ext w0 w' := by
 rcases h with ⟨er, at_, rfl, h1, h2, h3⟩ | ⟨h1, h2, pb, mb, rfl, h3, h4⟩
 ·exact ⟨_, er, at_, rfl, .inl ⟨h2, rfl, h1⟩, h3⟩
 exact ⟨_, 0, 0, rfl, .inr ⟨rfl, rfl, h1, h2, pb, mb, rfl, h3⟩, h4⟩
/-- what checked answers -/
def PChk (D : List Df) (dv : Value) (V : Nat → Value) (w0 : World) (v : Value) (w' : World) : Prop :=
 ∃ (pv dpv : Value) (er at_ : Int), v = .tuple #[pv, dpv, .agg #[.int .i64 er, .int .i64 at_]] ∧ flt D = (er, at_) ∧ ((¬ er = 0 ∧ ¬ fA D = none ∧ dpv = .slice none 0 0) ∨ (er = 0 ∧ fA D = none ∧ (chkS D).2.2 = 0 ∧ ∃ pb mb, pv = .pointer (some ⟨pb, 0, none⟩) ∧ Bk w' pb mb D dv V)) ∧ w'.ownsRow w0.heap.size 3 1 dpv (depR D).length ((depR D).map iv) ∧ Ext w0 w'
theorem kn9_of {D : List Df} (hr : resA D = none) (hck : (chkS D).2.2 = 0) : kn9 D := resF_known (by rw [← resA_ok hck]; exact hr)
theorem fA_res {D : List Df} {v : Int × Int} (h : resA D = some v) : fA D = some v := by unfold fA; rw [h]; rfl
theorem fA_ring {D : List Df} {i : Nat} (h : resA D = none) (hi : i < D.length) (ht : Relation.TransGen (Us (usesD D)) i i) (hb : ∀ j, j < i → ¬ Relation.TransGen (Us (usesD D)) j j) : fA D = some (82, D[i].at_) := by
 unfold fA ringF
 rw [h, Option.none_or, firstN_hit hi (v := (82, D[i].at_)) (by rw [if_pos ht, getD_at hi]) (fun j hj => if_neg (hb j hj))]
 rfl
theorem ring_none {D : List Df} (hb : ∀ j, j < D.length → ¬ Relation.TransGen (Us (usesD D)) j j) : ringF D = none := firstN_miss fun j hj => if_neg (hb j hj)
theorem fA_deep {D : List Df} {i : Nat} (h : resA D = none) (hr : ringF D = none) (hi : i < D.length) (ht : 64 < depN D (TD D) i) (hb : ∀ j, j < i → ¬ 64 < depN D (TD D) j) : fA D = some (83, D[i].at_) := by
 unfold fA deepF
 rw [h, hr, Option.none_or, Option.none_or]
 exact firstN_hit hi (by rw [if_pos ht, getD_at hi]) (fun j hj => if_neg (hb j hj))
theorem fA_none {D : List Df} (h : resA D = none) (hr : ringF D = none) (hb : ∀ j, j < D.length → ¬ 64 < depN D (TD D) j) : fA D = none := by
 unfold fA deepF
 rw [h, hr, Option.none_or, Option.none_or]
 exact firstN_miss (fun j hj => if_neg (hb j hj))
theorem fA_back {D : List Df} (h : fA D = none) : resA D = none ∧ ringF D = none ∧ deepF D (TD D) = none := by
 unfold fA at h
 cases h1 : resA D with
 | some v => rw [h1] at h; cases h
 | none =>
  rw [h1, Option.none_or] at h
  cases h2 : ringF D with
  | some v => rw [h2] at h; cases h
  | none => rw [h2, Option.none_or] at h; exact ⟨rfl, rfl, h⟩
theorem dps_map (n : Nat) (f : Nat → Nat) : dps n f = ((List.range n).map f).map iv := by unfold dps; rw [List.map_map]; rfl
theorem flt_some {D : List Df} {v : Int × Int} (h : fA D = some v) : flt D = v := by unfold flt; rw [h]; rfl
theorem flt_none {D : List Df} (h : fA D = none) : flt D = (0, 0) := by unfold flt; rw [h]; rfl
theorem depR_bad {D : List Df} (h : ¬ fA D = none) : depR D = [] := if_neg h
theorem depR_ok {D : List Df} (h : fA D = none) : depR D = (List.range D.length).map (depN D (TD D)) := if_pos h
theorem Bk.only {w w' : World} {pb mb c : Nat} {D : List Df} {dv : Value} {V : Nat → Value} {cs : Array Value} {fr : Nat × Nat} (h : Bk w pb mb D dv V) (ho : Only (fun k => k = c) w w') (hc : w.heap[c]? = some (.cells cs 28 fr)) (hd : DefR w' D dv V) : Bk w' pb mb D dv V :=
 ⟨ho.blk h.cell (fun e => by
  have h1 := h.cell
  rw [e, hc] at h1
  simp at h1), hd, h.mp.only ho (fun e => map_blk_ne h.mp hc e.symm)⟩
theorem some_ne {D : List Df} {v : Int × Int} (h : fA D = some v) : ¬ fA D = none := by rw [h]; simp

set_option maxHeartbeats 4000000 in
theorem names_checked_spec (D : List Df) (dv : Value) (V : Nat → Value) (w0 : World) (hD : DefR w0 D dv V) (hlim : DOk D) : Ca Try.prog 55 #[.agg #[dv]] w0 (PChk D dv V w0) := by
 have hlen := hlim.len
 have hD00 := hD
 refine Ca.of Try.func55 Try.ntmps55 rfl rfl (W.seq (W.region (WL.c rfl (o_boxB rfl ?_))))
 intro w1 hC1 hx1 hs1
 obtain ⟨b1, hb1⟩ : ∃ b, b = w0.heap.size := ⟨_, rfl⟩
 rw [← hb1] at hC1 ⊢
 replace hC1 : w1.heap[b1]? = some (.cells ([dv]).toArray 25 (0, 0)) := hC1
 have hx := hx1
 replace hD := hD.ext hx1
 refine WL.c rfl (o_ash (by first | exact (show _ = Value.pointer _ from rfl) | exact rfl) (WL.c rfl (o_ash (by first | exact vS | exact rfl) (WL.c rfl (o_alB TI28 ?_)))))
 have hxq := hx
 intro wb hC4 hxb hsb
 replace hx := hx.tr hxb
 replace hD := hD.ext hxb
 replace hC1 := hxb.blk hC1 (fun h => h)
 obtain ⟨c4, hc4⟩ : ∃ c, c = w1.heap.size := ⟨_, rfl⟩
 rw [← hc4] at hC4 ⊢
 replace hC4 : wb.heap[c4]? = some (.cells #[.int .i64 0, .int .i64 0] 28 (0, 0)) := hC4
 have hz4 : w0.heap.size ≤ c4 := by rw [hc4]; exact hxq.size
 clear hxq hxb
 refine WL.nil (W.seq (W.region (WL.c rfl (o_ldA TI25 rfl rfl (show Cells _ b1 0 [dv] from Cells.of hC1 0 _ (by simp)) rfl (WL.c rfl (o_call Try.call78 (lc rfl ln) ((resolved_spec D dv V _ hD hlim).mono ?_)))))))
 intro v14 w14 hP
 obtain ⟨pv, er, at_, rfl, hpv, hx14⟩ := hP.form
 clear hP
 replace hx := hx.tr hx14
 replace hD := hD.ext hx14
 replace hC1 := hx14.blk hC1 (fun h => h)
 replace hC4 := hx14.blk hC4 (fun h => h)
 refine WL.c rfl (o_mvh (by first | exact (show _ = Value.tuple _ from rfl) | exact rfl) (WL.c rfl (o_ext rfl rfl (WL.c rfl (o_ext rfl rfl (WL.c rfl (o_alB TI28 ?_)))))))
 intro wa hCa hxa hsa
 refine WL.c rfl (o_ash (by first | exact (show _ = Value.pointer _ from rfl) | exact rfl) (WL.u (o_stA TI28 rfl (show _ = Value.agg ([.int .i64 er, .int .i64 at_]).toArray from rfl) rfl rfl hCa rfl ?_)))
 intro wb6 hC6 hob hsb
 have hxb := Ext.own hxa (Nat.le_refl _) hob
 obtain ⟨b6, hb6⟩ : ∃ b, b = w14.heap.size := ⟨_, rfl⟩
 rw [← hb6] at hC6 ⊢
 clear hCa hxa hsa hob hsb
 replace hx := hx.tr hxb
 replace hD := hD.ext hxb
 replace hC1 := hxb.blk hC1 (fun h => h)
 replace hC4 := hxb.blk hC4 (fun h => h)
 have hx6b := hxb
 clear hxb
 refine WL.nil (W.seq (W.seq (W.region (WL.c rfl (o_fa 0 TI28 rfl TI26 rfl rfl (WL.c rfl (o_ld TI26 rfl rfl (cell_of hC6 rfl) (WL.c rfl (o_ne rfl rfl (WL.nil (W.cond rfl (fun c19 => ?_) (fun c19 => ?_))))))))))))
 ·try simp only [cs8] at c19
  have hne : ¬ er = 0 := by simpa using c19
  obtain ⟨-, rfl, hra⟩ : _ ∧ pv = .pointer none ∧ resA D = some (er, at_) := by
   rcases hpv with h | h
   ·exact h
   exact absurd h.1 hne
  refine W.seq (W.tail 3 rfl (by kernel_rfl) (WS.c rfl ((SO.o rfl (o_ldA TI28 rfl rfl (show Cells _ b6 0 [.int .i64 er, .int .i64 at_] from Cells.of hC6 0 _ (by simp)) rfl ⟨rfl, rfl⟩))) (WS.c rfl ((SO.o rfl (o_ash (by first | exact (show _ = Value.pointer _ from rfl) | exact rfl) ⟨rfl, rfl⟩))) (WS.c rfl ((SO.o rfl (o_ash (by first | exact vS | exact rfl) ⟨rfl, rfl⟩))) (WS.nil ?_)))))
  replace hx := hx.tr (Only.drew _)
  replace hC4 : (World.drew _).heap[c4]? = some (.cells #[.int .i64 0, .int .i64 0] 28 (0, 0)) := hC4
  refine WL.u (o_stA TI28 rfl (show _ = Value.agg #[.int .i64 er, .int .i64 at_] from rfl) rfl rfl hC4 rfl ?_)
  intro wz hCz hoz hsz
  replace hx := hx.trans' hoz (fun _ h => h) (fun b hb he => by omega)
  refine WL.nil (W.ret (retTTC rfl TI28 rfl (show _ = Value.pointer none from rfl) (show _ = Value.slice none 0 0 from rfl) rfl (show Cells _ c4 0 [.int .i64 er, .int .i64 at_] from Cells.of hCz 0 _ (by simp)) rfl ?_))
  have hfa := fA_res hra
  exact ⟨_, _, er, at_, rfl, flt_some hfa, .inl ⟨by first | exact hne | decide, some_ne hfa, rfl⟩, by rw [depR_bad (some_ne hfa)]; exact World.ownsRow_nil _ _ _ _, hx⟩
 try simp only [cs8] at c19
 have her : er = 0 := by simpa using c19
 obtain ⟨hra, hck, pb, mb, rfl, hB14⟩ : resA D = none ∧ (chkS D).2.2 = 0 ∧ ∃ pb mb, pv = .pointer (some ⟨pb, 0, none⟩) ∧ Bk w14 pb mb D dv V := by
  rcases hpv with h | h
  ·exact absurd her h.1
  exact h.2.2
 have hB := hB14.ext hx6b
 have hT := trd_of hck
 have hkn := kn9_of hra hck
 have hU : ∀ i, i < D.length → ∀ j ∈ usesD D i, j < D.length := fun i hi => uses_lt hkn hi
 clear hD hC1
 refine W.skip (W.seq (W.seq (W.region (WL.c rfl (o_mvh (by first | exact (show _ = Value.pointer _ from rfl) | exact rfl) (WL.c rfl (o_nil rfl (WL.c rfl (o_fa 0 TI136 rfl TI23 rfl rfl (WL.c rfl (o_ld TI23 rfl rfl (cell_of hB.cell rfl) (WL.c rfl (o_lenR TI23 rfl hB.rd.row (WL.c rfl (o_mvh vI (WL.nil (W.block (W.loop (fun e w => ∃ i : Nat, i ≤ D.length ∧ e 4 = .pointer (some ⟨c4, 0, none⟩) ∧ e 5 = .pointer (some ⟨pb, 0, none⟩) ∧ e 24 = dv ∧ e 25 = .int .i64 (D.length : Int) ∧ e 26 = .int .i64 (i : Int) ∧ (∀ j, j < i → ¬ Relation.TransGen (Us (usesD D)) j j) ∧ Bk w pb mb D dv V ∧ w.heap[c4]? = some (.cells #[.int .i64 0, .int .i64 0] 28 (0, 0)) ∧ Ext w0 w) (fun e w => D.length - (intOf (e 26)).toNat) ?_ ?_))))))))))))))))))
 ·exact ⟨0, Nat.zero_le _, rfl, rfl, rfl, rfl, rfl, fun j hj => by omega, hB, hC4, hx⟩
 rintro e w ⟨i, hi, h4, h5, h24, h25, h26, hno, hB, hC4, hx⟩
 have hm26 := h26
 refine W.seq (W.region (WL.c rfl (o_lt h26 h25 (WL.nil (W.seq (W.cond rfl (fun c27 => ?_) (fun c27 => ?_)))))))
 ·try simp only [cs8] at c27
  have hi1 : i < D.length := by omega
  obtain ⟨tb, to_, tc, rfl, htc, hty⟩ := hB.rd.atk hi1
  refine W.skip (W.seq (W.block (W.seq (W.region (WL.c rfl (o_mvh h26 (WL.c rfl (o_ixB TI23 TI39 h24 h26 (by omega) (WL.c rfl (o_ldA TI39 rfl rfl htc rfl (WL.c rfl (o_alB TI39 ?_))))))))))))
  intro wa hCa hxa hsa
  refine WL.c rfl (o_ash vI (WL.u (o_stA TI39 rfl (show _ = Value.agg (dcell D[i] (V i)).toArray from rfl) rfl (by simp only [dcell, List.toArray, Array.toList, List.all_cons, List.all_nil, sl_one1 hty]; rfl) hCa rfl ?_)))
  intro wb8 hC8 hob hsb
  have hxb := Ext.own hxa (Nat.le_refl _) hob
  obtain ⟨b8, hb8⟩ : ∃ b, b = w.heap.size := ⟨_, rfl⟩
  rw [← hb8] at hC8 ⊢
  clear hCa hxa hsa hob hsb
  replace hx := hx.tr hxb
  replace hB := hB.ext hxb
  replace hC4 := hxb.blk hC4 (fun h => h)
  replace hty := hty.ext hxb
  clear hxb
  refine WL.nil (W.seq (W.region (WL.c rfl (o_mvh h5 (WL.c rfl (o_mvh vI (WL.c rfl (o_call Try.call79 (lc rfl (lc rfl ln)) ((ringed_spec pb mb i D _ V _ hB hlim hU hi1).mono ?_)))))))))
  rintro v33 w33 ⟨⟨rb, rfl, hrb⟩, hx33⟩
  replace hx := hx.tr hx33
  replace hB := hB.ext hx33
  replace hC4 := hx33.blk hC4 (fun h => h)
  replace hC8 := hx33.blk hC8 (fun h => h)
  refine WL.nil (W.cond rfl (fun c33 => ?_) (fun c33 => ?_))
  ·try simp only [cs8] at c33
   have hring := hrb.1 c33
   refine W.seq (W.region (WL.c rfl (o_fa 1 TI39 rfl TI3 rfl rfl (WL.c rfl (o_ld TI3 rfl rfl (cell_of hC8 rfl) (WL.c rfl (o_call Try.call80 (lc rfl (lc rfl ln)) ((fault_spec 82 D[i].at_ _).mono ?_))))))))
   rintro v36 w36 ⟨rfl, hx36⟩
   replace hx := hx.tr hx36
   replace hB := hB.ext hx36
   replace hC4 := hx36.blk hC4 (fun h => h)
   refine WL.c rfl (o_ash (by first | exact (show _ = Value.pointer _ from rfl) | exact rfl) (WL.c rfl (o_ash (by first | exact vS | exact rfl) (WL.u (o_stA TI28 h4 (show _ = Value.agg #[.int .i64 82, .int .i64 D[i].at_] from rfl) rfl rfl hC4 rfl ?_)))))
   intro wz hCz hoz hsz
   replace hx := hx.trans' hoz (fun _ h => h) (fun b hb he => by omega)
   refine WL.nil (W.ret (retTTC rfl TI28 rfl (show _ = Value.pointer none from rfl) (show _ = Value.slice none 0 0 from rfl) h4 (show Cells _ c4 0 [.int .i64 82, .int .i64 D[i].at_] from Cells.of hCz 0 _ (by simp)) rfl ?_))
   have hfa := fA_ring hra hi1 hring hno
   exact ⟨_, _, 82, D[i].at_, rfl, flt_some hfa, .inl ⟨by first | exact hne | decide, some_ne hfa, rfl⟩, by rw [depR_bad (some_ne hfa)]; exact World.ownsRow_nil _ _ _ _, hx⟩
  try simp only [cs8] at c33
  have hnr : ¬ Relation.TransGen (Us (usesD D)) i i := fun h => by have := hrb.2 h; rw [this] at c33; cases c33
  refine W.skip (W.region (WL.c rfl (o_addi h26 rfl (by omega) (WL.c rfl (o_mvh vI (WL.nil (⟨⟨i + 1, by omega, h4, h5, h24, h25, rfl, fun j hj => ?_, hB, hC4, hx⟩, ?_⟩)))))))
  ·rcases Nat.lt_or_ge j i with h | h
   ·exact hno j h
   rw [show j = i by omega]; exact hnr
  show D.length - ((i : Int) + 1).toNat < _
  rw [hm26]; simp [intOf]; omega
 try simp only [cs8] at c27
 have hi1 : i = D.length := by omega
 rw [hi1] at hno
 have hrn := ring_none hno
 refine W.exit (W.seq (W.region (WL.c rfl (o_mvh h5 (WL.c rfl (o_call Try.call81 (lc rfl ln) ((depths_spec pb mb D (TD D) dv V _ hB hlim hT hkn hno).mono ?_)))))))
 rintro v39 w39 ⟨hdp, hx39⟩
 replace hdp := own_mono hdp hx.size
 replace hx := hx.tr hx39
 replace hB := hB.ext hx39
 replace hC4 := hx39.blk hC4 (fun h => h)
 refine WL.c rfl (o_ash (by first | exact vS | exact rfl) (WL.nil (W.seq (W.seq (W.region (WL.c rfl (o_mvh h5 (WL.c rfl (o_nil rfl (WL.c rfl (o_fa 0 TI136 rfl TI23 rfl rfl (WL.c rfl (o_ld TI23 rfl rfl (cell_of hB.cell rfl) (WL.c rfl (o_lenR TI23 rfl hB.rd.row (WL.c rfl (o_mvh vI (WL.nil (W.block (W.loop (fun e w => ∃ i : Nat, i ≤ D.length ∧ e 4 = .pointer (some ⟨c4, 0, none⟩) ∧ e 5 = .pointer (some ⟨pb, 0, none⟩) ∧ e 9 = v39 ∧ e 43 = dv ∧ e 44 = .int .i64 (D.length : Int) ∧ e 45 = .int .i64 (i : Int) ∧ (∀ j, j < i → ¬ 64 < depN D (TD D) j) ∧ w.ownsRow w0.heap.size 3 1 v39 D.length (dps D.length (depN D (TD D))) ∧ Bk w pb mb D dv V ∧ w.heap[c4]? = some (.cells #[.int .i64 0, .int .i64 0] 28 (0, 0)) ∧ Ext w0 w) (fun e w => D.length - (intOf (e 45)).toNat) ?_ ?_))))))))))))))))))))
 ·exact ⟨0, Nat.zero_le _, h4, h5, rfl, rfl, rfl, rfl, fun j hj => by omega, hdp, hB, hC4, hx⟩
 rintro e w ⟨i, hi, h4, h5, h9, h43, h44, h45, hnd, hdp, hB, hC4, hx⟩
 have hm45 := h45
 refine W.seq (W.region (WL.c rfl (o_lt h45 h44 (WL.nil (W.seq (W.cond rfl (fun c46 => ?_) (fun c46 => ?_)))))))
 ·try simp only [cs8] at c46
  have hi1 : i < D.length := by omega
  obtain ⟨tb, to_, tc, rfl, htc, hty⟩ := hB.rd.atk hi1
  obtain ⟨ub, uo, uc, hVd, hcell⟩ := Sl.at1 (Sl.own hdp) hi1 (dps_at hi1)
  rw [hVd] at h9
  have hdw := hdp
  refine W.skip (W.seq (W.block (W.seq (W.region (WL.c rfl (o_mvh h45 (WL.c rfl (o_ixB TI23 TI39 h43 h45 (by omega) (WL.c rfl (o_ldA TI39 rfl rfl htc rfl (WL.c rfl (o_alB TI39 ?_))))))))))))
  intro wa hCa hxa hsa
  refine WL.c rfl (o_ash vI (WL.u (o_stA TI39 rfl (show _ = Value.agg (dcell D[i] (V i)).toArray from rfl) rfl (by simp only [dcell, List.toArray, Array.toList, List.all_cons, List.all_nil, sl_one1 hty]; rfl) hCa rfl ?_)))
  intro wb11 hC11 hob hsb
  have hxb := Ext.own hxa (Nat.le_refl _) hob
  obtain ⟨b11, hb11⟩ : ∃ b, b = w.heap.size := ⟨_, rfl⟩
  rw [← hb11] at hC11 ⊢
  clear hCa hxa hsa hob hsb
  replace hx := hx.tr hxb
  replace hB := hB.ext hxb
  replace hC4 := hxb.blk hC4 (fun h => h)
  replace hty := hty.ext hxb
  replace hdp := own_ext hdp hxb
  clear hxb
  refine WL.nil (W.seq (W.region (WL.c rfl (o_mvh h9 (WL.c rfl (o_mvh vI (WL.c rfl (o_ixB (i := i) TI79 TI3 (show _ = Value.slice (some ⟨ub, uo, none⟩) D.length uc from rfl) rfl (by omega) ?_))))))))
  refine WL.c rfl (o_ld TI3 rfl rfl (by
    have hq := Sl.own hdp
    obtain ⟨ub2, uo2, uc2, hV2, hcell2⟩ := Sl.at1 hq hi1 (dps_at hi1)
    rw [hVd] at hV2
    simp only [Value.slice.injEq, Option.some.injEq, Addr.mk.injEq] at hV2
    obtain ⟨⟨rfl, rfl, -⟩, -, -⟩ := hV2
    exact hcell2) ?_)
  refine WL.c rfl (o_gt rfl rfl (WL.nil (W.cond rfl (fun c54 => ?_) (fun c54 => ?_))))
  ·try simp only [cs8] at c54
   have hdeep : 64 < depN D (TD D) i := by omega
   refine W.seq (W.region (WL.c rfl (o_fa 1 TI39 rfl TI3 rfl rfl (WL.c rfl (o_ld TI3 rfl rfl (cell_of hC11 rfl) (WL.c rfl (o_call Try.call80 (lc rfl (lc rfl ln)) ((fault_spec 83 D[i].at_ _).mono ?_))))))))
   rintro v57 w57 ⟨rfl, hx57⟩
   replace hx := hx.tr hx57
   replace hB := hB.ext hx57
   replace hC4 := hx57.blk hC4 (fun h => h)
   refine WL.c rfl (o_ash (by first | exact (show _ = Value.pointer _ from rfl) | exact rfl) (WL.c rfl (o_ash (by first | exact vS | exact rfl) (WL.u (o_stA TI28 h4 (show _ = Value.agg #[.int .i64 83, .int .i64 D[i].at_] from rfl) rfl rfl hC4 rfl ?_)))))
   intro wz hCz hoz hsz
   replace hx := hx.trans' hoz (fun _ h => h) (fun b hb he => by omega)
   refine WL.nil (W.ret (retTTC rfl TI28 rfl (show _ = Value.pointer none from rfl) (show _ = Value.slice none 0 0 from rfl) h4 (show Cells _ c4 0 [.int .i64 83, .int .i64 D[i].at_] from Cells.of hCz 0 _ (by simp)) rfl ?_))
   have hfa := fA_deep hra hrn hi1 hdeep hnd
   exact ⟨_, _, 83, D[i].at_, rfl, flt_some hfa, .inl ⟨by first | exact hne | decide, some_ne hfa, rfl⟩, by rw [depR_bad (some_ne hfa)]; exact World.ownsRow_nil _ _ _ _, hx⟩
  try simp only [cs8] at c54
  have hdeep : ¬ 64 < depN D (TD D) i := by omega
  refine W.skip (W.region (WL.c rfl (o_addi h45 rfl (by omega) (WL.c rfl (o_mvh vI (WL.nil (⟨⟨i + 1, by omega, h4, h5, h9.trans hVd.symm, h43, h44, rfl, fun j hj => ?_, hdp, hB, hC4, hx⟩, ?_⟩)))))))
  ·rcases Nat.lt_or_ge j i with h | h
   ·exact hnd j h
   rw [show j = i by omega]; omega
  show D.length - ((i : Int) + 1).toNat < _
  rw [hm45]; simp [intOf]; omega
 try simp only [cs8] at c46
 have hi1 : i = D.length := by omega
 rw [hi1] at hnd
 have hfn := fA_none hra hrn hnd
 refine W.exit (W.seq (W.region (WL.c rfl (o_mvh h5 (WL.c rfl (o_mvh h9 (WL.c rfl (o_bldC (cs := [(.int .i64 0), (.int .i64 0)]) TI28 (Sizes.cons TI26 (Sizes.cons TI3 Sizes.nil)) rfl lnp rfl rfl (WL.c rfl (o_ash (by first | exact (show _ = Value.pointer _ from rfl) | exact rfl) (WL.c rfl (o_ash (by first | exact vS | exact rfl) (WL.u (o_stA TI28 h4 (show _ = Value.agg #[.int .i64 0, .int .i64 0] from rfl) rfl rfl hC4 rfl ?_))))))))))))))
 intro wz hCz hoz hsz
 replace hx := hx.trans' hoz (fun _ h => h) (fun b hb he => by omega)
 refine WL.nil (W.ret ?_)
 have hB2 := hB.only hoz hC4 (hD00.ext hx)
 refine retTTC rfl TI28 rfl (show _ = Value.pointer (some ⟨pb, 0, none⟩) from rfl) (show _ = v39 from rfl) h4 (show Cells _ c4 0 [.int .i64 0, .int .i64 0] from Cells.of hCz 0 _ (by simp)) rfl ?_
 exact ⟨_, _, 0, 0, rfl, flt_none hfn, .inr ⟨rfl, hfn, hck, pb, mb, rfl, hB2⟩, by rw [depR_ok hfn, List.length_map, List.length_range, ← dps_map]; exact own_only hdp hoz (fun b hb he => by subst he; exact own_off hdp hC4 (by decide) hb), hx⟩
end Go.Proofs.Ytpbflfgigfdohaa

namespace Go.Proofs.Ytpbflfgigfdohaa
open Go Go.Vc Go.RowKit Go.Proofs

theorem nat_flt {D : List Df} {er at_ : Int} (h : flt D = (er, at_)) : (flt D).1 = er ∧ (flt D).2 = at_ := by rw [h]; exact ⟨rfl, rfl⟩
theorem ordR_bad {D : List Df} (h : ¬ fA D = none) : ordR D = [] := if_neg h
theorem ordR_ok {D : List Df} (h : fA D = none) : ordR D = ordN D := if_pos h

set_option maxHeartbeats 1000000 in
theorem names_order_spec (D : List Df) (dv : Value) (V : Nat → Value) (w0 : World) (hD : DefR w0 D dv V) (hlim : DOk D) : Ca Try.prog 29 #[.agg #[dv]] w0 (fun v w' => ∃ ov, v = .tuple #[ov, .agg #[.int .i64 (flt D).1, .int .i64 (flt D).2]] ∧ w'.ownsRow w0.heap.size 3 1 ov (ordR D).length ((ordR D).map iv) ∧ Ext w0 w') := by
 refine Ca.of Try.func29 Try.ntmps29 rfl rfl (W.seq (W.region (WL.c rfl (o_boxB rfl ?_))))
 intro w1 hC1 hx1 hs1
 obtain ⟨b1, hb1⟩ : ∃ b, b = w0.heap.size := ⟨_, rfl⟩
 rw [← hb1] at hC1 ⊢
 replace hC1 : w1.heap[b1]? = some (.cells ([dv]).toArray 25 (0, 0)) := hC1
 have hx := hx1
 replace hD := hD.ext hx1
 have hD00 := hD
 refine WL.c rfl (o_ash (by first | exact vS | exact rfl) ?_)
 try have h2r := h18r
 refine WL.c rfl (o_alB TI28 ?_)
 have hxq := hx
 intro wb hC3 hxb hsb
 replace hx := hx.tr hxb
 replace hD := hD.ext hxb
 replace hC1 := hxb.blk hC1 (fun h => h)
 obtain ⟨c3, hc3⟩ : ∃ c, c = w1.heap.size := ⟨_, rfl⟩
 rw [← hc3] at hC3 ⊢
 replace hC3 : wb.heap[c3]? = some (.cells #[.int .i64 0, .int .i64 0] 28 (0, 0)) := hC3
 have hz3 : w0.heap.size ≤ c3 := by rw [hc3]; exact hxq.size
 clear hxq hxb
 refine WL.nil (W.seq (W.region (WL.c rfl (o_ldA TI25 rfl rfl (show Cells _ b1 0 [dv] from Cells.of hC1 0 _ (by simp)) rfl (WL.c rfl (o_call Try.call55 (lc rfl ln) ((names_checked_spec D dv V _ hD hlim).mono ?_)))))))
 rintro v9 w9 ⟨pv, dpv, er, at_, rfl, hf, hcase, hdp, hx9⟩
 obtain ⟨hf1, hf2⟩ := nat_flt hf
 replace hx := hx.tr hx9
 replace hD := hD.ext hx9
 replace hC1 := hx9.blk hC1 (fun h => h)
 replace hC3 := hx9.blk hC3 (fun h => h)
 refine WL.c rfl (o_mvh (by first | exact (show _ = Value.tuple _ from rfl) | exact rfl) (WL.c rfl (o_ext rfl rfl (WL.c rfl (o_ext rfl rfl (WL.c rfl (o_ext rfl rfl (WL.c rfl (o_alB TI28 ?_)))))))))
 intro wa hCa hxa hsa
 refine WL.c rfl (o_ash (by first | exact (show _ = Value.pointer _ from rfl) | exact rfl) (WL.c rfl (o_ash (by first | exact vS | exact rfl) (WL.u (o_stA TI28 rfl (show _ = Value.agg ([.int .i64 er, .int .i64 at_]).toArray from rfl) rfl rfl hCa rfl ?_)))))
 intro wb6 hC6 hob hsb
 have hxb := Ext.own hxa (Nat.le_refl _) hob
 obtain ⟨b6, hb6⟩ : ∃ b, b = w9.heap.size := ⟨_, rfl⟩
 rw [← hb6] at hC6 ⊢
 clear hCa hxa hsa hob hsb
 replace hx := hx.tr hxb
 replace hD := hD.ext hxb
 replace hC3 := hxb.blk hC3 (fun h => h)
 have hx6b := hxb
 clear hxb
 refine WL.nil (W.seq (W.seq (W.region (WL.c rfl (o_fa 0 TI28 rfl TI26 rfl rfl (WL.c rfl (o_ld TI26 rfl rfl (cell_of hC6 rfl) (WL.c rfl (o_ne rfl rfl (WL.nil (W.cond rfl (fun c15 => ?_) (fun c15 => ?_))))))))))))
 ·try simp only [cs8] at c15
  have hne : ¬ er = 0 := by simpa using c15
  have hbad : ¬ fA D = none := by
   rcases hcase with h | h
   ·exact h.2.1
   exact absurd h.1 hne
  refine W.seq (W.tail 2 rfl (by kernel_rfl) (WS.c rfl ((SO.o rfl (o_ldA TI28 rfl rfl (show Cells _ b6 0 [.int .i64 er, .int .i64 at_] from Cells.of hC6 0 _ (by simp)) rfl ⟨rfl, rfl⟩))) (WS.c rfl ((SO.o rfl (o_ash (by first | exact vS | exact rfl) ⟨rfl, rfl⟩))) (WS.nil ?_))))
  replace hx := hx.tr (Only.drew _)
  replace hC3 : (World.drew _).heap[c3]? = some (.cells #[.int .i64 0, .int .i64 0] 28 (0, 0)) := hC3
  refine WL.u (o_stA TI28 (by first | exact h3 | rfl) (by first | exact h19 | exact (show _ = Value.agg #[.int .i64 er, .int .i64 at_] from rfl)) rfl rfl (by first | exact hR.blk hC3 (fun h => h) | exact hC3) rfl ?_)
  intro wz hCz hoz hsz
  try replace hx := hx.tr hR
  replace hx := hx.trans' hoz (fun _ h => h) (fun b hb he => by omega)
  try replace h2r := own_only h2r hoz (fun b hb he => by subst he; exact own_off h2r (hR.blk hC3 (fun h => h)) (by decide) hb)
  refine WL.nil (W.ret (retTC rfl TI28 rfl (show _ = Value.slice none 0 0 from rfl) rfl (show Cells _ c3 0 [.int .i64 er, .int .i64 at_] from Cells.of hCz 0 _ (by simp)) rfl ?_))
  subst hb1
  exact ⟨_, by rw [hf1, hf2], by rw [ordR_bad hbad]; exact World.ownsRow_nil _ _ _ _, hx⟩
 try simp only [cs8] at c15
 have her : er = 0 := by simpa using c15
 obtain ⟨hfn, hck, pb, mb, rfl, hB9⟩ : fA D = none ∧ (chkS D).2.2 = 0 ∧ ∃ pb mb, pv = .pointer (some ⟨pb, 0, none⟩) ∧ Bk w9 pb mb D dv V := by
  rcases hcase with h | h
  ·exact absurd her h.1
  exact h.2
 have hB := hB9.ext hx6b
 have hkn := kn9_of (fA_back hfn).1 hck
 have hac := ringF_none (fA_back hfn).2.1
 refine W.skip (W.seq ?_)
 obtain ⟨wd, hwd⟩ : ∃ wd, wd = wb6.drew := ⟨_, rfl⟩
 have hxd : Ext wb6 wd := hwd ▸ Only.drew wb6
 replace hx := hx.tr hxd
 replace hB := hB.ext hxd
 replace hC3 := hxd.blk hC3 (fun h => h)
 replace hC6 := hxd.blk hC6 (fun h => h)
 have hzd : w0.heap.size ≤ wd.heap.size := hx.size
 refine W.states (fun kS e w => match kS with | 0 => e 3 = (.pointer (some ⟨c3, 0, none⟩)) ∧ e 4 = (.pointer (some ⟨pb, 0, none⟩)) ∧ e 6 = (.pointer (some ⟨b6, 0, none⟩)) ∧ Ext wd w | 1 => e 3 = (.pointer (some ⟨c3, 0, none⟩)) ∧ e 4 = (.pointer (some ⟨pb, 0, none⟩)) ∧ e 6 = (.pointer (some ⟨b6, 0, none⟩)) ∧ e 17 = (.pointer (some ⟨pb, 0, none⟩)) ∧ Ext wd w | 2 => e 3 = (.pointer (some ⟨c3, 0, none⟩)) ∧ e 4 = (.pointer (some ⟨pb, 0, none⟩)) ∧ e 6 = (.pointer (some ⟨b6, 0, none⟩)) ∧ e 19 = (.agg #[.int .i64 er, .int .i64 at_]) ∧ Ext wd w | 3 => e 3 = (.pointer (some ⟨c3, 0, none⟩)) ∧ e 4 = (.pointer (some ⟨pb, 0, none⟩)) ∧ e 6 = (.pointer (some ⟨b6, 0, none⟩)) ∧ e 17 = (.pointer (some ⟨pb, 0, none⟩)) ∧ Ext wd w ∧ w.ownsRow wd.heap.size 3 1 (e 18) (ordN D).length ((ordN D).map iv) | 4 => e 3 = (.pointer (some ⟨c3, 0, none⟩)) ∧ e 4 = (.pointer (some ⟨pb, 0, none⟩)) ∧ e 6 = (.pointer (some ⟨b6, 0, none⟩)) ∧ e 17 = (.pointer (some ⟨pb, 0, none⟩)) ∧ e 19 = (.agg #[.int .i64 er, .int .i64 at_]) ∧ Ext wd w | 5 => e 3 = (.pointer (some ⟨c3, 0, none⟩)) ∧ e 4 = (.pointer (some ⟨pb, 0, none⟩)) ∧ e 6 = (.pointer (some ⟨b6, 0, none⟩)) ∧ e 17 = (.pointer (some ⟨pb, 0, none⟩)) ∧ e 19 = (.agg #[.int .i64 er, .int .i64 at_]) ∧ Ext wd w ∧ w.ownsRow wd.heap.size 3 1 (e 18) (ordN D).length ((ordN D).map iv) | 6 => e 3 = (.pointer (some ⟨c3, 0, none⟩)) ∧ e 4 = (.pointer (some ⟨pb, 0, none⟩)) ∧ e 6 = (.pointer (some ⟨b6, 0, none⟩)) ∧ e 17 = (.pointer (some ⟨pb, 0, none⟩)) ∧ Ext wd w ∧ w.ownsRow wd.heap.size 3 1 (e 18) (ordN D).length ((ordN D).map iv) ∧ w.ownsRow wd.heap.size 3 1 (e 2) (ordN D).length ((ordN D).map iv) | 7 => e 3 = (.pointer (some ⟨c3, 0, none⟩)) ∧ e 4 = (.pointer (some ⟨pb, 0, none⟩)) ∧ e 6 = (.pointer (some ⟨b6, 0, none⟩)) ∧ e 17 = (.pointer (some ⟨pb, 0, none⟩)) ∧ e 19 = (.agg #[.int .i64 er, .int .i64 at_]) ∧ Ext wd w ∧ w.ownsRow wd.heap.size 3 1 (e 18) (ordN D).length ((ordN D).map iv) ∧ w.ownsRow wd.heap.size 3 1 (e 2) (ordN D).length ((ordN D).map iv) | 8 => e 3 = (.pointer (some ⟨c3, 0, none⟩)) ∧ e 4 = (.pointer (some ⟨pb, 0, none⟩)) ∧ e 6 = (.pointer (some ⟨b6, 0, none⟩)) ∧ e 17 = (.pointer (some ⟨pb, 0, none⟩)) ∧ e 19 = (.agg #[.int .i64 er, .int .i64 at_]) ∧ w.ownsRow wd.heap.size 3 1 (e 2) (ordN D).length ((ordN D).map iv) ∧ w.heap[c3]? = some (.cells #[.int .i64 er, .int .i64 at_] 28 (0, 0)) ∧ Ext w0 w | _ => False) ([([false, false, false, false, false], [(0, 1), (2, 2)]), ([true, false, false, false, false], [(1, 3), (2, 4)]), ([false, false, true, false, false], [(0, 4)]), ([true, true, false, false, false], [(2, 5), (3, 6)]), ([true, false, true, false, false], [(1, 5)]), ([true, true, true, false, false], [(3, 7)]), ([true, true, false, true, false], [(2, 7)]), ([true, true, true, true, false], [(4, 8)]), ([true, true, true, true, true], [])]) rfl (by kernel_rfl) rfl ⟨rfl, rfl, rfl, by rw [hwd]; exact Only.refl _ _⟩ (⟨?_, ?_, ?_, ?_, ?_, ?_, ?_, ?_, ?_, trivial⟩)
 ·-- state 0 of region 4
  rintro e w ⟨h3, h4, h6, hR⟩
  refine ⟨?_, ?_, trivial⟩
  ·skip
   refine WO.c rfl rfl (o_mvh h4 ?_)
   exact ⟨h3, h4, h6, rfl, hR⟩
  skip
  refine WO.c rfl rfl (o_ldA TI28 rfl h6 (show Cells _ b6 0 [.int .i64 er, .int .i64 at_] from Cells.of (hR.blk hC6 (fun h => h)) 0 _ (by simp)) rfl ?_)
  exact ⟨h3, h4, h6, rfl, hR⟩
 ·-- state 1 of region 4
  rintro e w ⟨h3, h4, h6, h17, hR⟩
  refine ⟨?_, ?_, trivial⟩
  ·skip
   refine WO.c rfl rfl (o_call Try.call56 (lc h17 ln) ((order_spec pb mb D dv V _ (hB.ext hR) hlim (fun i hi => uses_lt hkn hi) hac).mono ?_))
   rintro v18 w18 ⟨h18a, hx18⟩
   have h18r := own_mono h18a hR.size
   replace hR := hR.tr hx18
   exact ⟨h3, h4, h6, h17, hR, h18r⟩
  skip
  refine WO.c rfl rfl (o_ldA TI28 rfl h6 (show Cells _ b6 0 [.int .i64 er, .int .i64 at_] from Cells.of (hR.blk hC6 (fun h => h)) 0 _ (by simp)) rfl ?_)
  exact ⟨h3, h4, h6, h17, rfl, hR⟩
 ·-- state 2 of region 4
  rintro e w ⟨h3, h4, h6, h19, hR⟩
  refine ⟨?_, trivial⟩
  skip
  refine WO.c rfl rfl (o_mvh h4 ?_)
  exact ⟨h3, h4, h6, rfl, h19, hR⟩
 ·-- state 3 of region 4
  rintro e w ⟨h3, h4, h6, h17, hR, h18r⟩
  refine ⟨?_, ?_, trivial⟩
  ·skip
   refine WO.c rfl rfl (o_ldA TI28 rfl h6 (show Cells _ b6 0 [.int .i64 er, .int .i64 at_] from Cells.of (hR.blk hC6 (fun h => h)) 0 _ (by simp)) rfl ?_)
   exact ⟨h3, h4, h6, h17, rfl, hR, h18r⟩
  skip
  refine WO.c rfl rfl (o_as ?_)
  try have h2r := h18r
  exact ⟨h3, h4, h6, h17, hR, h18r, h2r⟩
 ·-- state 4 of region 4
  rintro e w ⟨h3, h4, h6, h17, h19, hR⟩
  refine ⟨?_, trivial⟩
  skip
  refine WO.c rfl rfl (o_call Try.call56 (lc h17 ln) ((order_spec pb mb D dv V _ (hB.ext hR) hlim (fun i hi => uses_lt hkn hi) hac).mono ?_))
  rintro v18 w18 ⟨h18a, hx18⟩
  have h18r := own_mono h18a hR.size
  replace hR := hR.tr hx18
  exact ⟨h3, h4, h6, h17, h19, hR, h18r⟩
 ·-- state 5 of region 4
  rintro e w ⟨h3, h4, h6, h17, h19, hR, h18r⟩
  refine ⟨?_, trivial⟩
  skip
  refine WO.c rfl rfl (o_as ?_)
  try have h2r := h18r
  exact ⟨h3, h4, h6, h17, h19, hR, h18r, h2r⟩
 ·-- state 6 of region 4
  rintro e w ⟨h3, h4, h6, h17, hR, h18r, h2r⟩
  refine ⟨?_, trivial⟩
  skip
  refine WO.c rfl rfl (o_ldA TI28 rfl h6 (show Cells _ b6 0 [.int .i64 er, .int .i64 at_] from Cells.of (hR.blk hC6 (fun h => h)) 0 _ (by simp)) rfl ?_)
  exact ⟨h3, h4, h6, h17, rfl, hR, h18r, h2r⟩
 ·-- state 7 of region 4
  rintro e w ⟨h3, h4, h6, h17, h19, hR, h18r, h2r⟩
  refine ⟨?_, trivial⟩
  skip
  refine WO.u rfl (o_stA TI28 (by first | exact h3 | rfl) (by first | exact h19 | exact (show _ = Value.agg #[.int .i64 er, .int .i64 at_] from rfl)) rfl rfl (by first | exact hR.blk hC3 (fun h => h) | exact hC3) rfl ?_)
  intro wz hCz hoz hsz
  try replace hx := hx.tr hR
  replace hx := hx.trans' hoz (fun _ h => h) (fun b hb he => by omega)
  try replace h2r := own_only h2r hoz (fun b hb he => by subst he; exact own_off h2r (hR.blk hC3 (fun h => h)) (by decide) hb)
  exact ⟨h3, h4, h6, h17, h19, ⟨h2r, hCz, hx⟩⟩
 -- state 8 of region 4
 rintro e w ⟨h3, h4, h6, h17, h19, ⟨h2r, hCz, hx⟩⟩
 refine W.ret (retTC rfl TI28 rfl rfl h3 (show Cells _ c3 0 [.int .i64 er, .int .i64 at_] from Cells.of hCz 0 _ (by simp)) rfl ?_)
 subst hb1
 exact ⟨_, by rw [hf1, hf2], by rw [ordR_ok hfn]; exact own_mono h2r hzd, hx⟩
end Go.Proofs.Ytpbflfgigfdohaa

namespace Go.Proofs.Ytpbflfgigfdohaa
open Go Go.Vc Go.RowKit Go.Proofs

/-- a struct's field, or a union's arm -/
structure Pa where
 label : List UInt8
 tag : Int
 ty : Int
deriving DecidableEq
structure Tp where
 kind : Int
 n : Int
 elem : Int
 parts : List Pa
deriving DecidableEq
structure Ro where
 name : List UInt8
 ty : Int
deriving DecidableEq
def paV (p : Pa) : List Value := [st p.label, .int .i64 p.tag, .int .i64 p.ty]
def pas (L : List Pa) : List Value := L.flatMap paV
def tcell (t : Tp) (v : Value) : List Value := [.int .i64 t.kind, .int .i64 t.n, .int .i64 t.elem, v]
def roV (r : Ro) : List Value := [st r.name, .int .i64 r.ty]
def ros (L : List Ro) : List Value := L.flatMap roV
def tp0 : Tp := ⟨0, 0, 0, []⟩
def pasT (L : List Tp) (j : Nat) : List Pa := (L.getD j tp0).parts
def trows (L : List Tp) (V : Nat → Value) : List Value := (List.range L.length).flatMap fun j => tcell (L.getD j tp0) (V j)

def many7 (k : Int) : Prop := k = 7 ∨ k = 8
instance (k : Int) : Decidable (many7 k) := by unfold many7; infer_instance
mutual
/-- the number of a type expression's type, by the roots of the names; the types, with its own behind -/
def mkT (rt : List UInt8 → Int) : Tr → List Tp → Int × List Tp
 | .node y ks, L => if y.kind = 9 then (rt y.name, L) else (((mkK rt y.kind ks L 0 []).2.2.length : Int), (mkK rt y.kind ks L 0 []).2.2 ++ [⟨y.kind, y.n, (mkK rt y.kind ks L 0 []).1, (mkK rt y.kind ks L 0 []).2.1⟩])
def mkK (rt : List UInt8 → Int) (kind : Int) : Trs → List Tp → Int → List Pa → Int × List Pa × List Tp
 | .nil, L, el, ps => (el, ps, L)
 | .cons t ts, L, el, ps => if many7 kind then mkK rt kind ts (mkT rt t L).2 el (ps ++ [⟨t.top.label, t.top.tag, (mkT rt t L).1⟩]) else mkK rt kind ts (mkT rt t L).2 (mkT rt t L).1 ps
end
def upI (f : Nat → Int) (i : Nat) (v : Int) : Nat → Int := fun j => if j = i then v else f j
/-- definition behind definition: their roots, the types -/
def mkO (wh : List UInt8 → Nat) (T : Nat → Tr) : List Nat → (Nat → Int) → List Tp → (Nat → Int) × List Tp
 | [], f, L => (f, L)
 | i :: l, f, L => mkO wh T l (upI f i (mkT (fun nm => f (wh nm)) (T i) L).1) (mkT (fun nm => f (wh nm)) (T i) L).2
theorem mkO_snoc {wh : List UInt8 → Nat} {T : Nat → Tr} : ∀ (l : List Nat) (f : Nat → Int) (L : List Tp) (i : Nat), mkO wh T (l ++ [i]) f L = (upI (mkO wh T l f L).1 i (mkT (fun nm => (mkO wh T l f L).1 (wh nm)) (T i) (mkO wh T l f L).2).1, (mkT (fun nm => (mkO wh T l f L).1 (wh nm)) (T i) (mkO wh T l f L).2).2)
 | [], f, L, i => rfl
 | j :: l, f, L, i => by rw [List.cons_append, mkO, mkO_snoc l, mkO]
theorem mkO_take {wh : List UInt8 → Nat} {T : Nat → Tr} {l : List Nat} {f : Nat → Int} {L : List Tp} {k : Nat} (hk : k < l.length) : mkO wh T (l.take (k + 1)) f L = (upI (mkO wh T (l.take k) f L).1 l[k] (mkT (fun nm => (mkO wh T (l.take k) f L).1 (wh nm)) (T l[k]) (mkO wh T (l.take k) f L).2).1, (mkT (fun nm => (mkO wh T (l.take k) f L).1 (wh nm)) (T l[k]) (mkO wh T (l.take k) f L).2).2) := by
 rw [List.take_succ_eq_append_getElem hk, mkO_snoc]
/-- a node out of its bounds -/
def outB (x : Ex) : Bool := (decide (x.kind = 4) || decide (x.kind = 5)) && (decide (x.n < 1) || decide (1048576 < x.n)) || decide (255 < x.tag)
def bndN (L : List Ex) (j : Nat) : Option (Int × Int) := if outB (L.getD j ex0) then some (90, (L.getD j ex0).at_) else none
def bndD (D : List Df) (i : Nat) : Option (Int × Int) := firstN (tyD D i).length (bndN (tyD D i))
def bndF (D : List Df) : Option (Int × Int) := firstN D.length (bndD D)
def rooN (D : List Df) (f : Nat → Int) : List Ro := (List.range D.length).map (fun i => ⟨(D.getD i df0).name, f i⟩)
/-- the schema of a source that is all right -/
noncomputable def schT (D : List Df) : List Tp := (mkO (whD D) (TD D) (ordN D) (fun _ => 0) []).2
noncomputable def schR (D : List Df) : List Ro := rooN D (mkO (whD D) (TD D) (ordN D) (fun _ => 0) []).1
/-- its fault -/
noncomputable def bldF (D : List Df) : Option (Int × Int) := if (chkS D).2.2 = 0 then (fA D).or (bndF D) else some (((chkS D).2.2 : Int), 0)
noncomputable def bldT (D : List Df) : List Tp := if bldF D = none then schT D else []
noncomputable def bldR (D : List Df) : List Ro := if bldF D = none then schR D else []

end Go.Proofs.Ytpbflfgigfdohaa

namespace Go.Proofs.Ytpbflfgigfdohaa
open Go Go.Vc Go.RowKit Go.Proofs

theorem paV_len (p : Pa) : (paV p).length = 3 := rfl
theorem roV_len (r : Ro) : (roV r).length = 2 := rfl
theorem flm_len {α : Type} {f : α → List Value} {s : Nat} (hs : ∀ a, (f a).length = s) (L : List α) : (L.flatMap f).length = L.length * s := by
 induction L with
 | nil => simp
 | cons a l ih => rw [List.flatMap_cons, List.length_append, hs, ih, List.length_cons, Nat.succ_mul]; omega
theorem pas_len (L : List Pa) : (pas L).length = L.length * 3 := flm_len paV_len L
theorem ros_len (L : List Ro) : (ros L).length = L.length * 2 := flm_len roV_len L
theorem pas_snoc (L : List Pa) (x : Pa) : pas (L ++ [x]) = pas L ++ paV x := by simp [pas]
theorem ros_snoc (L : List Ro) (x : Ro) : ros (L ++ [x]) = ros L ++ roV x := by simp [ros]
/-- an element of a row that is read -/
theorem Sl.fm {α : Type} {f : α → List Value} {s : Nat} (hs : ∀ a, (f a).length = s) {w : World} {v : Value} {ts : List α} (h : Sl w s v ts.length (ts.flatMap f)) {k : Nat} (hk : k < ts.length) : ∃ b o c, v = .slice (some ⟨b, o, none⟩) ts.length c ∧ Cells w b (o + k * s) (f ts[k]) := by
 rcases h.val with ⟨hz, h0⟩ | ⟨b, o, c, rfl, hnc, hc⟩
 ·omega
 exact ⟨b, o, c, rfl, by rw [← fm_at hs ts k hk]; exact hc.sub _ _⟩
theorem Sl.paq {w : World} {v : Value} {ts : List Pa} (h : Sl w 3 v ts.length (pas ts)) {k : Nat} (hk : k < ts.length) : ∃ b o c, v = .slice (some ⟨b, o, none⟩) ts.length c ∧ Cells w b (o + k * 3) (paV ts[k]) := Sl.fm paV_len h hk
theorem Sl.roq {w : World} {v : Value} {ts : List Ro} (h : Sl w 2 v ts.length (ros ts)) {k : Nat} (hk : k < ts.length) : ∃ b o c, v = .slice (some ⟨b, o, none⟩) ts.length c ∧ Cells w b (o + k * 2) (roV ts[k]) := Sl.fm roV_len h hk
theorem Sl.paw {w : World} {b o c : Nat} {ts : List Pa} (h : Sl w 3 (.slice (some ⟨b, o, none⟩) ts.length c) ts.length (pas ts)) {k : Nat} (hk : k < ts.length) : Cells w b (o + k * 3) (paV ts[k]) := by
 obtain ⟨b', o', c', he, hc⟩ := Sl.paq h hk
 simp only [Value.slice.injEq, Option.some.injEq, Addr.mk.injEq] at he
 obtain ⟨⟨rfl, rfl, -⟩, -, -⟩ := he
 exact hc
theorem tgetD_at {L : List Tp} {k : Nat} (hk : k < L.length) : L.getD k tp0 = L[k] := by simp [List.getD_eq_getElem?_getD, hk]
theorem pasT_at {L : List Tp} {k : Nat} (hk : k < L.length) : pasT L k = L[k].parts := by rw [pasT, tgetD_at hk]
theorem trows_snoc (D : List Tp) (V : Nat → Value) (d : Tp) (v : Value) : trows (D ++ [d]) (fun j => if j = D.length then v else V j) = trows D V ++ tcell d v := by
 rw [trows, List.length_append, List.length_singleton, List.range_succ, List.flatMap_append, List.flatMap_singleton, if_pos rfl]
 congr 1
 ·refine dfm_congr fun j hj => ?_
  have hj := List.mem_range.1 hj
  rw [if_neg (by omega)]
  congr 1
  simp [List.getD_eq_getElem?_getD, List.getElem?_append_left hj]
 congr 1
 simp [List.getD_eq_getElem?_getD]
theorem trows_at (D : List Tp) (V : Nat → Value) {k : Nat} (hk : k < D.length) : ((trows D V).drop (k * 4)).take 4 = tcell (D.getD k tp0) (V k) := by
 have h := fm_at (f := fun j => tcell (D.getD j tp0) (V j)) (s := 4) (fun _ => rfl) (List.range D.length) k (by simpa using hk)
 rw [trows, h, List.getElem_range]
/-- types in a row of our own, each list of parts in a block of its own -/
structure Typs (w : World) (H : Nat) (D : List Tp) (dv : Value) (V : Nat → Value) : Prop where
 row : w.ownsRow H 50 4 dv D.length (trows D V)
 tys : Many w H 52 3 D.length V (fun j => (pasT D j).length) (fun j => pas (pasT D j))
theorem Typs.only {w w' : World} {H : Nat} {D : List Tp} {dv : Value} {V : Nat → Value} {F : Nat → Prop} (h : Typs w H D dv V) (ho : Only F w w') (hn : ∀ k, DF dv V D.length k → ¬ F k) : Typs w' H D dv V :=
 ⟨own_only h.row ho (fun k hk => hn k (.inl hk)), h.tys.only ho (fun j hj k hk => hn k (.inr ⟨j, hj, hk⟩))⟩
theorem Typs.ext {w w' : World} {H : Nat} {D : List Tp} {dv : Value} {V : Nat → Value} (h : Typs w H D dv V) (ho : Ext w w') : Typs w' H D dv V := h.only ho (fun _ _ h => h)
theorem Typs.lt {w : World} {H : Nat} {D : List Tp} {dv : Value} {V : Nat → Value} (h : Typs w H D dv V) : ∀ k, DF dv V D.length k → H ≤ k ∧ k < w.heap.size := fun k hk => by
 rcases hk with hk | ⟨j, hj, hk⟩
 ·exact h.row.lt k hk
 exact h.tys.lt hj hk
theorem Typs.nil (w : World) (H : Nat) (V : Nat → Value) : Typs w H [] (.slice none 0 0) V := ⟨World.ownsRow_nil _ _ _ _, Many.zero⟩
/-- types that are read -/
structure TypR (w : World) (D : List Tp) (dv : Value) (V : Nat → Value) : Prop where
 row : Sl w 4 dv D.length (trows D V)
 tys : ∀ j, j < D.length → Sl w 3 (V j) (pasT D j).length (pas (pasT D j))
theorem TypR.only {w w' : World} {D : List Tp} {dv : Value} {V : Nat → Value} {F : Nat → Prop} (h : TypR w D dv V) (ho : Only F w w') (hn : ∀ k, DF dv V D.length k → ¬ F k) : TypR w' D dv V :=
 ⟨h.row.only ho (fun k hk => hn k (.inl hk)), fun j hj => (h.tys j hj).only ho (fun k hk => hn k (.inr ⟨j, hj, hk⟩))⟩
theorem TypR.ext {w w' : World} {D : List Tp} {dv : Value} {V : Nat → Value} (h : TypR w D dv V) (ho : Ext w w') : TypR w' D dv V := h.only ho (fun _ _ h => h)
theorem Typs.rd {w : World} {H : Nat} {D : List Tp} {dv : Value} {V : Nat → Value} (h : Typs w H D dv V) : TypR w D dv V := ⟨Sl.own h.row, fun j hj => Sl.own (h.tys.row j hj)⟩
theorem TypR.atk {w : World} {D : List Tp} {dv : Value} {V : Nat → Value} (h : TypR w D dv V) {k : Nat} (hk : k < D.length) : ∃ b o c, dv = .slice (some ⟨b, o, none⟩) D.length c ∧ Cells w b (o + k * 4) (tcell D[k] (V k)) ∧ Sl w 3 (V k) D[k].parts.length (pas D[k].parts) := by
 have h3 := h.tys k hk
 rw [pasT_at hk] at h3
 rcases h.row.val with ⟨hz, h0⟩ | ⟨b, o, c, rfl, hnc, hc⟩
 ·omega
 exact ⟨b, o, c, rfl, by rw [← tgetD_at hk, ← trows_at D V hk]; exact hc.sub _ _, h3⟩
/-- a schema that is read: its types, its roots -/
structure SchR (w : World) (L : List Tp) (R : List Ro) (tv rv : Value) (V : Nat → Value) : Prop where
 ty : TypR w L tv V
 ro : Sl w 2 rv R.length (ros R)
theorem SchR.ext {w w' : World} {L : List Tp} {R : List Ro} {tv rv : Value} {V : Nat → Value} (h : SchR w L R tv rv V) (ho : Ext w w') : SchR w' L R tv rv V := ⟨h.ty.ext ho, h.ro.ext ho⟩
/-- sizes that a machine can hold -/
structure SOk (L : List Tp) (R : List Ro) : Prop where
 len : L.length * 48 ≤ 140737488351232
 pa : ∀ t ∈ L, t.parts.length * 32 ≤ 140737488351232
 ro : R.length * 24 ≤ 140737488351232
 lb : ∀ t ∈ L, ∀ p ∈ t.parts, p.label.length ≤ 9223372036854775807
 nm : ∀ r ∈ R, r.name.length ≤ 9223372036854775807
/-- a schema of ours -/
structure Schs (w : World) (H : Nat) (L : List Tp) (R : List Ro) (tv rv : Value) (V : Nat → Value) : Prop where
 ty : Typs w H L tv V
 ro : w.ownsRow H 47 2 rv R.length (ros R)
theorem Schs.rd {w : World} {H : Nat} {L : List Tp} {R : List Ro} {tv rv : Value} {V : Nat → Value} (h : Schs w H L R tv rv V) : SchR w L R tv rv V := ⟨h.ty.rd, Sl.own h.ro⟩
theorem Schs.ext {w w' : World} {H : Nat} {L : List Tp} {R : List Ro} {tv rv : Value} {V : Nat → Value} (h : Schs w H L R tv rv V) (ho : Ext w w') : Schs w' H L R tv rv V := ⟨h.ty.ext ho, own_ext h.ro ho⟩

end Go.Proofs.Ytpbflfgigfdohaa

namespace Go.Proofs.Ytpbflfgigfdohaa
open Go Go.Vc Go.RowKit Go.Proofs

def numOk (kind n : Int) : Prop := if kind = 1 then n = 1 ∨ n = 2 ∨ n = 4 ∨ n = 8 else if kind = 4 ∨ kind = 5 then 1 ≤ n ∧ n ≤ 1048576 else n = 0
/-- a part: its label or tag, its type; none ahead of it is like it -/
def paOk (t : Tp) (at_ : Int) (k : Nat) : Prop := ∃ hk : k < t.parts.length,
 (if t.kind = 8 then nameB t.parts[k].label = true ∧ t.parts[k].tag = 0 else t.parts[k].label = [] ∧ 0 ≤ t.parts[k].tag ∧ t.parts[k].tag ≤ 255) ∧ 0 ≤ t.parts[k].ty ∧ t.parts[k].ty < at_ ∧
 ∀ j (hj : j < k), ¬ (t.parts[j].label = t.parts[k].label ∧ t.parts[j].tag = t.parts[k].tag)
def partsOk (t : Tp) (at_ : Int) : Prop := 1 ≤ t.parts.length ∧ t.parts.length ≤ 64 ∧ ∀ k, k < t.parts.length → paOk t at_ k
def tpOk (t : Tp) (at_ : Int) : Prop := numOk t.kind t.n ∧
 (if t.kind = 1 ∨ t.kind = 2 ∨ t.kind = 3 then t.elem = 0 ∧ t.parts = []
  else if t.kind = 4 ∨ t.kind = 5 ∨ t.kind = 6 then 0 ≤ t.elem ∧ t.elem < at_ ∧ t.parts = []
  else (t.kind = 7 ∨ t.kind = 8) ∧ t.elem = 0 ∧ partsOk t at_)
open Classical in
noncomputable def tpF (L : List Tp) : Option (Int × Int) := firstN L.length fun i => if tpOk (L.getD i tp0) (i : Int) then none else some (92, (i : Int))
/-- how deep a type is, by the depths of those ahead -/
def dpT1 (t : Tp) (d : List Nat) : Nat := t.parts.foldl (fun m p => max m (d.getD p.ty.toNat 0)) (if t.kind = 4 ∨ t.kind = 5 ∨ t.kind = 6 then d.getD t.elem.toNat 0 else 0) + 1
def depL : List Tp → List Nat → List Nat
 | [], d => d
 | t :: L, d => depL L (d ++ [dpT1 t d])
theorem depL_snoc : ∀ (L : List Tp) (t : Tp) (d : List Nat), depL (L ++ [t]) d = depL L d ++ [dpT1 t (depL L d)]
 | [], t, d => rfl
 | a :: L, t, d => by rw [List.cons_append, depL, depL_snoc L, depL]
theorem depL_len : ∀ (L : List Tp) (d : List Nat), (depL L d).length = d.length + L.length
 | [], d => rfl
 | a :: L, d => by rw [depL, depL_len L, List.length_append]; simp; omega
theorem depL_take {L : List Tp} {k : Nat} (hk : k < L.length) : depL (L.take (k + 1)) [] = depL (L.take k) [] ++ [dpT1 L[k] (depL (L.take k) [])] := by
 rw [List.take_succ_eq_append_getElem hk, depL_snoc]
theorem depL_app : ∀ (L M : List Tp) (d : List Nat), depL (L ++ M) d = depL M (depL L d)
 | [], M, d => rfl
 | a :: L, M, d => by rw [List.cons_append, depL, depL_app L, depL]
theorem depL_pre : ∀ (M : List Tp) (d : List Nat), ∃ r, depL M d = d ++ r
 | [], d => ⟨[], by simp [depL]⟩
 | a :: M, d => by
  obtain ⟨r, hr⟩ := depL_pre M (d ++ [dpT1 a d])
  exact ⟨dpT1 a d :: r, by rw [depL, hr, List.append_assoc]; rfl⟩
/-- the depth of a type among all -/
def dpI (L : List Tp) (i : Nat) : Nat := (depL L []).getD i 0
theorem depL_take_eq (L : List Tp) (k : Nat) (hk : k ≤ L.length) : depL (L.take k) [] = (depL L []).take k := by
 obtain ⟨r, hr⟩ := depL_pre (L.drop k) (depL (L.take k) [])
 rw [← depL_app, List.take_append_drop] at hr
 rw [hr, List.take_left' (by rw [depL_len]; simp; omega)]
theorem dpI_at {L : List Tp} {i : Nat} (hi : i < L.length) : dpI L i = dpT1 L[i] (depL (L.take i) []) := by
 have h1 := depL_take hi
 have h2 := depL_take_eq L (i + 1) (by omega)
 unfold dpI
 have hl : (depL (L.take i) []).length = i := by rw [depL_len]; simp; omega
 have h3 : ((depL L []).take (i + 1))[i]? = some (dpT1 L[i] (depL (L.take i) [])) := by
  rw [← h2, h1, List.getElem?_append_right (by omega), hl]; simp
 rw [List.getElem?_take] at h3
 simp at h3
 rw [List.getD_eq_getElem?_getD, h3]; rfl
def dpF (L : List Tp) : Option (Int × Int) := firstN L.length fun i => if 64 < dpI L i then some (83, (i : Int)) else none
def ro0 : Ro := ⟨[], 0⟩
/-- a root: its name, unlike those ahead; its type; its number -/
def roOk (n : Nat) (R : List Ro) (i : Nat) : Prop := i < 256 ∧ nameB (R.getD i ro0).name = true ∧ 0 ≤ (R.getD i ro0).ty ∧ (R.getD i ro0).ty < (n : Int) ∧ ∀ j, j < i → (R.getD j ro0).name ≠ (R.getD i ro0).name
open Classical in
noncomputable def roF (n : Nat) (R : List Ro) : Option (Int × Int) := firstN R.length fun i => if roOk n R i then none else some (92, (n : Int) + (i : Int))
noncomputable def scF (L : List Tp) (R : List Ro) : Option (Int × Int) := (tpF L).or ((dpF L).or (roF L.length R))
def whR (R : List Ro) (nm : List UInt8) : Option Nat := R.findIdx? (fun r => decide (r.name = nm))

end Go.Proofs.Ytpbflfgigfdohaa

namespace Go.Proofs.Ytpbflfgigfdohaa
open Go Go.Vc Go.RowKit Go.Proofs

/-- how many nodes are no names -/
def cntN (L : List Ex) : Nat := (L.filter (fun x => decide (x.kind ≠ 9))).length
theorem cntN_app (L M : List Ex) : cntN (L ++ M) = cntN L + cntN M := by simp [cntN]
mutual
theorem mkT_pre (rt : List UInt8 → Int) : ∀ (t : Tr) (L : List Tp), t.leafy → ∃ M, (mkT rt t L).2 = L ++ M ∧ M.length = cntN t.flat
 | .node y ks, L, h => by
  obtain ⟨h9, hl⟩ := h
  unfold mkT
  split
  ·rename_i hk
   have := h9 hk
   subst this
   exact ⟨[], by simp, by simp [Tr.flat, Trs.flat, cntN, hk]⟩
  rename_i hk
  obtain ⟨M, h1, h2⟩ := mkK_pre rt y.kind ks L 0 [] hl
  refine ⟨M ++ [⟨y.kind, y.n, (mkK rt y.kind ks L 0 []).1, (mkK rt y.kind ks L 0 []).2.1⟩], by show (mkK rt y.kind ks L 0 []).2.2 ++ _ = _; rw [h1, List.append_assoc], ?_⟩
  rw [List.length_append, h2]
  show cntN ks.flat + 1 = cntN (y :: ks.flat)
  simp [cntN, hk]
theorem mkK_pre (rt : List UInt8 → Int) (kind : Int) : ∀ (ts : Trs) (L : List Tp) (el : Int) (ps : List Pa), ts.leafy → ∃ M, (mkK rt kind ts L el ps).2.2 = L ++ M ∧ M.length = cntN ts.flat
 | .nil, L, el, ps, _ => ⟨[], by simp [mkK], rfl⟩
 | .cons t ts, L, el, ps, h => by
  obtain ⟨M, h1, h2⟩ := mkT_pre rt t L h.1
  have key : ∀ el ps, ∃ N, (mkK rt kind ts (mkT rt t L).2 el ps).2.2 = L ++ N ∧ N.length = cntN (Trs.cons t ts).flat := fun el ps => by
   obtain ⟨N, h3, h4⟩ := mkK_pre rt kind ts (mkT rt t L).2 el ps h.2
   refine ⟨M ++ N, by rw [h3, h1, List.append_assoc], ?_⟩
   rw [List.length_append, h2, h4]
   show _ = cntN (t.flat ++ ts.flat)
   rw [cntN_app]
  unfold mkK
  split
  ·exact key _ _
  exact key _ _
end
/-- parts, so far -/
def PsOk (kind : Int) (n : Int) (ps : List Pa) : Prop := ∀ k (hk : k < ps.length), (if kind = 8 then nameB ps[k].label = true ∧ ps[k].tag = 0 else ps[k].label = [] ∧ 0 ≤ ps[k].tag ∧ ps[k].tag ≤ 255) ∧ 0 ≤ ps[k].ty ∧ ps[k].ty < n ∧ ∀ j (hj : j < k), ¬ (ps[j].label = ps[k].label ∧ ps[j].tag = ps[k].tag)
theorem PsOk.mono {kind n m : Int} {ps : List Pa} (h : PsOk kind n ps) (hm : n ≤ m) : PsOk kind m ps := fun k hk => by
 obtain ⟨h1, h2, h3, h4⟩ := h k hk
 exact ⟨h1, h2, by omega, h4⟩
theorem PsOk.nil (kind n : Int) : PsOk kind n [] := fun k hk => by simp at hk
theorem PsOk.snoc {kind n : Int} {ps : List Pa} {p : Pa} (h : PsOk kind n ps) (h1 : if kind = 8 then nameB p.label = true ∧ p.tag = 0 else p.label = [] ∧ 0 ≤ p.tag ∧ p.tag ≤ 255) (h2 : 0 ≤ p.ty) (h3 : p.ty < n) (h4 : ∀ q ∈ ps, ¬ (q.label = p.label ∧ q.tag = p.tag)) : PsOk kind n (ps ++ [p]) := fun k hk => by
 have hl : (ps ++ [p]).length = ps.length + 1 := by simp
 rcases Nat.lt_or_ge k ps.length with hk1 | hk1
 ·obtain ⟨g1, g2, g3, g4⟩ := h k hk1
  refine ⟨?_, ?_, ?_, fun j hj => ?_⟩
  ·rw [List.getElem_append_left hk1]; exact g1
  ·rw [List.getElem_append_left hk1]; exact g2
  ·rw [List.getElem_append_left hk1]; exact g3
  rw [List.getElem_append_left hk1, List.getElem_append_left (by omega)]; exact g4 j hj
 have e : k = ps.length := by omega
 subst e
 have ee : (ps ++ [p])[ps.length] = p := by simp
 refine ⟨by rw [ee]; exact h1, by rw [ee]; exact h2, by rw [ee]; exact h3, fun j hj => ?_⟩
 rw [ee, List.getElem_append_left hj]
 exact h4 _ (List.getElem_mem hj)
/-- a list of types that are right, none deeper than 64 -/
structure LOk (L : List Tp) : Prop where
 ok : ∀ i (hi : i < L.length), tpOk L[i] (i : Int)
 dp : ∀ i, i < L.length → dpI L i ≤ 64
theorem dpI_app {L M : List Tp} {i : Nat} (hi : i < L.length) : dpI (L ++ M) i = dpI L i := by
 obtain ⟨r, hr⟩ := depL_pre M (depL L [])
 unfold dpI
 rw [depL_app, hr, List.getD_eq_getElem?_getD, List.getD_eq_getElem?_getD, List.getElem?_append_left (by rw [depL_len]; simpa using hi)]
theorem dpI_last (L : List Tp) (t : Tp) : dpI (L ++ [t]) L.length = dpT1 t (depL L []) := by
 unfold dpI
 rw [depL_snoc, List.getD_eq_getElem?_getD, List.getElem?_append_right (by rw [depL_len]; simp), depL_len]
 simp
theorem LOk.nil : LOk [] := ⟨fun i hi => by simp at hi, fun i hi => by simp at hi⟩
theorem LOk.snoc {L : List Tp} {t : Tp} (h : LOk L) (h1 : tpOk t (L.length : Int)) (h2 : dpT1 t (depL L []) ≤ 64) : LOk (L ++ [t]) := by
 refine ⟨fun i hi => ?_, fun i hi => ?_⟩
 ·rcases Nat.lt_or_ge i L.length with hk | hk
  ·rw [List.getElem_append_left hk]; exact h.ok i hk
  have e : i = L.length := by simp at hi; omega
  subst e
  rw [List.getElem_append_right (Nat.le_refl _)]
  simpa using h1
 rcases Nat.lt_or_ge i L.length with hk | hk
 ·rw [dpI_app hk]; exact h.dp i hk
 have e : i = L.length := by simp at hi; omega
 subst e
 rw [dpI_last]; exact h2
/-- the depth of what the parts hold -/
def dpP (L : List Tp) (ps : List Pa) : Nat := ps.foldl (fun m p => max m (dpI L p.ty.toNat)) 0
theorem foldl_congr {ps : List Pa} {f g : Nat → Pa → Nat} {a : Nat} (h : ∀ p ∈ ps, ∀ m, f m p = g m p) : ps.foldl f a = ps.foldl g a := by
 induction ps generalizing a with
 | nil => rfl
 | cons p l ih => rw [List.foldl_cons, List.foldl_cons, h p (List.mem_cons_self ..), ih (fun q hq => h q (List.mem_cons_of_mem _ hq))]
theorem dpP_app {L M : List Tp} {ps : List Pa} (h : ∀ p ∈ ps, 0 ≤ p.ty ∧ p.ty < (L.length : Int)) : dpP (L ++ M) ps = dpP L ps :=
 foldl_congr fun p hp m => by
  obtain ⟨h1, h2⟩ := h p hp
  rw [dpI_app (by omega)]
theorem dpP_snoc (L : List Tp) (ps : List Pa) (p : Pa) : dpP L (ps ++ [p]) = max (dpP L ps) (dpI L p.ty.toNat) := by simp [dpP]
theorem PsOk.rng {kind n : Int} {ps : List Pa} (h : PsOk kind n ps) : ∀ p ∈ ps, 0 ≤ p.ty ∧ p.ty < n := fun p hp => by
 obtain ⟨k, hk, rfl⟩ := List.getElem_of_mem hp
 obtain ⟨-, h1, h2, -⟩ := h k hk
 exact ⟨h1, h2⟩
theorem depK_ge1 {wh : List UInt8 → Nat} {dp : Nat → Nat} : ∀ (ts : Trs) (m : Nat), m ≤ depK wh dp ts m
 | .nil, m => Nat.le_refl _
 | .cons t ts, m => by unfold depK; exact Nat.le_trans (Nat.le_max_left _ _) (depK_ge1 ts _)
theorem depK_kid {wh : List UInt8 → Nat} {dp : Nat → Nat} {t : Tr} {ts : Trs} {m : Nat} : depT wh dp t ≤ depK wh dp (.cons t ts) m := by unfold depK; exact Nat.le_trans (Nat.le_max_right _ _) (depK_ge1 ts _)
theorem top_right {t : Tr} {a : Int} {d : Nat} (h : t.wf a d) : rightB t.top a = true := by cases t; exact h.2.2.1
/-- of names: their roots are types, asx deep asx they -/
def Nmd (wh : List UInt8 → Nat) (dp : Nat → Nat) (rt : List UInt8 → Int) (L : List Tp) (F : List Ex) : Prop := ∀ x ∈ F, x.kind = 9 → 0 ≤ rt x.name ∧ rt x.name < (L.length : Int) ∧ dpI L (rt x.name).toNat = dp (wh x.name)
theorem Nmd.app {wh : List UInt8 → Nat} {dp : Nat → Nat} {rt : List UInt8 → Int} {L M : List Tp} {F : List Ex} (h : Nmd wh dp rt L F) : Nmd wh dp rt (L ++ M) F := fun x hx h9 => by
 obtain ⟨h1, h2, h3⟩ := h x hx h9
 exact ⟨h1, by rw [List.length_append]; omega, by rw [dpI_app (by omega)]; exact h3⟩
mutual
theorem mkT_ok {wh : List UInt8 → Nat} {dp : Nat → Nat} {rt : List UInt8 → Int} : ∀ (t : Tr) (L : List Tp) (a : Int) (d p : Nat), t.wf a d → dupT t p = [] → (∀ x ∈ t.flat, outB x = false) → Nmd wh dp rt L t.flat → LOk L → depT wh dp t ≤ 64 →
  LOk (mkT rt t L).2 ∧ 0 ≤ (mkT rt t L).1 ∧ (mkT rt t L).1 < ((mkT rt t L).2.length : Int) ∧ dpI (mkT rt t L).2 (mkT rt t L).1.toNat = depT wh dp t
 | .node y ks, L, a, d, p, hw, hdup, hout, hnm, hL, hd => by
  by_cases hk : y.kind = 9
  ·obtain ⟨h1, h2, h3⟩ := hnm y (List.mem_cons_self ..) hk
   unfold mkT depT
   rw [if_pos hk, if_pos hk]
   exact ⟨hL, h1, h2, h3⟩
  obtain ⟨-, hmany, hr, hkids, hks⟩ := hw
  obtain ⟨hok, -, -, -⟩ := rightB_iff hr
  have hdd : depT wh dp (.node y ks) = depK wh dp ks 0 + 1 := by unfold depT; rw [if_neg hk]
  rw [hdd] at hd
  have hoy := hout y (List.mem_cons_self ..)
  have hot : ∀ x ∈ ks.flat, outB x = false := fun x hx => hout x (List.mem_cons_of_mem _ hx)
  have hnt : Nmd wh dp rt L ks.flat := fun x hx => hnm x (List.mem_cons_of_mem _ hx)
  obtain ⟨g1, g2, g3, g4, g5⟩ := mkK_ok (wh := wh) (dp := dp) (rt := rt) y.kind ks L 0 (d + 1) (p + 1) [] [] 0 hks (by rw [dupT] at hdup; exact hdup) hot hnt hL (by omega) (PsOk.nil _ _) (fun _ => rfl) (fun _ => rfl)
  have hm : mkT rt (.node y ks) L = (((mkK rt y.kind ks L 0 []).2.2.length : Int), (mkK rt y.kind ks L 0 []).2.2 ++ [⟨y.kind, y.n, (mkK rt y.kind ks L 0 []).1, (mkK rt y.kind ks L 0 []).2.1⟩]) := by rw [mkT, if_neg hk]
  rw [hm, hdd]
  obtain ⟨K, hK⟩ : ∃ K, K = mkK rt y.kind ks L 0 [] := ⟨_, rfl⟩
  rw [← hK] at g1 g3 g4 g5 ⊢
  have hdep : dpT1 ⟨y.kind, y.n, K.1, K.2.1⟩ (depL K.2.2 []) = depK wh dp ks 0 + 1 ∧ tpOk ⟨y.kind, y.n, K.1, K.2.1⟩ (K.2.2.length : Int) := by
   have hfold : ∀ (ps : List Pa) (m : Nat), ps.foldl (fun m p => max m ((depL K.2.2 []).getD p.ty.toNat 0)) m = ps.foldl (fun m p => max m (dpI K.2.2 p.ty.toNat)) m := fun ps m => rfl
   unfold dpT1
   by_cases h7 : many7 y.kind
   ·obtain ⟨q1, q2, q3⟩ := g4 h7
    have hn4 : ¬ (y.kind = 4 ∨ y.kind = 5 ∨ y.kind = 6) := by unfold many7 at h7; omega
    refine ⟨?_, ?_, ?_⟩
    ·show List.foldl _ (if y.kind = 4 ∨ y.kind = 5 ∨ y.kind = 6 then _ else 0) K.2.1 + 1 = _
     rw [if_neg hn4, hfold]
     show dpP K.2.2 K.2.1 + 1 = _
     rw [q2]
    ·show numOk y.kind y.n
     unfold numOk
     rw [if_neg (by unfold many7 at h7; omega), if_neg (by omega)]
     rcases okB_cases hok with g | g | g | g | g <;> unfold many7 at h7 <;> omega
    show (if y.kind = 1 ∨ y.kind = 2 ∨ y.kind = 3 then _ else _)
    rw [if_neg (by unfold many7 at h7; omega), if_neg (show ¬ (y.kind = 4 ∨ y.kind = 5 ∨ y.kind = 6) from hn4)]
    refine ⟨h7, q3, ?_, ?_, fun k hk2 => ⟨hk2, g3 k hk2⟩⟩
    ·show 1 ≤ K.2.1.length
     have := q1
     rcases okB_cases hok with g | g | g | g | g <;> unfold many7 at h7 <;> simp at this <;> omega
    show K.2.1.length ≤ 64
    have := (rightB_kids hr hmany).2
    simp at q1; omega
   obtain ⟨q1, q2⟩ := g5 h7
   have hp : K.2.1 = [] := q1
   rcases okB_cases hok with g | g | g | g | g
   ·have hnil : ks = .nil := trs_nil (by omega)
    subst hnil
    have hel : K.1 = 0 := by rw [hK]; rfl
    refine ⟨?_, ?_, ?_⟩
    ·show List.foldl _ (if y.kind = 4 ∨ y.kind = 5 ∨ y.kind = 6 then _ else 0) K.2.1 + 1 = _
     rw [if_neg (by omega), hp]; rfl
    ·show numOk y.kind y.n
     unfold numOk
     rw [if_pos g.1]; exact g.2.1
    show (if y.kind = 1 ∨ y.kind = 2 ∨ y.kind = 3 then _ else _)
    rw [if_pos (by omega)]; exact ⟨hel, hp⟩
   ·have hnil : ks = .nil := trs_nil (by omega)
    subst hnil
    have hel : K.1 = 0 := by rw [hK]; rfl
    refine ⟨?_, ?_, ?_⟩
    ·show List.foldl _ (if y.kind = 4 ∨ y.kind = 5 ∨ y.kind = 6 then _ else 0) K.2.1 + 1 = _
     rw [if_neg (by omega), hp]; rfl
    ·show numOk y.kind y.n
     unfold numOk
     rw [if_neg (by omega), if_neg (by omega)]; exact g.2.1
    show (if y.kind = 1 ∨ y.kind = 2 ∨ y.kind = 3 then _ else _)
    rw [if_pos (by omega)]; exact ⟨hel, hp⟩
   ·obtain ⟨t, rfl⟩ := trs_one (show ks.len = 1 by omega)
    obtain ⟨r1, r2, r3⟩ := q2 t rfl
    refine ⟨?_, ?_, ?_⟩
    ·show List.foldl _ (if y.kind = 4 ∨ y.kind = 5 ∨ y.kind = 6 then (depL K.2.2 []).getD K.1.toNat 0 else 0) K.2.1 + 1 = _
     rw [if_pos (by omega), hp]
     show dpI K.2.2 K.1.toNat + 1 = _
     rw [r3]; unfold depK depK; simp
    ·show numOk y.kind y.n
     unfold numOk
     rw [if_neg (by omega), if_pos (by omega)]
     unfold outB at hoy
     simp at hoy
     omega
    show (if y.kind = 1 ∨ y.kind = 2 ∨ y.kind = 3 then _ else _)
    rw [if_neg (by omega), if_pos (show y.kind = 4 ∨ y.kind = 5 ∨ y.kind = 6 by omega)]; exact ⟨r1, r2, hp⟩
   ·obtain ⟨t, rfl⟩ := trs_one (show ks.len = 1 by omega)
    obtain ⟨r1, r2, r3⟩ := q2 t rfl
    refine ⟨?_, ?_, ?_⟩
    ·show List.foldl _ (if y.kind = 4 ∨ y.kind = 5 ∨ y.kind = 6 then (depL K.2.2 []).getD K.1.toNat 0 else 0) K.2.1 + 1 = _
     rw [if_pos (by omega), hp]
     show dpI K.2.2 K.1.toNat + 1 = _
     rw [r3]; unfold depK depK; simp
    ·show numOk y.kind y.n
     unfold numOk
     rw [if_neg (by omega), if_neg (by omega)]; exact g.2.1
    show (if y.kind = 1 ∨ y.kind = 2 ∨ y.kind = 3 then _ else _)
    rw [if_neg (by omega), if_pos (show y.kind = 4 ∨ y.kind = 5 ∨ y.kind = 6 by omega)]; exact ⟨r1, r2, hp⟩
   exact absurd g.1 h7
  refine ⟨g1.snoc hdep.2 (by rw [hdep.1]; exact hd), by show (0 : Int) ≤ (K.2.2.length : Int); omega, by show (K.2.2.length : Int) < ((K.2.2 ++ _).length : Int); rw [List.length_append]; simp; omega, ?_⟩
  show dpI (K.2.2 ++ _) ((K.2.2.length : Int)).toNat = _
  rw [Int.toNat_natCast, dpI_last, hdep.1]
theorem mkK_ok {wh : List UInt8 → Nat} {dp : Nat → Nat} {rt : List UInt8 → Int} (kind : Int) : ∀ (ts : Trs) (L : List Tp) (el : Int) (d p : Nat) (seen : List Ex) (ps : List Pa) (m : Nat), ts.wf kind d → dupK kind ts p seen = [] → (∀ x ∈ ts.flat, outB x = false) → Nmd wh dp rt L ts.flat → LOk L → depK wh dp ts m ≤ 64 → PsOk kind (L.length : Int) ps →
  (many7 kind → ps.map (fun q => (q.label, q.tag)) = seen.map (fun x => (x.label, x.tag))) → (many7 kind → dpP L ps = m) →
  LOk (mkK rt kind ts L el ps).2.2 ∧ True ∧ PsOk kind ((mkK rt kind ts L el ps).2.2.length : Int) (mkK rt kind ts L el ps).2.1 ∧
   (many7 kind → (mkK rt kind ts L el ps).2.1.length = ps.length + ts.len ∧ dpP (mkK rt kind ts L el ps).2.2 (mkK rt kind ts L el ps).2.1 = depK wh dp ts m ∧ (mkK rt kind ts L el ps).1 = el) ∧
   (¬ many7 kind → (mkK rt kind ts L el ps).2.1 = ps ∧ ∀ t, ts = .cons t .nil → 0 ≤ (mkK rt kind ts L el ps).1 ∧ (mkK rt kind ts L el ps).1 < ((mkK rt kind ts L el ps).2.2.length : Int) ∧ dpI (mkK rt kind ts L el ps).2.2 (mkK rt kind ts L el ps).1.toNat = depT wh dp t)
 | .nil, L, el, d, p, seen, ps, m, hw, hdup, hout, hnm, hL, hd, hps, hsn, hm => ⟨hL, trivial, hps, fun h => ⟨by simp [mkK, Trs.len], hm h, rfl⟩, fun h => ⟨rfl, fun t ht => by cases ht⟩⟩
 | .cons t ts, L, el, d, p, seen, ps, m, hw, hdup, hout, hnm, hL, hd, hps, hsn, hm => by
  rw [dupK, List.append_eq_nil_iff, List.append_eq_nil_iff] at hdup
  obtain ⟨hd1, hd2, hd3⟩ := hdup
  have hnd : dupB kind seen t.top = false := by
   cases hb : dupB kind seen t.top with
   | false => rfl
   | true => rw [hb, if_pos rfl] at hd1; cases hd1
  have hkid : depT wh dp t ≤ 64 := Nat.le_trans depK_kid hd
  obtain ⟨g1, g2, g3, g4⟩ := mkT_ok (wh := wh) (dp := dp) (rt := rt) t L kind d p hw.1 hd2 (fun x hx => hout x (List.mem_append_left _ hx)) (fun x hx => hnm x (List.mem_append_left _ hx)) hL hkid
  obtain ⟨M, hM, -⟩ := mkT_pre rt t L (wf_leafy t _ _ hw.1)
  obtain ⟨r, hr⟩ : ∃ r, r = mkT rt t L := ⟨_, rfl⟩
  rw [← hr] at g1 g2 g3 g4 hM
  have hlen : (L.length : Int) ≤ (r.2.length : Int) := by rw [hM, List.length_append]; omega
  have hnm2 : Nmd wh dp rt r.2 ts.flat := by rw [hM]; exact Nmd.app (fun x hx => hnm x (List.mem_append_right _ hx))
  have hd' : depK wh dp ts (max m (depT wh dp t)) ≤ 64 := hd
  by_cases h7 : many7 kind
  ·have htr := top_right hw.1
   obtain ⟨-, -, hlb, htg⟩ := rightB_iff htr
   have hob : outB t.top = false := hout _ (List.mem_append_left _ (by cases t; exact List.mem_cons_self ..))
   have hp1 : if kind = 8 then nameB t.top.label = true ∧ t.top.tag = 0 else t.top.label = [] ∧ 0 ≤ t.top.tag ∧ t.top.tag ≤ 255 := by
    unfold labB at hlb
    unfold tagB at htg
    unfold outB at hob
    simp at htg hob
    unfold many7 at h7
    split
    ·rename_i h8
     rw [if_pos h8] at hlb
     exact ⟨hlb, by omega⟩
    rename_i h8
    rw [if_neg h8] at hlb
    exact ⟨by simpa using hlb, by omega, by omega⟩
   have hp4 : ∀ q ∈ ps, ¬ (q.label = t.top.label ∧ q.tag = t.top.tag) := fun q hq ⟨e1, e2⟩ => by
    have h1 : (q.label, q.tag) ∈ ps.map (fun q => (q.label, q.tag)) := List.mem_map.2 ⟨q, hq, rfl⟩
    rw [hsn h7] at h1
    obtain ⟨s, hs, he⟩ := List.mem_map.1 h1
    simp only [Prod.mk.injEq] at he
    unfold dupB at hnd
    unfold many7 at h7
    split at hnd
    ·have := List.any_eq_false.1 hnd s hs
     simp at this
     exact this (he.1.trans e1)
    rw [if_pos (by omega)] at hnd
    have := List.any_eq_false.1 hnd s hs
    simp at this
    exact this (he.2.trans e2)
   have hps2 : PsOk kind (r.2.length : Int) (ps ++ [⟨t.top.label, t.top.tag, r.1⟩]) := (hps.mono hlen).snoc hp1 g2 g3 hp4
   have hm2 : dpP r.2 (ps ++ [⟨t.top.label, t.top.tag, r.1⟩]) = max m (depT wh dp t) := by
    rw [dpP_snoc, g4, hM, dpP_app hps.rng, hm h7]
   obtain ⟨k1, k2, k3, k4, k5⟩ := mkK_ok (wh := wh) (dp := dp) (rt := rt) kind ts r.2 el d _ (seen ++ [t.top]) (ps ++ [⟨t.top.label, t.top.tag, r.1⟩]) _ hw.2 hd3 (fun x hx => hout x (List.mem_append_right _ hx)) hnm2 g1 hd' hps2 (fun h => by rw [List.map_append, List.map_append, hsn h]; rfl) (fun _ => hm2)
   have he : mkK rt kind (.cons t ts) L el ps = mkK rt kind ts r.2 el (ps ++ [⟨t.top.label, t.top.tag, r.1⟩]) := by rw [mkK, if_pos h7, hr]
   rw [he]
   refine ⟨k1, trivial, k3, fun h => ?_, fun h => absurd h7 h⟩
   obtain ⟨q1, q2, q3⟩ := k4 h
   exact ⟨by rw [q1]; simp [Trs.len]; omega, q2, q3⟩
  obtain ⟨k1, k2, k3, k4, k5⟩ := mkK_ok (wh := wh) (dp := dp) (rt := rt) kind ts r.2 r.1 d _ (seen ++ [t.top]) ps _ hw.2 hd3 (fun x hx => hout x (List.mem_append_right _ hx)) hnm2 g1 hd' (hps.mono hlen) (fun h => absurd h h7) (fun h => absurd h h7)
  have he : mkK rt kind (.cons t ts) L el ps = mkK rt kind ts r.2 r.1 ps := by rw [mkK, if_neg h7, hr]
  rw [he]
  refine ⟨k1, trivial, k3, fun h => absurd h h7, fun h => ⟨(k5 h).1, fun t' ht => ?_⟩⟩
  cases ht
  exact ⟨g2, g3, g4⟩
end

end Go.Proofs.Ytpbflfgigfdohaa

namespace Go.Proofs.Ytpbflfgigfdohaa
open Go Go.Vc Go.RowKit Go.Proofs

/-- used by a type -/
def Usd (L : List Tp) (j : Nat) : Prop := ∃ i, ∃ hi : i < L.length, ((L[i].kind = 4 ∨ L[i].kind = 5 ∨ L[i].kind = 6) ∧ L[i].elem = (j : Int)) ∨ ∃ p ∈ L[i].parts, p.ty = (j : Int)
theorem Usd.app {L M : List Tp} {j : Nat} (h : Usd L j) : Usd (L ++ M) j := by
 obtain ⟨i, hi, h1⟩ := h
 exact ⟨i, by rw [List.length_append]; omega, by rw [List.getElem_append_left hi]; exact h1⟩
mutual
theorem mkT_used (rt : List UInt8 → Int) : ∀ (t : Tr) (L : List Tp) (a : Int) (d : Nat), t.wf a d → ∀ j, L.length ≤ j → j < (mkT rt t L).2.length → (j : Int) = (mkT rt t L).1 ∨ Usd (mkT rt t L).2 j
 | .node y ks, L, a, d, hw, j, hj1, hj2 => by
  by_cases hk : y.kind = 9
  ·have hm : mkT rt (.node y ks) L = (rt y.name, L) := by rw [mkT, if_pos hk]
   rw [hm] at hj2
   exact absurd hj2 (by show ¬ j < L.length; omega)
  have hm : mkT rt (.node y ks) L = (((mkK rt y.kind ks L 0 []).2.2.length : Int), (mkK rt y.kind ks L 0 []).2.2 ++ [⟨y.kind, y.n, (mkK rt y.kind ks L 0 []).1, (mkK rt y.kind ks L 0 []).2.1⟩]) := by rw [mkT, if_neg hk]
  rw [hm] at hj2 ⊢
  obtain ⟨-, -, hr, hkids, hks⟩ := hw
  obtain ⟨hok, -, -, -⟩ := rightB_iff hr
  have hone : ¬ many7 y.kind → ks.len ≤ 1 ∧ (ks.len = 1 → y.kind = 4 ∨ y.kind = 5 ∨ y.kind = 6) := fun h7 => by
   unfold many7 at h7
   rcases okB_cases hok with g | g | g | g | g <;> omega
  have hu := mkK_used rt y.kind ks L 0 [] (d + 1) hks (fun h => (hone h).1) j hj1
  obtain ⟨K, hK⟩ : ∃ K, K = mkK rt y.kind ks L 0 [] := ⟨_, rfl⟩
  rw [← hK] at hu hj2 ⊢
  have hl : (K.2.2 ++ [(⟨y.kind, y.n, K.1, K.2.1⟩ : Tp)]).length = K.2.2.length + 1 := by simp
  have hlast : (K.2.2 ++ [(⟨y.kind, y.n, K.1, K.2.1⟩ : Tp)])[K.2.2.length]'(by omega) = ⟨y.kind, y.n, K.1, K.2.1⟩ := by simp
  rcases Nat.lt_or_ge j K.2.2.length with h | h
  ·right
   rcases hu h with h1 | h1 | h1
   ·refine ⟨K.2.2.length, by show _ < (K.2.2 ++ _).length; omega, .inr ?_⟩
    show ∃ p ∈ ((K.2.2 ++ [(⟨y.kind, y.n, K.1, K.2.1⟩ : Tp)])[K.2.2.length]'(by omega)).parts, _
    rw [hlast]; exact h1.2
   ·refine ⟨K.2.2.length, by show _ < (K.2.2 ++ _).length; omega, .inl ?_⟩
    show (((K.2.2 ++ [(⟨y.kind, y.n, K.1, K.2.1⟩ : Tp)])[K.2.2.length]'(by omega)).kind = 4 ∨ _) ∧ _
    rw [hlast]
    exact ⟨(hone h1.1).2 h1.2.1, h1.2.2.symm⟩
   exact h1.app
  left
  show (j : Int) = (K.2.2.length : Int)
  have : j < (K.2.2 ++ [(⟨y.kind, y.n, K.1, K.2.1⟩ : Tp)]).length := hj2
  omega
theorem mkK_used (rt : List UInt8 → Int) (kind : Int) : ∀ (ts : Trs) (L : List Tp) (el : Int) (ps : List Pa) (d : Nat), ts.wf kind d → (¬ many7 kind → ts.len ≤ 1) → ∀ j, L.length ≤ j → j < (mkK rt kind ts L el ps).2.2.length →
  (many7 kind ∧ ∃ p ∈ (mkK rt kind ts L el ps).2.1, p.ty = (j : Int)) ∨ (¬ many7 kind ∧ ts.len = 1 ∧ (j : Int) = (mkK rt kind ts L el ps).1) ∨ Usd (mkK rt kind ts L el ps).2.2 j
 | .nil, L, el, ps, d, hw, hone, j, hj1, hj2 => by
  have : j < L.length := hj2
  omega
 | .cons t ts, L, el, ps, d, hw, hone, j, hj1, hj2 => by
  have ht := mkT_used rt t L kind d hw.1 j hj1
  obtain ⟨M, hM, -⟩ := mkT_pre rt t L (wf_leafy t _ _ hw.1)
  by_cases h7 : many7 kind
  ·have he : mkK rt kind (.cons t ts) L el ps = mkK rt kind ts (mkT rt t L).2 el (ps ++ [⟨t.top.label, t.top.tag, (mkT rt t L).1⟩]) := by rw [mkK, if_pos h7]
   rw [he] at hj2 ⊢
   rcases Nat.lt_or_ge j (mkT rt t L).2.length with h | h
   ·obtain ⟨N, hN, -⟩ := mkK_pre rt kind ts (mkT rt t L).2 el (ps ++ [⟨t.top.label, t.top.tag, (mkT rt t L).1⟩]) (wfs_leafy ts _ _ hw.2)
    rcases ht h with h1 | h1
    ·left
     refine ⟨h7, ⟨t.top.label, t.top.tag, (mkT rt t L).1⟩, ?_, h1.symm⟩
     obtain ⟨q, hq⟩ := mkK_ps rt kind ts (mkT rt t L).2 el (ps ++ [⟨t.top.label, t.top.tag, (mkT rt t L).1⟩])
     rw [hq]; simp
    right; right
    rw [hN]; exact h1.app
   rcases mkK_used rt kind ts (mkT rt t L).2 el (ps ++ [⟨t.top.label, t.top.tag, (mkT rt t L).1⟩]) d hw.2 (fun h => absurd h7 h) j h hj2 with h1 | h1 | h1
   ·exact .inl h1
   ·exact absurd h7 h1.1
   exact .inr (.inr h1)
  have he : mkK rt kind (.cons t ts) L el ps = mkK rt kind ts (mkT rt t L).2 (mkT rt t L).1 ps := by rw [mkK, if_neg h7]
  have hnil : ts = .nil := by
   cases ts with
   | nil => rfl
   | cons a b => have := hone h7; simp [Trs.len] at this
  subst hnil
  rw [he] at hj2 ⊢
  rcases ht hj2 with h1 | h1
  ·exact .inr (.inl ⟨h7, rfl, h1⟩)
  exact .inr (.inr h1)
theorem mkK_ps (rt : List UInt8 → Int) (kind : Int) : ∀ (ts : Trs) (L : List Tp) (el : Int) (ps : List Pa), ∃ q, (mkK rt kind ts L el ps).2.1 = ps ++ q
 | .nil, L, el, ps => ⟨[], by simp [mkK]⟩
 | .cons t ts, L, el, ps => by
  rw [mkK]
  split
  ·obtain ⟨q, hq⟩ := mkK_ps rt kind ts (mkT rt t L).2 el (ps ++ [⟨t.top.label, t.top.tag, (mkT rt t L).1⟩])
   exact ⟨⟨t.top.label, t.top.tag, (mkT rt t L).1⟩ :: q, by rw [hq, List.append_assoc]; rfl⟩
  exact mkK_ps rt kind ts _ _ ps
end

end Go.Proofs.Ytpbflfgigfdohaa

namespace Go.Proofs.Ytpbflfgigfdohaa
open Go Go.Vc Go.RowKit Go.Proofs

mutual
theorem tr_uniq : ∀ (t1 t2 : Tr) (r1 r2 : List Ex) (a1 a2 : Int) (d1 d2 : Nat), t1.wf a1 d1 → t2.wf a2 d2 → t1.flat ++ r1 = t2.flat ++ r2 → t1 = t2 ∧ r1 = r2
 | .node y ks, .node z ls, r1, r2, a1, a2, d1, d2, h1, h2, h => by
  simp only [Tr.flat, List.cons_append, List.cons.injEq] at h
  obtain ⟨rfl, h⟩ := h
  obtain ⟨-, -, -, hk1, hw1⟩ := h1
  obtain ⟨-, -, -, hk2, hw2⟩ := h2
  obtain ⟨rfl, rfl⟩ := trs_uniq ks ls r1 r2 _ _ _ _ hw1 hw2 (by omega) h
  exact ⟨rfl, rfl⟩
theorem trs_uniq : ∀ (s1 s2 : Trs) (r1 r2 : List Ex) (a1 a2 : Int) (d1 d2 : Nat), s1.wf a1 d1 → s2.wf a2 d2 → s1.len = s2.len → s1.flat ++ r1 = s2.flat ++ r2 → s1 = s2 ∧ r1 = r2
 | .nil, .nil, r1, r2, _, _, _, _, _, _, _, h => ⟨rfl, h⟩
 | .nil, .cons t ts, _, _, _, _, _, _, _, _, hl, _ => by simp [Trs.len] at hl
 | .cons t ts, .nil, _, _, _, _, _, _, _, _, hl, _ => by simp [Trs.len] at hl
 | .cons t ts, .cons u us, r1, r2, a1, a2, d1, d2, h1, h2, hl, h => by
  simp only [Trs.flat, List.append_assoc] at h
  obtain ⟨he, h'⟩ := tr_uniq t u _ _ _ _ _ _ h1.1 h2.1 h
  subst he
  obtain ⟨rfl, rfl⟩ := trs_uniq ts us r1 r2 _ _ _ _ h1.2 h2.2 (by simp [Trs.len] at hl; omega) h'
  exact ⟨rfl, rfl⟩
end
theorem Trd.uniq {D : List Df} {T U : Nat → Tr} (h : Trd D T) (k : Trd D U) : ∀ i, i < D.length → T i = U i := fun i hi =>
 (tr_uniq (T i) (U i) [] [] 0 0 0 0 (h.wf i hi) (k.wf i hi) (by rw [h.fl i hi, k.fl i hi])).1
theorem firstN_congr {α : Type} {n : Nat} {f g : Nat → Option α} (h : ∀ i, i < n → f i = g i) : firstN n f = firstN n g := by
 unfold firstN
 induction n with
 | zero => rfl
 | succ n ih =>
  rw [List.range_succ, List.findSome?_append, List.findSome?_append, ih (fun i hi => h i (by omega))]
  simp [h n (Nat.lt_succ_self n)]
theorem resF_congr {D : List Df} {T U : Nat → Tr} (h : ∀ i, i < D.length → T i = U i) : resF D T = resF D U := firstN_congr fun i hi => by unfold defF; rw [h i hi]
theorem depO_congr {wh : List UInt8 → Nat} {T U : Nat → Tr} : ∀ (l : List Nat) (f : Nat → Nat), (∀ i ∈ l, T i = U i) → depO wh T l f = depO wh U l f
 | [], f, _ => rfl
 | i :: l, f, h => by
  unfold depO
  rw [h i (List.mem_cons_self ..)]
  exact depO_congr l _ (fun j hj => h j (List.mem_cons_of_mem _ hj))
theorem ord_lt {n : Nat} {U : Nat → List Nat} : ∀ (f : Nat) (out : List Nat), (∀ i ∈ out, i < n) → ∀ i ∈ orderF n U f out, i < n
 | 0, out, h, i, hi => h i hi
 | f + 1, out, h, i, hi => by
  unfold orderF at hi
  split at hi
  ·exact h i hi
  rename_i j hj
  refine ord_lt f _ (fun k hk => ?_) i hi
  rcases List.mem_append.1 hk with hk | hk
  ·exact h k hk
  rw [List.mem_singleton.1 hk]; exact (nextO_some hj).1
theorem depN_congr {D : List Df} {T U : Nat → Tr} (h : ∀ i, i < D.length → T i = U i) : depN D T = depN D U := depO_congr _ _ fun i hi => h i (ord_lt _ _ (fun _ h => by cases h) i hi)
theorem deepF_congr {D : List Df} {T U : Nat → Tr} (h : ∀ i, i < D.length → T i = U i) : deepF D T = deepF D U := by unfold deepF; rw [depN_congr h]
/-- the fault, by any trees of it -/
theorem fA_of {D : List Df} {T : Nat → Tr} (hck : (chkS D).2.2 = 0) (hT : Trd D T) : fA D = (resF D T).or ((ringF D).or (deepF D T)) := by
 unfold fA
 rw [resA_ok hck, resF_congr ((trd_of hck).uniq hT), deepF_congr ((trd_of hck).uniq hT)]
/-- a rank that falls along uses: no ring -/
theorem rank_no {U : Nat → List Nat} (r : Nat → Nat) (h : ∀ i, ∀ j ∈ U i, r j < r i) : ∀ i, ¬ Relation.TransGen (Us U) i i := by
 have key : ∀ i k, Relation.TransGen (Us U) i k → r k < r i := by
  intro i k hk
  induction hk with
  | single h1 => exact h _ _ h1
  | tail _ h1 ih => exact Nat.lt_trans (h _ _ h1) ih
 exact fun i hi => Nat.lt_irrefl _ (key i i hi)
end Go.Proofs.Ytpbflfgigfdohaa

namespace Go.Vc
open Go Go.RowKit
theorem fold_set : ∀ (xs : List Value) (k off : Nat) (cs : Array Value), off + k + xs.length ≤ cs.size →
  ((xs.zipIdx k).foldl (fun cs (x : Value × Nat) => cs.setIfInBounds (off + x.2) x.1) cs) = (cs.toList.take (off + k) ++ xs ++ cs.toList.drop (off + k + xs.length)).toArray
 | [], k, off, cs, h => by simp
 | x :: xs, k, off, cs, h => by
  simp only [List.length_cons] at h
  rw [List.zipIdx_cons, List.foldl_cons, fold_set xs (k + 1) off _ (by simp; omega)]
  congr 1
  simp only [Array.toList_setIfInBounds]
  rw [List.drop_set_of_lt (by omega), show off + (k + 1) = (off + k) + 1 by omega, List.take_succ_eq_append_getElem (by simp; omega), List.take_set_of_le (by omega)]
  rw [List.append_assoc, List.append_assoc, List.append_assoc]
  simp only [List.getElem_set_self, List.singleton_append, List.cons_append, List.nil_append, List.length_cons]
  congr 4
  omega
theorem fill_rows {s : Nat} : ∀ (vs : List Value) (k : Nat) (cells : Array Value), (∀ v ∈ vs, v.cells.size = s) → (k + vs.length) * s = cells.size →
  Instr.fill (fun i => some (i * s, s)) cells ((vs.zipIdx k).map fun x => (x.2, x.1)) = some ((cells.toList.take (k * s) ++ vs.flatMap (fun v => v.cells.toList)).toArray)
 | [], k, cells, _, h => by
  simp at h
  have : cells.toList.take (k * s) = cells.toList := List.take_of_length_le (by simp [h])
  simp [Instr.fill, this]
 | v :: vs, k, cells, h1, h => by
  have hv := h1 v (List.mem_cons_self ..)
  have hsz : k * s + s ≤ cells.size := by
   rw [← h, List.length_cons, show k + (vs.length + 1) = (k + 1) + vs.length by omega, Nat.add_mul (k + 1), Nat.succ_mul]
   omega
  have hf : v.cells.zipIdx.foldl (fun cs (x : Value × Nat) => cs.setIfInBounds (k * s + x.2) x.1) cells = (cells.toList.take (k * s) ++ v.cells.toList ++ cells.toList.drop (k * s + s)).toArray := by
   have h2 := fold_set v.cells.toList 0 (k * s) cells (by simp; omega)
   rw [← Array.foldl_toList, Array.toList_zipIdx, h2]
   simp [hv]
  rw [List.zipIdx_cons, List.map_cons, Instr.fill]
  show (if (decide (v.cells.size ≠ s) || decide (k * s + v.cells.size > cells.size)) = true then none else Instr.fill (fun i => some (i * s, s)) (v.cells.zipIdx.foldl (fun cs (x : Value × Nat) => cs.setIfInBounds (k * s + x.2) x.1) cells) (List.map (fun x => (x.snd, x.fst)) (vs.zipIdx (k + 1)))) = _
  rw [if_neg (by simp [hv]; omega), hf, fill_rows vs (k + 1) _ (fun v hv => h1 v (List.mem_cons_of_mem _ hv)) (by
   simp [hv]
   simp only [List.length_cons] at h
   rw [← h, show k + (vs.length + 1) = (k + 1) + vs.length by omega, Nat.add_mul (k + 1), Nat.succ_mul, Nat.min_eq_left (by omega)]
   omega)]
  congr 2
  simp only [List.flatMap_cons]
  rw [← List.append_assoc]
  congr 1
  rw [List.take_append_of_le_length (by simp [hv]; rw [Nat.succ_mul]; omega), List.take_of_length_le (by simp [hv]; rw [Nat.succ_mul]; omega)]
section
variable {P : Program} {e : Env} {w : World} {K : Value → World → Prop} {ty : TypeId}
theorem o_bsA {t el : TypeId} {len s bs s' bs' : Nat} {z z' : Value} {d' : TypeDesc} {xs : List Operand} {vs : List Value} {cs : List Value} {parts : Array (Nat × Operand)} (ht : Ty P t (.slice el) s bs z) (hel : Ty P el d' s' bs' z') (hp : parts = ((xs.zipIdx 0).map fun x => (x.2, x.1)).toArray) (hx : xs.map (ev e) = vs) (hv : vs.all (fun v => v.cells.size == s') = true) (hl : vs.length = len) (h0 : 0 < len * s') (hs : len * s' ≤ 16777216) (hc : vs.flatMap (fun v => v.cells.toList) = cs)
  (k : K (.slice (some ⟨w.heap.size, 0, none⟩) len len) (w.alloc (.cells cs.toArray el))) : OP P e (.buildSlice t len parts) ty w K := by
 subst hp
 refine o_bs ht hel (by simp; omega) (cells := cs.toArray) ?_ (by simp; omega) k
 have hm : ((((xs.zipIdx 0).map fun x => (x.2, x.1)).toArray.map fun (x : Nat × Operand) => (x.1, ev e x.2))).toList = (vs.zipIdx 0).map fun x => (x.2, x.1) := by
  subst hx
  simp only [List.map_toArray, List.map_map]
  have gen : ∀ (l : List Operand) (k : Nat), (l.zipIdx k).map ((fun (x : Nat × Operand) => (x.1, ev e x.2)) ∘ fun x => (x.2, x.1)) = ((l.map (ev e)).zipIdx k).map fun x => (x.2, x.1) := by
   intro l
   induction l with
   | nil => intro k; rfl
   | cons a l ih => intro k; simp only [List.zipIdx_cons, List.map_cons, ih (k + 1)]; rfl
  exact gen xs 0
 rw [hm, fill_rows vs 0 _ (fun v hv' => by simpa using List.all_eq_true.1 hv v hv') (by simp [hl]), hc]
 simp
end
end Go.Vc

namespace Go.Proofs.Ytpbflfgigfdohaa
open Go Go.Vc Go.RowKit Go.Proofs

def zv (z : Int) : Value := .int .i64 z
theorem order_call (D : List Df) (dv : Value) (V : Nat → Value) (w0 : World) (hD : DefR w0 D dv V) (hlim : DOk D) {er at_ : Int} (hf : flt D = (er, at_)) : Ca Try.prog 29 #[.agg #[dv]] w0 (fun v w' => ∃ ov, v = .tuple #[ov, .agg #[.int .i64 er, .int .i64 at_]] ∧ w'.ownsRow w0.heap.size 3 1 ov (ordR D).length ((ordR D).map iv) ∧ Ext w0 w') := by
 have h := names_order_spec D dv V w0 hD hlim
 rw [hf] at h
 exact h
theorem find_call (D : List Df) (dv : Value) (V : Nat → Value) (nm : List UInt8) (w0 : World) (hD : DefR w0 D dv V) (hlen : D.length * 48 ≤ 140737488351232) {k : Nat} (hk : whereN D nm = some k) : Ca Try.prog 57 #[.agg #[dv], st nm] w0 (fun v w' => v = .tuple #[.int .i64 (k : Int), .int .i64 0] ∧ Ext w0 w') := by
 have h := find_spec D dv V nm w0 hD hlen
 rw [hk] at h
 exact h
theorem Sl.ofRow {w : World} {s n : Nat} {cs : List Value} {el : TypeId} (hl : cs.length = n * s) : Sl (w.alloc (.cells cs.toArray el)) s (.slice (some ⟨w.heap.size, 0, none⟩) n n) n cs :=
 Sl.blk (heap_alloc_new w _) 0 cs hl (Nat.le_refl _) (fun i v h => by simpa using h)


end Go.Proofs.Ytpbflfgigfdohaa

namespace Go.Proofs.Ytpbflfgigfdohaa
open Go Go.Vc Go.RowKit Go.Proofs

theorem firstN_some {α : Type} {n : Nat} {f : Nat → Option α} {v : α} (h : firstN n f = some v) : ∃ i, i < n ∧ f i = some v := by
 unfold firstN at h
 obtain ⟨i, hi, hv⟩ := List.exists_of_findSome?_eq_some h
 exact ⟨i, List.mem_range.1 hi, hv⟩
theorem nodeF_nz {D : List Df} {dup : List Nat} {L : List Ex} {j : Nat} {v : Int × Int} (h : nodeF D dup L j = some v) : v.1 = 80 ∨ v.1 = 81 := by
 unfold nodeF at h
 split at h
 ·cases h; exact .inl rfl
 split at h
 ·cases h; exact .inr rfl
 cases h
theorem resF_nz {D : List Df} {T : Nat → Tr} {v : Int × Int} (h : resF D T = some v) : v.1 = 80 ∨ v.1 = 81 := by
 obtain ⟨i, hi, hd⟩ := firstN_some h
 unfold defF at hd
 split at hd
 ·obtain ⟨j, hj, hn⟩ := firstN_some hd
  exact nodeF_nz hn
 cases hd; exact .inl rfl
theorem resA_nz {D : List Df} {v : Int × Int} (h : resA D = some v) : v.1 = 62 ∨ v.1 = 80 ∨ v.1 = 81 := by
 unfold resA at h
 split at h
 ·exact .inr (resF_nz h)
 cases h; exact .inl rfl
theorem ringF_nz {D : List Df} {v : Int × Int} (h : ringF D = some v) : v.1 = 82 := by
 obtain ⟨i, hi, hd⟩ := firstN_some h
 split at hd
 ·cases hd; rfl
 cases hd
theorem deepF_nz {D : List Df} {T : Nat → Tr} {v : Int × Int} (h : deepF D T = some v) : v.1 = 83 := by
 obtain ⟨i, hi, hd⟩ := firstN_some h
 split at hd
 ·cases hd; rfl
 cases hd
theorem fA_cases {D : List Df} {v : Int × Int} (h : fA D = some v) : resA D = some v ∨ (resA D = none ∧ ringF D = some v) ∨ (resA D = none ∧ ringF D = none ∧ deepF D (TD D) = some v) := by
 unfold fA at h
 cases h1 : resA D with
 | some u => rw [h1] at h; exact .inl h
 | none =>
  rw [h1, Option.none_or] at h
  cases h2 : ringF D with
  | some u => rw [h2] at h; exact .inr (.inl ⟨rfl, h⟩)
  | none => rw [h2, Option.none_or] at h; exact .inr (.inr ⟨rfl, rfl, h⟩)
theorem fA_nz {D : List Df} {v : Int × Int} (h : fA D = some v) : v.1 = 62 ∨ v.1 = 80 ∨ v.1 = 81 ∨ v.1 = 82 ∨ v.1 = 83 := by
 rcases fA_cases h with h | ⟨-, h⟩ | ⟨-, -, h⟩
 ·have := resA_nz h; omega
 ·have := ringF_nz h; omega
 have := deepF_nz h; omega
theorem flt_bad {D : List Df} {er at_ : Int} (h : flt D = (er, at_)) (he : ¬ er = 0) : ¬ fA D = none := fun hn => by rw [flt_none hn] at h; cases h; exact he rfl
theorem flt_good {D : List Df} {er at_ : Int} (h : flt D = (er, at_)) (he : er = 0) : fA D = none := by
 cases hf : fA D with
 | none => rfl
 | some v =>
  rw [flt_some hf] at h
  have := fA_nz hf
  rw [h] at this
  simp at this
  omega
theorem nodup_len : ∀ (n : Nat) (l : List Nat), l.Nodup → (∀ x ∈ l, x < n) → l.length ≤ n
 | 0, l, _, h => by
  cases l with
  | nil => exact Nat.le_refl _
  | cons a l => exact absurd (h a (List.mem_cons_self ..)) (by omega)
 | n + 1, l, hn, h => by
  have h1 := nodup_len n (l.erase n) (hn.erase n) (fun x hx => by
   have h2 := h x (List.mem_of_mem_erase hx)
   have h3 : x ≠ n := fun e => by
    subst e
    exact (hn.mem_erase_iff.1 hx).1 rfl
   omega)
  by_cases hm : n ∈ l
  ·rw [List.length_erase_of_mem hm] at h1
   have := List.length_pos_of_mem hm
   omega
  rw [List.erase_of_not_mem hm] at h1
  omega
theorem Told.all {n : Nat} {U : Nat → List Nat} {l : List Nat} (h : Told n U l) (hl : l.length = n) : ∀ i, i < n → i ∈ l := by
 intro i hi
 refine Classical.byContradiction fun hm => ?_
 have := nodup_len n (i :: l) (List.nodup_cons.2 ⟨hm, h.nd⟩) (fun x hx => by
  rcases List.mem_cons.1 hx with rfl | hx
  ·exact hi
  exact h.lt x hx)
 rw [List.length_cons] at this
 omega
theorem uses_mem {D : List Df} {i : Nat} (hi : i < D.length) {x : Ex} (hx : x ∈ D[i].ty) (h9 : x.kind = 9) : whD D x.name ∈ usesD D i := by
 unfold usesD
 rw [tyD_at hi]
 exact List.mem_map.2 ⟨x, List.mem_filter.2 ⟨hx, decide_eq_true h9⟩, rfl⟩
/-- of a source that is all right -/
structure Good (D : List Df) : Prop where
 ck : (chkS D).2.2 = 0
 res : resA D = none
 rn : ringF D = none
 dn : deepF D (TD D) = none
theorem good_of {D : List Df} (h : fA D = none) : Good D := by
 obtain ⟨h1, h2, h3⟩ := fA_back h
 refine ⟨?_, h1, h2, h3⟩
 refine Classical.byContradiction fun hc => ?_
 rw [resA_src hc] at h1
 cases h1
theorem Good.trd {D : List Df} (h : Good D) : Trd D (TD D) := trd_of h.ck
theorem Good.kn {D : List Df} (h : Good D) : kn9 D := kn9_of h.res h.ck
theorem Good.ac {D : List Df} (h : Good D) : ∀ i, i < D.length → ¬ Relation.TransGen (Us (usesD D)) i i := ringF_none h.rn
theorem Good.ord {D : List Df} (h : Good D) : Told D.length (usesD D) (ordN D) ∧ (ordN D).length = D.length := ord_told h.kn h.ac
theorem dep_fix {D : List Df} {T : Nat → Tr} (hT : Trd D T) (hto : Told D.length (usesD D) (ordN D)) (hl : (ordN D).length = D.length) : ∀ i, i < D.length → depN D T i = depT (whD D) (depN D T) (T i) := by
 intro i hi
 refine depO_fix (out := []) (n := D.length) (U := usesD D) (fun i hi x hx h9 => ?_) (ordN D) (fun _ => 0) (by simpa using hto) (fun i hi => by cases hi) i (by simpa using hto.all hl i hi)
 rw [hT.fl i hi, tyD_at hi] at hx
 exact uses_mem hi hx h9
theorem Good.deep {D : List Df} (h : Good D) : ∀ i, i < D.length → depN D (TD D) i ≤ 64 := by
 intro i hi
 have := firstN_none h.dn i hi
 split at this
 ·cases this
 omega
end Go.Proofs.Ytpbflfgigfdohaa

namespace Go.Proofs.Ytpbflfgigfdohaa
open Go Go.Vc Go.RowKit Go.Proofs

/-- p tells each number below n once -/
structure Pm (n : Nat) (p : List Nat) : Prop where
 nd : p.Nodup
 lt : ∀ i ∈ p, i < n
 all : ∀ i, i < n → i ∈ p
 len : p.length = n
section
variable {D : List Df} {p : List Nat} (hp : Pm D.length p)
include hp
end
/-- names stand once -/
def Once (D : List Df) : Prop := ∀ i, i < D.length → ∀ j, j < D.length → (D.getD i df0).name = (D.getD j df0).name → i = j
theorem once_iff (D : List Df) : (∀ i, i < D.length → whereN D (D.getD i df0).name = some i) ↔ Once D := by
 constructor
 ·intro h i hi j hj he
  have h1 := h i hi
  rw [he, h j hj] at h1
  exact (Option.some.inj h1).symm
 intro h i hi
 cases hw : whereN D (D.getD i df0).name with
 | none => exact absurd rfl (by have := whereN_none hw _ (List.getElem_mem hi); rwa [getD_at hi] at this)
 | some k =>
  obtain ⟨hk, he, -⟩ := whereN_some hw
  rw [h k hk i hi (by rw [getD_at hk]; exact he)]
theorem resF_iff {D : List Df} {T : Nat → Tr} : resF D T = none ↔ Once D ∧ ∀ i, i < D.length → ∀ j, j < (tyD D i).length → ¬ j ∈ dupT (T i) 0 ∧ ¬ (((tyD D i).getD j ex0).kind = 9 ∧ whereN D ((tyD D i).getD j ex0).name = none) := by
 constructor
 ·intro h
  have h1 := firstN_none h
  refine ⟨(once_iff D).1 fun i hi => ?_, fun i hi j hj => ?_⟩
  ·have h2 := h1 i hi
   unfold defF at h2
   split at h2
   ·assumption
   cases h2
  have h2 := h1 i hi
  unfold defF at h2
  split at h2
  ·have h3 := firstN_none h2 j hj
   unfold nodeF at h3
   split at h3
   ·cases h3
   rename_i hn
   refine ⟨hn, ?_⟩
   split at h3
   ·cases h3
   assumption
  cases h2
 rintro ⟨h1, h2⟩
 refine firstN_miss fun i hi => ?_
 unfold defF
 rw [if_pos ((once_iff D).2 h1 i hi)]
 refine firstN_miss fun j hj => ?_
 obtain ⟨h3, h4⟩ := h2 i hi j hj
 unfold nodeF
 rw [if_neg h3, if_neg h4]
section
variable {D : List Df} {p : List Nat} (hp : Pm D.length p)
include hp
end

end Go.Proofs.Ytpbflfgigfdohaa

namespace Go.Proofs.Ytpbflfgigfdohaa
open Go Go.Vc Go.RowKit Go.Proofs
set_option maxHeartbeats 1000000 in
theorem rfind_spec (D : List Df) (dv : Value) (V : Nat → Value) (nm : List UInt8) (w0 : World) (hD : DefR w0 D dv V) (hlen : D.length * 48 ≤ 140737488351232) : Ca Try.prog 87 #[.agg #[dv], st nm] w0 (fun v w' => v = .tuple #[.int .i64 (((whereN D nm).getD 0 : Nat) : Int), .int .i64 (if (whereN D nm).isSome then 0 else 81)] ∧ Ext w0 w') := by
 refine Ca.of Try.func87 Try.ntmps87 rfl rfl (W.seq (W.region (WL.c rfl (o_boxB rfl ?_))))
 intro w2 hC2 hx2 hs2
 obtain ⟨b2, hb2⟩ : ∃ b, b = w0.heap.size := ⟨_, rfl⟩
 rw [← hb2] at hC2 ⊢
 replace hC2 : w2.heap[b2]? = some (.cells ([dv]).toArray 25 (0, 0)) := hC2
 have hx := hx2
 replace hD := hD.ext hx2
 refine WL.c rfl (o_ash vI (WL.c rfl (o_ash vI (WL.nil (W.seq (W.seq (W.region (WL.c rfl (o_ash vI (WL.nil (W.block (W.loop (fun e w => ∃ k : Nat, k ≤ D.length ∧ e 1 = st nm ∧ e 2 = .pointer (some ⟨b2, 0, none⟩) ∧ e 6 = .int .i64 (k : Int) ∧ DefR w D dv V ∧ w.heap[b2]? = some (.cells #[dv] 25 (0, 0)) ∧ (∀ j, j < k → ¬ (D.getD j df0).name = nm) ∧ Ext w0 w) (fun e w => D.length - (intOf (e 6)).toNat) ?_ ?_))))))))))))
 ·exact ⟨0, Nat.zero_le _, rfl, rfl, rfl, hD, hC2, fun j hj => by omega, hx⟩
 rintro e w ⟨k, hk, h1, h2, h6, hD, hC2, hno, hx⟩
 have hm6 := h6
 refine W.seq (W.seq (W.region (WL.c rfl (o_mvh h6 (WL.c rfl (o_fa 0 TI25 rfl TI23 rfl h2 (WL.c rfl (o_ld TI23 rfl rfl (cell_of hC2 rfl) (WL.c rfl (o_lenR TI23 rfl hD.row (WL.c rfl (o_lt rfl rfl (WL.nil (W.cond rfl (fun c11 => ?_) (fun c11 => ?_)))))))))))))))
 ·try simp only [cs8] at c11
  have hk1 : k < D.length := by omega
  obtain ⟨tb, to_, tc, rfl, htc, hty⟩ := hD.atk hk1
  refine W.skip (W.seq (W.block (W.seq (W.region (WL.c rfl (o_fa 0 TI25 rfl TI23 rfl h2 (WL.c rfl (o_ld TI23 rfl rfl (cell_of hC2 rfl) (WL.c rfl (o_mvh h6 (WL.c rfl (o_ixB TI23 TI39 rfl rfl (by omega) (WL.c rfl (o_fa 0 TI39 rfl TI9 rfl rfl (WL.c rfl (o_ld TI9 rfl rfl (htc 0 _ rfl) (WL.c rfl (o_mvh h1 (WL.c rfl (o_eqT rfl rfl (WL.nil (W.cond rfl (fun c21 => ?_) (fun c21 => ?_)))))))))))))))))))))))
  ·try simp only [cs8] at c21
   refine W.seq (W.region (WL.c rfl (o_mvh h6 (WL.c rfl (o_ash vI (WL.c rfl (o_ash vI (WL.nil (W.ret (ret2v rfl vI vI ?_))))))))))
   exact ⟨by rw [where_hit hk1 (by simpa using c21) hno]; rfl, hx⟩
  try simp only [cs8] at c21
  refine W.skip (W.region (WL.c rfl (o_mvh h6 (WL.c rfl (o_addi rfl rfl (by omega) (WL.c rfl (o_ash vI (WL.nil (⟨⟨k + 1, by omega, h1, h2, rfl, hD, hC2, fun j hj => ?_, hx⟩, ?_⟩)))))))))
  ·rcases Nat.lt_or_ge j k with h | h
   ·exact hno j h
   rw [show j = k by omega, getD_at hk1]; simpa using c21
  show D.length - ((k : Int) + 1).toNat < _
  rw [hm6]; simp [intOf]; omega
 try simp only [cs8] at c11
 have hk1 : k = D.length := by omega
 refine W.exit (W.seq (W.region (WL.c rfl (o_ash vI (WL.c rfl (o_ash vI (WL.nil (W.ret (ret2v rfl vI vI ?_)))))))))
 exact ⟨by rw [where_miss (fun j hj => hno j (by omega))]; rfl, hx⟩

/-- at a node: what lies behind it -/
def SBh (t : Tr) : Prop := ∀ (L rest : List Ex) (v : Value) (at_ : Nat) (a : Int) (d : Nat) (w0 : World), t.wf a d → L.drop at_ = t.flat ++ rest → Sl w0 7 v L.length (exs L) → L.length * 72 ≤ 140737488351232 →
 Ca Try.prog 98 #[v, .int .i64 (at_ : Int)] w0 (fun u w' => u = .int .i64 ((at_ + t.flat.length : Nat) : Int) ∧ Ext w0 w')

set_option maxHeartbeats 1000000 in
theorem behind_step (y : Ex) (ks : Trs) (IH : ∀ t : Tr, t.flat.length < (Tr.node y ks).flat.length → SBh t) (L rest : List Ex) (v : Value) (at_ : Nat) (a : Int) (d : Nat) (w0 : World) (hw : (Tr.node y ks).wf a d) (hL : L.drop at_ = (Tr.node y ks).flat ++ rest) (hS : Sl w0 7 v L.length (exs L)) (hLl : L.length * 72 ≤ 140737488351232) : Ca Try.prog 98 #[v, .int .i64 (at_ : Int)] w0 (fun u w' => u = .int .i64 ((at_ + (Tr.node y ks).flat.length : Nat) : Int) ∧ Ext w0 w') := by
 have hx : Ext w0 w0 := Only.refl _ _
 obtain ⟨hat, hya, hL1⟩ := drop_at (show L.drop at_ = y :: (ks.flat ++ rest) from hL)
 obtain ⟨ub, uo, uc, rfl, huc⟩ := Sl.exq hS hat
 clear huc
 have hkk : y.kids = (ks.len : Int) := hw.2.2.2.1.symm
 have hksl : ks.flat.length ≤ L.length := by have h1 := congrArg List.length hL1; simp at h1; omega
 have hlk := trs_len_le ks
 have hfl : (Tr.node y ks).flat.length = ks.flat.length + 1 := rfl
 refine Ca.of Try.func98 Try.ntmps98 rfl rfl (W.seq (W.region (WL.c rfl (o_ash vI (WL.nil (W.seq (W.region (WL.c rfl (o_mvh vI (WL.c rfl (o_addi rfl rfl (by omega) (WL.c rfl (o_ash vI (WL.nil (W.seq (W.seq (W.region (WL.c rfl (o_ash vI (WL.nil (W.block (W.loop (fun e w => ∃ (k next : Nat) (ts : Trs), ks.len = k + ts.len ∧ e 0 = (Value.slice (some ⟨ub, uo, none⟩) L.length uc) ∧ e 1 = .int .i64 (at_ : Int) ∧ e 5 = .int .i64 (next : Int) ∧ e 6 = .int .i64 (k : Int) ∧ Sl w 7 (Value.slice (some ⟨ub, uo, none⟩) L.length uc) L.length (exs L) ∧ ts.wf y.kind (d + 1) ∧ L.drop next = ts.flat ++ rest ∧ next + ts.flat.length = at_ + 1 + ks.flat.length ∧ ts.flat.length ≤ ks.flat.length ∧ Ext w0 w) (fun e w => ks.len - (intOf (e 6)).toNat) ?_ ?_))))))))))))))))))))))
 ·exact ⟨0, at_ + 1, ks, by omega, rfl, rfl, rfl, rfl, hS, hw.2.2.2.2, hL1, rfl, Nat.le_refl _, hx⟩
 rintro e w ⟨k, next, ts, hks, h0, h1, h5, h6, hS, hwt, hLn, hnx, htl, hx⟩
 have hm6 := h6
 have huc := Sl.exw hS hat
 rw [hya] at huc
 have hcK : w.cell? ⟨ub, uo + at_ * 7 + 5, none⟩ = some (.int .i64 (ks.len : Int)) := by rw [← hkk]; exact huc 5 _ rfl
 refine W.seq (W.seq (W.region (WL.c rfl (o_mvh h6 (WL.c rfl (o_mvh h0 (WL.c rfl (o_mvh h1 (WL.c rfl (o_ixB TI37 TI41 rfl rfl (by omega) (WL.c rfl (o_fa 5 TI41 rfl TI3 rfl rfl (WL.c rfl (o_ld TI3 rfl rfl hcK (WL.c rfl (o_lt rfl rfl (WL.nil (W.cond rfl (fun c15 => ?_) (fun c15 => ?_)))))))))))))))))))
 ·try simp only [cs8] at c15
  have hk1 : k < ks.len := by omega
  obtain ⟨t, ts2, rfl⟩ := Trs.split hks hk1
  simp only [Trs.len] at hks
  have hfl2 : (Trs.cons t ts2).flat.length = t.flat.length + ts2.flat.length := by simp [Trs.flat]
  have htp := tr_pos t
  rw [hfl2] at hnx htl
  have hdr : L.drop next = t.flat ++ (ts2.flat ++ rest) := by rw [hLn]; simp [Trs.flat]
  have hdr2 : L.drop (next + t.flat.length) = ts2.flat ++ rest := by rw [← List.drop_drop, hdr, List.drop_left]
  refine W.skip (W.seq (W.block (W.region (WL.c rfl (o_mvh h0 (WL.c rfl (o_mvh h5 (WL.c rfl (o_call Try.call98 (lc rfl (lc rfl ln)) ((IH t (by rw [hfl]; omega) L (ts2.flat ++ rest) (Value.slice (some ⟨ub, uo, none⟩) L.length uc) next _ _ _ hwt.1 hdr hS hLl).mono ?_))))))))))
  rintro v20 w20 ⟨rfl, hx20⟩
  replace hx := hx.tr hx20
  replace hS := hS.ext hx20
  refine WL.c rfl (o_ash vI (WL.nil (W.region (WL.c rfl (o_mvh h6 (WL.c rfl (o_addi rfl rfl (by omega) (WL.c rfl (o_ash vI (WL.nil (⟨⟨k + 1, next + t.flat.length, ts2, by omega, h0, h1, rfl, rfl, hS, hwt.2, hdr2, by omega, by omega, hx⟩, ?_⟩)))))))))))
  show ks.len - ((k : Int) + 1).toNat < _
  rw [hm6]; simp [intOf]; omega
 try simp only [cs8] at c15
 have hk1 : k = ks.len := by omega
 have hnil := Trs.none hks hk1
 subst hnil
 refine W.exit (W.seq (W.region (WL.c rfl (o_mvh h5 (WL.c rfl (o_ash vI (WL.nil (W.ret (ret1v rfl vI ?_)))))))))
 exact ⟨congrArg (Value.int .i64) (by rw [hfl]; simp [Trs.flat] at hnx; omega), hx⟩

theorem behind_all : ∀ (m : Nat) (t : Tr), t.flat.length ≤ m → SBh t
 | 0, .node y ks, h => by simp [Tr.flat] at h
 | m + 1, .node y ks, h => fun L rest v at_ a d w0 h1 h2 h3 h4 => behind_step y ks (fun t ht => behind_all m t (by omega)) L rest v at_ a d w0 h1 h2 h3 h4
/-- a kid: its parent's place, its own, its parent's kind, the heads of the kids ahead, its head -/
structure KE where
 i : Nat
 p : Nat
 kind : Int
 seen : List Ex
 x : Ex
def topK (i : Nat) (kind : Int) : Trs → Nat → List Ex → List KE
 | .nil, _, _ => []
 | .cons t ts, next, seen => ⟨i, next, kind, seen, t.top⟩ :: topK i kind ts (next + t.flat.length) (seen ++ [t.top])
mutual
def kidT : Tr → Nat → List KE
 | .node y ks, a => kidK a y.kind ks (a + 1) []
def kidK (i : Nat) (kind : Int) : Trs → Nat → List Ex → List KE
 | .nil, _, _ => []
 | .cons t ts, next, seen => ⟨i, next, kind, seen, t.top⟩ :: (kidT t next ++ kidK i kind ts (next + t.flat.length) (seen ++ [t.top]))
end
mutual
theorem dup_kid : ∀ (t : Tr) (a p : Nat), p ∈ dupT t a ↔ ∃ e ∈ kidT t a, e.p = p ∧ dupB e.kind e.seen e.x = true
 | .node y ks, a, p => by
  rw [dupT, kidT]
  exact dupK_kid a y.kind ks (a + 1) [] p
theorem dupK_kid (i : Nat) (kind : Int) : ∀ (ts : Trs) (a : Nat) (seen : List Ex) (p : Nat), p ∈ dupK kind ts a seen ↔ ∃ e ∈ kidK i kind ts a seen, e.p = p ∧ dupB e.kind e.seen e.x = true
 | .nil, a, seen, p => by simp [dupK, kidK]
 | .cons t ts, a, seen, p => by
  rw [dupK, kidK, List.mem_append, List.mem_append, dup_kid t a p, dupK_kid i kind ts _ _ p]
  constructor
  ·rintro (h | ⟨e, he, h⟩ | ⟨e, he, h⟩)
   ·split at h
    ·rename_i hd
     rw [List.mem_singleton.1 h]
     exact ⟨_, List.mem_cons_self .., rfl, hd⟩
    cases h
   ·exact ⟨e, List.mem_cons_of_mem _ (List.mem_append_left _ he), h⟩
   exact ⟨e, List.mem_cons_of_mem _ (List.mem_append_right _ he), h⟩
  rintro ⟨e, he, hp, hd⟩
  rcases List.mem_cons.1 he with rfl | he
  ·left
   rw [if_pos hd, ← hp]
   exact List.mem_singleton.2 rfl
  rcases List.mem_append.1 he with he | he
  ·exact .inr (.inl ⟨e, he, hp, hd⟩)
  exact .inr (.inr ⟨e, he, hp, hd⟩)
end
mutual
theorem kid_range : ∀ (t : Tr) (a : Nat), (kidT t a).map (fun e => e.p) = List.range' (a + 1) (t.flat.length - 1)
 | .node y ks, a => by
  rw [kidT, kidK_range a y.kind ks (a + 1) []]
  rfl
theorem kidK_range (i : Nat) (kind : Int) : ∀ (ts : Trs) (a : Nat) (seen : List Ex), (kidK i kind ts a seen).map (fun e => e.p) = List.range' a ts.flat.length
 | .nil, a, seen => rfl
 | .cons t ts, a, seen => by
  rw [kidK, List.map_cons, List.map_append, kid_range t a, kidK_range i kind ts _ _]
  have hp := tr_pos t
  rw [show (Trs.cons t ts).flat.length = 1 + ((t.flat.length - 1) + ts.flat.length) by simp [Trs.flat]; omega]
  rw [← List.range'_append_1, ← List.range'_append_1, show a + 1 + (t.flat.length - 1) = a + t.flat.length by omega]
  rfl
end
theorem kid_uniq {t : Tr} {a : Nat} {e e' : KE} (h : e ∈ kidT t a) (h' : e' ∈ kidT t a) (hp : e.p = e'.p) : e = e' := by
 have hn : ((kidT t a).map (fun e => e.p)).Nodup := by rw [kid_range]; exact List.nodup_range'
 obtain ⟨i, hi, rfl⟩ := List.getElem_of_mem h
 obtain ⟨j, hj, rfl⟩ := List.getElem_of_mem h'
 have h1 : ((kidT t a).map (fun e => e.p))[i]'(by simpa using hi) = ((kidT t a).map (fun e => e.p))[j]'(by simpa using hj) := by simpa using hp
 have h2 := (List.getElem_inj hn).1 h1
 subst h2
 rfl
theorem topK_kid {i : Nat} {kind : Int} : ∀ {ts : Trs} {a : Nat} {seen : List Ex} {e : KE}, e ∈ topK i kind ts a seen → e ∈ kidK i kind ts a seen
 | .nil, _, _, _, h => by cases h
 | .cons t ts, a, seen, e, h => by
  rw [topK] at h
  rw [kidK]
  rcases List.mem_cons.1 h with rfl | h
  ·exact List.mem_cons_self ..
  exact List.mem_cons_of_mem _ (List.mem_append_right _ (topK_kid h))
theorem drop_cat {α : Type} {A B R : List α} {k : Nat} {S : List α} (hk : k < A.length) (h : A.drop k = S ++ R) : (A ++ B).drop k = S ++ (R ++ B) := by
 rw [List.drop_append_of_le_length (by omega), h, List.append_assoc]
mutual
/-- each place is a node's, whose kids are kids of the whole -/
theorem sub_kid : ∀ (t : Tr) (a i : Nat) (aa : Int) (dd : Nat), t.wf aa dd → a ≤ i → i < a + t.flat.length → ∃ y ks r a2 d2, (Tr.node y ks).wf a2 d2 ∧ t.flat.drop (i - a) = (Tr.node y ks).flat ++ r ∧ ∀ e ∈ topK i y.kind ks (i + 1) [], e ∈ kidT t a
 | .node y ks, a, i, aa, dd, hw, h1, h2 => by
  by_cases he : i = a
  ·subst he
   exact ⟨y, ks, [], aa, dd, hw, by rw [Nat.sub_self, List.append_nil]; rfl, fun e he => by rw [kidT]; exact topK_kid he⟩
  have hfl : (Tr.node y ks).flat.length = ks.flat.length + 1 := rfl
  obtain ⟨y2, ks2, r, a2, d2, g1, g2, g3⟩ := subs_kid a y.kind ks (a + 1) [] i _ _ hw.2.2.2.2 (by omega) (by omega)
  refine ⟨y2, ks2, r, a2, d2, g1, ?_, fun e he => by rw [kidT]; exact g3 e he⟩
  rw [show i - a = (i - (a + 1)) + 1 by omega]
  exact g2
theorem subs_kid (i0 : Nat) (kind : Int) : ∀ (ts : Trs) (a : Nat) (seen : List Ex) (i : Nat) (aa : Int) (dd : Nat), ts.wf aa dd → a ≤ i → i < a + ts.flat.length → ∃ y ks r a2 d2, (Tr.node y ks).wf a2 d2 ∧ ts.flat.drop (i - a) = (Tr.node y ks).flat ++ r ∧ ∀ e ∈ topK i y.kind ks (i + 1) [], e ∈ kidK i0 kind ts a seen
 | .nil, a, seen, i, aa, dd, hw, h1, h2 => by
  simp [Trs.flat] at h2; omega
 | .cons t ts, a, seen, i, aa, dd, hw, h1, h2 => by
  rw [show (Trs.cons t ts).flat.length = t.flat.length + ts.flat.length by simp [Trs.flat]] at h2
  by_cases hi : i < a + t.flat.length
  ·obtain ⟨y2, ks2, r, a2, d2, g1, g2, g3⟩ := sub_kid t a i _ _ hw.1 h1 hi
   refine ⟨y2, ks2, r ++ ts.flat, a2, d2, g1, drop_cat (by omega) g2, fun e he => ?_⟩
   rw [kidK]
   exact List.mem_cons_of_mem _ (List.mem_append_left _ (g3 e he))
  obtain ⟨y2, ks2, r, a2, d2, g1, g2, g3⟩ := subs_kid i0 kind ts (a + t.flat.length) (seen ++ [t.top]) i _ _ hw.2 (by omega) (by omega)
  refine ⟨y2, ks2, r, a2, d2, g1, ?_, fun e he => ?_⟩
  ·rw [show (Trs.cons t ts).flat = t.flat ++ ts.flat from rfl, show i - a = t.flat.length + (i - (a + t.flat.length)) by omega, ← List.drop_drop, List.drop_left]
   exact g2
  rw [kidK]
  exact List.mem_cons_of_mem _ (List.mem_append_right _ (g3 e he))
end
mutual
/-- a kid of the whole is a kid of the node at its parent's place -/
theorem kid_sub : ∀ (t : Tr) (a : Nat) (aa : Int) (dd : Nat) (e : KE), t.wf aa dd → e ∈ kidT t a → ∃ y ks r a2 d2, (Tr.node y ks).wf a2 d2 ∧ a ≤ e.i ∧ e.i < a + t.flat.length ∧ t.flat.drop (e.i - a) = (Tr.node y ks).flat ++ r ∧ e ∈ topK e.i y.kind ks (e.i + 1) []
 | .node y ks, a, aa, dd, e, hw, h => by
  have hfl : (Tr.node y ks).flat.length = ks.flat.length + 1 := rfl
  rw [kidT] at h
  rcases kids_sub a y.kind ks (a + 1) [] _ _ e hw.2.2.2.2 h with ⟨h1, h2⟩ | ⟨y2, ks2, r, a2, d2, g1, g2, g3, g4, g5⟩
  ·refine ⟨y, ks, [], aa, dd, hw, by omega, by omega, ?_, ?_⟩
   ·rw [h2, Nat.sub_self, List.append_nil]; rfl
   rw [h2]; exact h1
  refine ⟨y2, ks2, r, a2, d2, g1, by omega, by omega, ?_, g5⟩
  rw [show e.i - a = (e.i - (a + 1)) + 1 by omega]
  exact g4
theorem kids_sub (i0 : Nat) (kind : Int) : ∀ (ts : Trs) (a : Nat) (seen : List Ex) (aa : Int) (dd : Nat) (e : KE), ts.wf aa dd → e ∈ kidK i0 kind ts a seen → (e ∈ topK i0 kind ts a seen ∧ e.i = i0) ∨ ∃ y ks r a2 d2, (Tr.node y ks).wf a2 d2 ∧ a ≤ e.i ∧ e.i < a + ts.flat.length ∧ ts.flat.drop (e.i - a) = (Tr.node y ks).flat ++ r ∧ e ∈ topK e.i y.kind ks (e.i + 1) []
 | .nil, a, seen, aa, dd, e, hw, h => by cases h
 | .cons t ts, a, seen, aa, dd, e, hw, h => by
  have hfl : (Trs.cons t ts).flat.length = t.flat.length + ts.flat.length := by simp [Trs.flat]
  rw [kidK] at h
  rcases List.mem_cons.1 h with rfl | h
  ·exact .inl ⟨by rw [topK]; exact List.mem_cons_self .., rfl⟩
  rcases List.mem_append.1 h with h | h
  ·obtain ⟨y2, ks2, r, a2, d2, g1, g2, g3, g4, g5⟩ := kid_sub t a _ _ e hw.1 h
   exact .inr ⟨y2, ks2, r ++ ts.flat, a2, d2, g1, g2, by omega, drop_cat (by omega) g4, g5⟩
  rcases kids_sub i0 kind ts (a + t.flat.length) (seen ++ [t.top]) _ _ e hw.2 h with ⟨h1, h2⟩ | ⟨y2, ks2, r, a2, d2, g1, g2, g3, g4, g5⟩
  ·exact .inl ⟨by rw [topK]; exact List.mem_cons_of_mem _ h1, h2⟩
  refine .inr ⟨y2, ks2, r, a2, d2, g1, by omega, by omega, ?_, g5⟩
  rw [show (Trs.cons t ts).flat = t.flat ++ ts.flat from rfl, show e.i - a = t.flat.length + (e.i - (a + t.flat.length)) by omega, ← List.drop_drop, List.drop_left]
  exact g4
end
theorem topK_kind {i : Nat} {kind : Int} : ∀ {ts : Trs} {a : Nat} {seen : List Ex} {e : KE}, e ∈ topK i kind ts a seen → e.kind = kind ∧ e.i = i ∧ a ≤ e.p ∧ e.p < a + ts.flat.length ∧ (e.p = a ∨ ∃ t t2, ts = .cons t t2 ∧ e ∈ topK i kind t2 (a + t.flat.length) (seen ++ [t.top])) ∧ ∀ x ∈ seen, x ∈ e.seen
 | .nil, _, _, _, h => by cases h
 | .cons t ts, a, seen, e, h => by
  have hfl : (Trs.cons t ts).flat.length = t.flat.length + ts.flat.length := by simp [Trs.flat]
  have hp := tr_pos t
  rw [topK] at h
  rcases List.mem_cons.1 h with rfl | h
  ·exact ⟨rfl, rfl, Nat.le_refl _, by show a < _; omega, .inl rfl, fun x hx => hx⟩
  obtain ⟨h1, h2, h3, h4, -, h6⟩ := topK_kind h
  exact ⟨h1, h2, by omega, by omega, .inr ⟨t, ts, rfl, h⟩, fun x hx => h6 x (List.mem_append_left _ hx)⟩
theorem topK_at {i : Nat} {kind : Int} {L rest : List Ex} : ∀ {ts : Trs} {a : Nat} {seen : List Ex} {e : KE}, L.drop a = ts.flat ++ rest → e ∈ topK i kind ts a seen → L[e.p]? = some e.x
 | .nil, _, _, _, _, h => by cases h
 | .cons t ts, a, seen, e, hL, h => by
  have hdr : L.drop a = t.flat ++ (ts.flat ++ rest) := by rw [hL]; simp [Trs.flat]
  rw [topK] at h
  rcases List.mem_cons.1 h with rfl | h
  ·obtain ⟨r, hr⟩ := top_flat t
   obtain ⟨hi, hx, -⟩ := drop_at (show L.drop a = t.top :: (r ++ (ts.flat ++ rest)) by rw [hdr, hr]; rfl)
   show L[a]? = some t.top
   rw [List.getElem?_eq_getElem hi, hx]
  exact topK_at (by rw [← List.drop_drop, hdr, List.drop_left]) h

end Go.Proofs.Ytpbflfgigfdohaa

namespace Go.Proofs.Ytpbflfgigfdohaa
open Go Go.Vc Go.RowKit Go.Proofs

theorem dup_nil {D : List Df} (hG : Good D) {i : Nat} (hi : i < D.length) : dupT (TD D i) 0 = [] := by
 have h1 := resF_iff.1 (by rw [← resA_ok hG.ck]; exact hG.res : resF D (TD D) = none)
 refine List.eq_nil_iff_forall_not_mem.2 fun p hp => ?_
 obtain ⟨e, he, hep, -⟩ := (dup_kid (TD D i) 0 p).1 hp
 have h3 : e.p ∈ (kidT (TD D i) 0).map (fun e => e.p) := List.mem_map.2 ⟨e, he, rfl⟩
 rw [kid_range, List.mem_range'_1] at h3
 have hfl := hG.trd.fl i hi
 rw [hfl] at h3
 exact (h1.2 i hi p (by omega)).1 hp
theorem bnd_none {D : List Df} (h : bndF D = none) {i : Nat} (hi : i < D.length) : ∀ x ∈ tyD D i, outB x = false := by
 intro x hx
 have h1 := firstN_none (firstN_none h i hi)
 obtain ⟨j, hj, rfl⟩ := List.getElem_of_mem hx
 have h2 := h1 j hj
 unfold bndN at h2
 rw [List.getD_eq_getElem?_getD, List.getElem?_eq_getElem hj] at h2
 simp only [Option.getD_some] at h2
 cases ho : outB (tyD D i)[j] with
 | false => rfl
 | true => rw [ho] at h2; simp at h2
noncomputable def mkS (D : List Df) (k : Nat) : (Nat → Int) × List Tp := mkO (whD D) (TD D) ((ordN D).take k) (fun _ => 0) []
theorem mkS_succ {D : List Df} {k : Nat} (hk : k < (ordN D).length) : mkS D (k + 1) = (upI (mkS D k).1 (ordN D)[k] (mkT (fun nm => (mkS D k).1 (whD D nm)) (TD D (ordN D)[k]) (mkS D k).2).1, (mkT (fun nm => (mkS D k).1 (whD D nm)) (TD D (ordN D)[k]) (mkS D k).2).2) := mkO_take hk
/-- what has been built of the first k -/
structure MkOk (D : List Df) (k : Nat) : Prop where
 ok : LOk (mkS D k).2
 rt : ∀ i ∈ (ordN D).take k, 0 ≤ (mkS D k).1 i ∧ (mkS D k).1 i < ((mkS D k).2.length : Int) ∧ dpI (mkS D k).2 ((mkS D k).1 i).toNat = depN D (TD D) i
 ln : (mkS D k).2.length = (((ordN D).take k).map fun i => cntN (tyD D i)).sum
 us : ∀ j, j < (mkS D k).2.length → (∃ i ∈ (ordN D).take k, (mkS D k).1 i = (j : Int)) ∨ Usd (mkS D k).2 j
theorem mk_ok {D : List Df} (hG : Good D) (hb : bndF D = none) : ∀ k, k ≤ (ordN D).length → MkOk D k
 | 0, _ => ⟨LOk.nil, fun i hi => by simp at hi, rfl, fun j hj => by simp [mkS, mkO] at hj⟩
 | k + 1, hk => by
  have IH := mk_ok hG hb k (by omega)
  obtain ⟨hto, htl⟩ := hG.ord
  have hk1 : k < (ordN D).length := by omega
  obtain ⟨i, hie⟩ : ∃ i, i = (ordN D)[k] := ⟨_, rfl⟩
  have hi : i < D.length := by rw [hie]; exact hto.lt _ (List.getElem_mem hk1)
  have hwf := hG.trd.wf i hi
  have hfl := hG.trd.fl i hi
  have hfix := dep_fix hG.trd hto htl i hi
  have hnm : Nmd (whD D) (depN D (TD D)) (fun nm => (mkS D k).1 (whD D nm)) (mkS D k).2 (TD D i).flat := fun x hx h9 => by
   rw [hfl, tyD_at hi] at hx
   have h1 := uses_mem hi hx h9
   rw [hie] at h1
   exact IH.rt _ (hto.bh k hk1 _ h1)
  obtain ⟨g1, g2, g3, g4⟩ := mkT_ok (TD D i) (mkS D k).2 0 0 0 hwf (dup_nil hG hi) (fun x hx => bnd_none hb hi x (by rw [hfl] at hx; exact hx)) hnm IH.ok (by rw [← hfix]; exact hG.deep i hi)
  obtain ⟨M, hM, hMl⟩ := mkT_pre (fun nm => (mkS D k).1 (whD D nm)) (TD D i) (mkS D k).2 (wf_leafy _ _ _ hwf)
  have hus := mkT_used (fun nm => (mkS D k).1 (whD D nm)) (TD D i) (mkS D k).2 0 0 hwf
  have hS := mkS_succ hk1
  rw [← hie] at hS
  have htk : (ordN D).take (k + 1) = (ordN D).take k ++ [i] := by rw [List.take_succ_eq_append_getElem hk1, hie]
  have hni : i ∉ (ordN D).take k := fun h => by
   have h1 : ((ordN D).take (k + 1)).Nodup := hto.nd.sublist (List.take_sublist _ _)
   rw [htk, List.nodup_append] at h1
   exact h1.2.2 i h i (by simp) rfl
  obtain ⟨r, hr⟩ : ∃ r, r = mkT (fun nm => (mkS D k).1 (whD D nm)) (TD D i) (mkS D k).2 := ⟨_, rfl⟩
  rw [← hr] at g1 g2 g3 g4 hM hS hus
  refine ⟨by rw [hS]; exact g1, ?_, ?_, ?_⟩
  ·rw [hS, htk]
   intro i' hi'
   show 0 ≤ upI (mkS D k).1 i r.1 i' ∧ upI (mkS D k).1 i r.1 i' < (r.2.length : Int) ∧ dpI r.2 (upI (mkS D k).1 i r.1 i').toNat = _
   rcases List.mem_append.1 hi' with h | h
   ·have hne : i' ≠ i := fun e => hni (e ▸ h)
    have hu : upI (mkS D k).1 i r.1 i' = (mkS D k).1 i' := if_neg hne
    obtain ⟨q1, q2, q3⟩ := IH.rt i' h
    rw [hu]
    exact ⟨q1, by rw [hM, List.length_append]; omega, by rw [hM, dpI_app (by omega)]; exact q3⟩
   have he : i' = i := by simpa using h
   subst he
   have hu : upI (mkS D k).1 i' r.1 i' = r.1 := if_pos rfl
   rw [hu]
   exact ⟨g2, g3, by rw [g4]; exact hfix.symm⟩
  ·rw [hS, htk, List.map_append, List.sum_append, ← IH.ln]
   show r.2.length = _
   rw [hM, List.length_append, hMl, hfl]
   simp
  rw [hS, htk]
  intro j hj
  show (∃ i' ∈ _, upI (mkS D k).1 i r.1 i' = (j : Int)) ∨ Usd r.2 j
  rcases Nat.lt_or_ge j (mkS D k).2.length with h | h
  ·rcases IH.us j h with ⟨i', h1, h2⟩ | h1
   ·refine .inl ⟨i', List.mem_append_left _ h1, ?_⟩
    have hne : i' ≠ i := fun e => hni (e ▸ h1)
    have hu : upI (mkS D k).1 i r.1 i' = (mkS D k).1 i' := if_neg hne
    exact hu.trans h2
   right; rw [hM]; exact h1.app
  rcases hus j h hj with h1 | h1
  ·exact .inl ⟨i, by simp, by rw [show upI (mkS D k).1 i r.1 i = r.1 from if_pos rfl]; exact h1.symm⟩
  exact .inr h1
theorem mkS_all (D : List Df) : mkS D (ordN D).length = mkO (whD D) (TD D) (ordN D) (fun _ => 0) [] := by rw [mkS, List.take_length]
theorem rooN_at {D : List Df} {f : Nat → Int} {i : Nat} (hi : i < D.length) : (rooN D f).getD i ro0 = ⟨(D.getD i df0).name, f i⟩ := by
 unfold rooN
 rw [List.getD_eq_getElem?_getD, List.getElem?_map, List.getElem?_range hi]
 rfl
theorem rooN_len (D : List Df) (f : Nat → Int) : (rooN D f).length = D.length := by unfold rooN; rw [List.length_map, List.length_range]
end Go.Proofs.Ytpbflfgigfdohaa

namespace Go.Proofs.Ytpbflfgigfdohaa
open Go Go.Vc Go.RowKit Go.Proofs

theorem sum_all (f : Nat → Nat) : ∀ (n : Nat) (l : List Nat), l.Nodup → (∀ i ∈ l, i < n) → l.length = n → (l.map f).sum = ((List.range n).map f).sum
 | 0, l, _, _, hl => by
  have : l = [] := List.eq_nil_of_length_eq_zero hl
  subst this; rfl
 | n + 1, l, hnd, hlt, hl => by
  have hm : n ∈ l := by
   refine Classical.byContradiction fun hn => ?_
   have := nodup_len n l hnd (fun x hx => by have := hlt x hx; have hne : x ≠ n := fun e => hn (e ▸ hx); omega)
   omega
  obtain ⟨a, b, rfl⟩ := List.append_of_mem hm
  rw [List.nodup_append, List.nodup_cons] at hnd
  obtain ⟨h1, ⟨h2, h3⟩, h4⟩ := hnd
  have hab : (a ++ b).Nodup := List.nodup_append.2 ⟨h1, h3, fun x hx y hy => h4 x hx y (List.mem_cons_of_mem _ hy)⟩
  have IH := sum_all f n (a ++ b) hab (fun x hx => by
   have h5 := hlt x (by rcases List.mem_append.1 hx with h | h; exact List.mem_append_left _ h; exact List.mem_append_right _ (List.mem_cons_of_mem _ h))
   have hne : x ≠ n := fun e => by
    subst e
    rcases List.mem_append.1 hx with h | h
    ·exact h4 x h x (List.mem_cons_self ..) rfl
    exact h2 h
   omega) (by simp at hl ⊢; omega)
  have hr : ((List.range (n + 1)).map f).sum = ((List.range n).map f).sum + f n := by rw [List.range_succ, List.map_append, List.sum_append]; simp
  rw [hr, ← IH]
  simp
  omega
theorem bld_len {D : List Df} (hG : Good D) (hb : bndF D = none) : (schT D).length = ((List.range D.length).map fun i => cntN (tyD D i)).sum := by
 have hM := mk_ok hG hb _ (Nat.le_refl _)
 obtain ⟨hto, htl⟩ := hG.ord
 have hT : schT D = (mkS D (ordN D).length).2 := by rw [mkS_all]; rfl
 rw [hT, hM.ln, List.take_length]
 exact sum_all _ D.length _ hto.nd hto.lt htl
theorem bld_ok {D : List Df} (hG : Good D) (hb : bndF D = none) : LOk (schT D) := by
 have hT : schT D = (mkS D (ordN D).length).2 := by rw [mkS_all]; rfl
 rw [hT]
 exact (mk_ok hG hb _ (Nat.le_refl _)).ok
theorem schR_len (D : List Df) : (schR D).length = D.length := rooN_len D _
theorem schR_at {D : List Df} (hG : Good D) (hb : bndF D = none) {i : Nat} (hi : i < D.length) : ((schR D).getD i ro0).name = (D.getD i df0).name ∧ 0 ≤ ((schR D).getD i ro0).ty ∧ ((schR D).getD i ro0).ty < ((schT D).length : Int) := by
 have hM := mk_ok hG hb _ (Nat.le_refl _)
 obtain ⟨hto, htl⟩ := hG.ord
 have hT : schT D = (mkS D (ordN D).length).2 := by rw [mkS_all]; rfl
 have hR : schR D = rooN D (mkS D (ordN D).length).1 := by rw [mkS_all]; rfl
 have hin : i ∈ (ordN D).take (ordN D).length := by rw [List.take_length]; exact hto.all htl i hi
 obtain ⟨g1, g2, -⟩ := hM.rt i hin
 rw [hR, hT, rooN_at hi]
 exact ⟨rfl, g1, g2⟩
end Go.Proofs.Ytpbflfgigfdohaa

namespace Go.Proofs.Ytpbflfgigfdohaa
open Go Go.Vc Go.RowKit Go.Proofs

def inE (A B : List (List UInt8)) (x : Ex) : Prop := (x.name = [] ∨ x.name ∈ A) ∧ (x.label = [] ∨ x.label ∈ B)
def inD (A B : List (List UInt8)) (d : Df) : Prop := d.name ∈ A ∧ ∀ x ∈ d.ty, inE A B x
section
variable {D : List Df} {A B : List (List UInt8)} (hck : (chkS D).2.2 = 0) (hin : ∀ d ∈ D, inD A B d)
include hck hin
end

end Go.Proofs.Ytpbflfgigfdohaa

namespace Go.Proofs.Ytpbflfgigfdohaa
open Go Go.Vc Go.RowKit Go.Proofs
/-- two sources alike but for places -/
def Like0 (D D' : List Df) : Prop := D.map bareD = D'.map bareD
section
variable {D D' : List Df} (h : Like0 D D')
include h
end
theorem bldF_none {D : List Df} : bldF D = none ↔ (chkS D).2.2 = 0 ∧ fA D = none ∧ bndF D = none := by
 unfold bldF
 by_cases hc : (chkS D).2.2 = 0
 ·rw [if_pos hc]
  cases h : fA D with
  | none => simp [hc]
  | some v => simp
 rw [if_neg hc]; simp [hc]
end Go.Proofs.Ytpbflfgigfdohaa

namespace Go.Proofs.Ytpbflfgigfdohaa
open Go Go.Vc Go.RowKit Go.Proofs

theorem kcases (k : Int) : k = 8 ∨ k = 7 ∨ (¬ k = 8 ∧ ¬ k = 7) := by omega
theorem dupB_snoc (k : Int) (seen : List Ex) (t x : Ex) : dupB k (seen ++ [t]) x = (dupB k seen x || dupB k [t] x) := by
 unfold dupB
 split
 ·rw [List.any_append]
 split
 ·rw [List.any_append]
 rfl
theorem dupB_mem {k : Int} {seen : List Ex} {t x : Ex} (hm : t ∈ seen) (h : dupB k [t] x = true) : dupB k seen x = true := by
 unfold dupB at h ⊢
 split
 ·rename_i h8
  rw [if_pos h8] at h
  simp only [List.any_cons, List.any_nil, Bool.or_false, decide_eq_true_eq] at h
  exact List.any_eq_true.2 ⟨t, hm, by simpa using h⟩
 rename_i h8
 rw [if_neg h8] at h
 split
 ·rename_i h7
  rw [if_pos h7] at h
  simp only [List.any_cons, List.any_nil, Bool.or_false, decide_eq_true_eq] at h
  exact List.any_eq_true.2 ⟨t, hm, by simpa using h⟩
 rename_i h7
 rw [if_neg h7] at h; cases h
theorem topK_head {i : Nat} {kind : Int} {ts : Trs} {a : Nat} {seen : List Ex} {q : KE} (h : q ∈ topK i kind ts a seen) (hp : q.p = a) : q.seen = seen := by
 cases ts with
 | nil => cases h
 | cons t ts =>
  rw [topK] at h
  rcases List.mem_cons.1 h with rfl | h
  ·rfl
  have := (topK_kind h).2.2.1
  have := tr_pos t
  omega
def pz (n : Nat) (f : Nat → Int) : List Value := (List.range n).map (fun j => zv (f j))
theorem pz_at {n k : Nat} {f : Nat → Int} (hk : k < n) : (pz n f)[k]? = some (zv (f k)) := by
 unfold pz
 rw [List.getElem?_map, List.getElem?_range hk]
 rfl
def updI (f : Nat → Int) (i : Nat) (v : Int) : Nat → Int := fun j => if j = i then v else f j
theorem pz_set {n i : Nat} {v : Int} {f : Nat → Int} : (pz n f).set i (zv v) = pz n (updI f i v) := by
 apply List.ext_getElem?
 intro j
 rw [List.getElem?_set]
 by_cases hj : j < n
 ·rw [pz_at hj, pz_at hj]
  unfold updI
  by_cases e : i = j
  ·subst e
   rw [if_pos rfl, if_pos (by simpa [pz] using hj), if_pos rfl]
  rw [if_neg e, if_neg (fun h => e h.symm)]
 have h1 : ∀ o, (pz n o)[j]? = none := fun o => List.getElem?_eq_none (by simp [pz]; omega)
 rw [h1, h1]
 split
 ·rw [if_neg (by simp [pz]; omega)]
 rfl
theorem pz_zero (n : Nat) : pz n (fun _ => 0) = List.replicate n (.int .i64 0) := by
 unfold pz
 rw [List.eq_replicate_iff]
 refine ⟨by simp, fun b hb => ?_⟩
 obtain ⟨j, -, rfl⟩ := List.mem_map.1 hb
 rfl
def k78 (e : KE) : Prop := e.kind = 8 ∨ e.kind = 7
/-- what parents has told so far is a parent's place -/
def Snd (t : Tr) (n : Nat) (f : Nat → Int) : Prop := ∀ j, j < n → f j = -1 ∨ ∃ e ∈ kidT t 0, e.p = j ∧ k78 e ∧ f j = (e.i : Int)
/-- the kids of the places below i are told -/
def Cmp (t : Tr) (i : Nat) (f : Nat → Int) : Prop := ∀ e ∈ kidT t 0, k78 e → e.i < i → f e.p = (e.i : Int)
theorem Snd.set {t : Tr} {n : Nat} {f : Nat → Int} (h : Snd t n f) {e : KE} (he : e ∈ kidT t 0) (hk : k78 e) : Snd t n (updI f e.p (e.i : Int)) := by
 intro j hj
 unfold updI
 by_cases hp : j = e.p
 ·rw [if_pos hp]; exact .inr ⟨e, he, hp.symm, hk, rfl⟩
 rw [if_neg hp]; exact h j hj
theorem Cmp.set {t : Tr} {i : Nat} {f : Nat → Int} (h : Cmp t i f) {e : KE} (he : e ∈ kidT t 0) : Cmp t i (updI f e.p (e.i : Int)) := by
 intro q hq hk hi
 unfold updI
 by_cases hp : q.p = e.p
 ·rw [if_pos hp, kid_uniq hq he hp]
 rw [if_neg hp]; exact h q hq hk hi
def k8 (k : Int) : Prop := k = 8 ∨ k = 7
theorem Cmp.next {t : Tr} {i : Nat} {f : Nat → Int} (h : Cmp t i f) {y : Ex} {ks : Trs} {r : List Ex} {a2 aa : Int} {d2 dd : Nat} (hw0 : t.wf aa dd) (hw : (Tr.node y ks).wf a2 d2) (hd : t.flat.drop i = (Tr.node y ks).flat ++ r) (hall : k8 y.kind → ∀ e ∈ topK i y.kind ks (i + 1) [], f e.p = (i : Int)) : Cmp t (i + 1) f := by
 intro e he hk hi
 by_cases hlt : e.i < i
 ·exact h e he hk hlt
 have hei : e.i = i := by omega
 obtain ⟨y2, ks2, r2, a3, d3, g1, -, -, g4, g5⟩ := kid_sub t 0 _ _ e hw0 he
 rw [Nat.sub_zero, hei] at g4
 rw [hei] at g5
 have hu := tr_uniq _ _ _ _ _ _ _ _ g1 hw (g4.symm.trans hd)
 have he1 := hu.1
 simp only [Tr.node.injEq] at he1
 obtain ⟨rfl, rfl⟩ := he1
 rw [hei]
 refine hall ?_ e g5
 have := (topK_kind g5).1
 unfold k8
 rw [← this]; exact hk

set_option maxHeartbeats 2000000 in
theorem rtwice_spec (y : Ex) (ks : Trs) (L rest : List Ex) (v : Value) (i : Nat) (a : Int) (d : Nat) (q : KE) (w0 : World) (hw : (Tr.node y ks).wf a d) (hL : L.drop i = (Tr.node y ks).flat ++ rest) (hS : Sl w0 7 v L.length (exs L)) (hLl : L.length * 72 ≤ 140737488351232) (hq : q ∈ topK i y.kind ks (i + 1) []) : Ca Try.prog 89 #[v, .int .i64 (i : Int), .int .i64 (q.p : Int)] w0 (fun u w' => u = .bool (dupB q.kind q.seen q.x) ∧ Ext w0 w') := by
 have hx : Ext w0 w0 := Only.refl _ _
 obtain ⟨hat, hya, hL1⟩ := drop_at (show L.drop i = y :: (ks.flat ++ rest) from hL)
 obtain ⟨ub, uo, uc, rfl, huc⟩ := Sl.exq hS hat
 clear huc
 have hqk := (topK_kind hq).1
 have hqp := topK_at hL1 hq
 obtain ⟨hqL, hqx⟩ := List.getElem?_eq_some_iff.1 hqp
 have h0d : dupB y.kind [] q.x = false := by
  unfold dupB
  split
  ·rfl
  split <;> rfl
 refine Ca.of Try.func89 Try.ntmps89 rfl rfl (W.seq (W.region (WL.c rfl (o_ash vB (WL.nil (W.seq (W.region (WL.c rfl (o_mvh vI (WL.c rfl (o_addi rfl rfl (by omega) (WL.c rfl (o_ash vI (WL.nil (W.seq (W.block (W.loop (fun e w => ∃ (next : Nat) (ts : Trs) (seen : List Ex) (aa : Int) (dd : Nat), e 0 = (Value.slice (some ⟨ub, uo, none⟩) L.length uc) ∧ e 1 = .int .i64 (i : Int) ∧ e 2 = .int .i64 (q.p : Int) ∧ e 7 = .int .i64 (next : Int) ∧ Sl w 7 (Value.slice (some ⟨ub, uo, none⟩) L.length uc) L.length (exs L) ∧ ts.wf aa dd ∧ L.drop next = ts.flat ++ rest ∧ q ∈ topK i y.kind ts next seen ∧ dupB y.kind seen q.x = false ∧ Ext w0 w) (fun e w => q.p - (intOf (e 7)).toNat) ?_ ?_)))))))))))))))))
 ·exact ⟨i + 1, ks, [], _, _, rfl, rfl, rfl, rfl, hS, hw.2.2.2.2, hL1, hq, h0d, hx⟩
 rintro e w ⟨next, ts, seen, aa, dd, h0, h1, h2, h7, hS, hwt, hLn, hq, hds, hx⟩
 have hm7 := h7
 refine W.seq (W.seq (W.region (WL.c rfl (o_mvh h7 (WL.c rfl (o_mvh h2 (WL.c rfl (o_lt rfl rfl (WL.nil (W.cond rfl (fun c12 => ?_) (fun c12 => ?_)))))))))))
 ·try simp only [cs8] at c12
  have hlt : next < q.p := by omega
  obtain ⟨t, ts2, rfl, hq2⟩ : ∃ t t2, ts = .cons t t2 ∧ q ∈ topK i y.kind t2 (next + t.flat.length) (seen ++ [t.top]) := by
   rcases (topK_kind hq).2.2.2.2.1 with h | ⟨t, t2, h1, h2⟩
   ·omega
   exact ⟨t, t2, h1, h2⟩
  have htp := tr_pos t
  have hdr : L.drop next = t.flat ++ (ts2.flat ++ rest) := by rw [hLn]; simp [Trs.flat]
  have hdr2 : L.drop (next + t.flat.length) = ts2.flat ++ rest := by rw [← List.drop_drop, hdr, List.drop_left]
  obtain ⟨r, hr⟩ := top_flat t
  obtain ⟨hnl1, hxe, -⟩ := drop_at (show L.drop next = t.top :: (r ++ (ts2.flat ++ rest)) by rw [hdr, hr]; rfl)
  have hcy := Sl.exw hS hat
  rw [hya] at hcy
  have hct := Sl.exw hS hnl1
  rw [hxe] at hct
  have hcq := Sl.exw hS hqL
  rw [hqx] at hcq
  have hq2p := (topK_kind hq2).2.2.1
  have hmem : t.top ∈ q.seen := (topK_kind hq2).2.2.2.2.2 _ (by simp)
  refine W.skip (W.block (W.seq (W.seq ?_)))
  rcases kcases y.kind with hk | hk | ⟨hk8, hk7⟩
  rcases Classical.em (t.top.label = q.x.label) with hl | hl
  rotate_left 2
  rcases Classical.em (t.top.tag = q.x.tag) with hl | hl
  rotate_left 3
  ·skip
   have hlike : dupB y.kind [t.top] q.x = true := by unfold dupB; rw [if_pos hk]; simp [hl]
   refine W.quiet rfl (by kernel_rfl) (WQ.c rfl ((QO.o rfl fun _ => o_mvh h0 ⟨rfl, rfl⟩)) (WQ.c rfl ((QO.o rfl fun _ => o_mvh h1 ⟨rfl, rfl⟩)) (WQ.c rfl ((QO.o rfl fun _ => o_ixB (i := i) TI37 TI41 (show _ = Value.slice (some ⟨ub, uo, none⟩) L.length uc from rfl) (show _ = Value.int .i64 (i : Int) from rfl) (by omega) ⟨rfl, rfl⟩)) (WQ.c rfl ((QO.o rfl fun _ => o_fa 0 TI41 rfl TI3 rfl rfl ⟨rfl, rfl⟩)) (WQ.c rfl ((QO.o rfl fun _ => o_ld TI3 rfl rfl (hcy 0 _ rfl) ⟨rfl, rfl⟩)) (WQ.c rfl ((QO.o rfl fun _ => o_eq rfl rfl ⟨rfl, rfl⟩)) (WQ.c rfl ((QO.o rfl fun _ => o_mvh vB ⟨rfl, rfl⟩)) (WQ.g rfl (by simp [hk]) rfl ((QO.o rfl fun _ => o_mvh h0 ⟨rfl, rfl⟩)) (WQ.g rfl (by simp [hk]) rfl ((QO.o rfl fun _ => o_mvh h7 ⟨rfl, rfl⟩)) (WQ.g rfl (by simp [hk]) rfl ((QO.o rfl fun _ => o_ixB (i := next) TI37 TI41 (show _ = Value.slice (some ⟨ub, uo, none⟩) L.length uc from rfl) (show _ = Value.int .i64 (next : Int) from rfl) (by omega) ⟨rfl, rfl⟩)) (WQ.g rfl (by simp [hk]) rfl ((QO.o rfl fun _ => o_fa 3 TI41 rfl TI9 rfl rfl ⟨rfl, rfl⟩)) (WQ.g rfl (by simp [hk]) rfl ((QO.o rfl fun _ => o_ld TI9 rfl rfl (hct 3 _ rfl) ⟨rfl, rfl⟩)) (WQ.g rfl (by simp [hk]) rfl ((QO.o rfl fun _ => o_mvh h0 ⟨rfl, rfl⟩)) (WQ.g rfl (by simp [hk]) rfl ((QO.o rfl fun _ => o_mvh h2 ⟨rfl, rfl⟩)) (WQ.g rfl (by simp [hk]) rfl ((QO.o rfl fun _ => o_ixB (i := q.p) TI37 TI41 (show _ = Value.slice (some ⟨ub, uo, none⟩) L.length uc from rfl) (show _ = Value.int .i64 (q.p : Int) from rfl) (by omega) ⟨rfl, rfl⟩)) (WQ.g rfl (by simp [hk]) rfl ((QO.o rfl fun _ => o_fa 3 TI41 rfl TI9 rfl rfl ⟨rfl, rfl⟩)) (WQ.g rfl (by simp [hk]) rfl ((QO.o rfl fun _ => o_ld TI9 rfl rfl (hcq 3 _ rfl) ⟨rfl, rfl⟩)) (WQ.g rfl (by simp [hk]) rfl ((QO.o rfl fun _ => o_eqT rfl rfl ⟨rfl, rfl⟩)) (WQ.c rfl ((QO.r fun _ => r_pickA rfl rfl)) (WQ.c rfl ((QO.o rfl fun _ => o_mvh vB ⟨rfl, rfl⟩)) (WQ.s rfl (by simp [hk, hl]) rfl (WQ.s rfl (by simp [hk, hl]) rfl (WQ.s rfl (by simp [hk, hl]) rfl (WQ.s rfl (by simp [hk, hl]) rfl (WQ.s rfl (by simp [hk, hl]) rfl (WQ.s rfl (by simp [hk, hl]) rfl (WQ.s rfl (by simp [hk, hl]) rfl (WQ.z rfl rfl (WQ.z rfl rfl (WQ.z rfl rfl (WQ.z rfl rfl (WQ.z rfl rfl (WQ.z rfl rfl (WQ.z rfl rfl (WQ.z rfl rfl (WQ.z rfl rfl (WQ.z rfl rfl (WQ.z rfl rfl (WQ.s rfl (by simp [hk, hl]) rfl ?_)))))))))))))))))))))))))))))))))))))))
   refine WQ.c rfl ((QO.r fun _ => r_pickT rfl (by simp [hk, hl]))) (WQ.nil ?_)
   intro nq
   replace hx := hx.tr (Only.drewN w nq)
   replace hS := hS.ext (Only.drewN w nq)
   refine W.condT' rfl (rfl) (W.seq (W.region (WL.c rfl (o_ash vB (WL.nil (W.ret (ret1v rfl vB ?_)))))))
   exact ⟨congrArg Value.bool (by rw [hqk]; exact (dupB_mem hmem hlike).symm), hx⟩
  ·skip
   have hlike : dupB y.kind [t.top] q.x = false := by unfold dupB; rw [if_pos hk]; simp [hl]
   refine W.quiet rfl (by kernel_rfl) (WQ.c rfl ((QO.o rfl fun _ => o_mvh h0 ⟨rfl, rfl⟩)) (WQ.c rfl ((QO.o rfl fun _ => o_mvh h1 ⟨rfl, rfl⟩)) (WQ.c rfl ((QO.o rfl fun _ => o_ixB (i := i) TI37 TI41 (show _ = Value.slice (some ⟨ub, uo, none⟩) L.length uc from rfl) (show _ = Value.int .i64 (i : Int) from rfl) (by omega) ⟨rfl, rfl⟩)) (WQ.c rfl ((QO.o rfl fun _ => o_fa 0 TI41 rfl TI3 rfl rfl ⟨rfl, rfl⟩)) (WQ.c rfl ((QO.o rfl fun _ => o_ld TI3 rfl rfl (hcy 0 _ rfl) ⟨rfl, rfl⟩)) (WQ.c rfl ((QO.o rfl fun _ => o_eq rfl rfl ⟨rfl, rfl⟩)) (WQ.c rfl ((QO.o rfl fun _ => o_mvh vB ⟨rfl, rfl⟩)) (WQ.g rfl (by simp [hk]) rfl ((QO.o rfl fun _ => o_mvh h0 ⟨rfl, rfl⟩)) (WQ.g rfl (by simp [hk]) rfl ((QO.o rfl fun _ => o_mvh h7 ⟨rfl, rfl⟩)) (WQ.g rfl (by simp [hk]) rfl ((QO.o rfl fun _ => o_ixB (i := next) TI37 TI41 (show _ = Value.slice (some ⟨ub, uo, none⟩) L.length uc from rfl) (show _ = Value.int .i64 (next : Int) from rfl) (by omega) ⟨rfl, rfl⟩)) (WQ.g rfl (by simp [hk]) rfl ((QO.o rfl fun _ => o_fa 3 TI41 rfl TI9 rfl rfl ⟨rfl, rfl⟩)) (WQ.g rfl (by simp [hk]) rfl ((QO.o rfl fun _ => o_ld TI9 rfl rfl (hct 3 _ rfl) ⟨rfl, rfl⟩)) (WQ.g rfl (by simp [hk]) rfl ((QO.o rfl fun _ => o_mvh h0 ⟨rfl, rfl⟩)) (WQ.g rfl (by simp [hk]) rfl ((QO.o rfl fun _ => o_mvh h2 ⟨rfl, rfl⟩)) (WQ.g rfl (by simp [hk]) rfl ((QO.o rfl fun _ => o_ixB (i := q.p) TI37 TI41 (show _ = Value.slice (some ⟨ub, uo, none⟩) L.length uc from rfl) (show _ = Value.int .i64 (q.p : Int) from rfl) (by omega) ⟨rfl, rfl⟩)) (WQ.g rfl (by simp [hk]) rfl ((QO.o rfl fun _ => o_fa 3 TI41 rfl TI9 rfl rfl ⟨rfl, rfl⟩)) (WQ.g rfl (by simp [hk]) rfl ((QO.o rfl fun _ => o_ld TI9 rfl rfl (hcq 3 _ rfl) ⟨rfl, rfl⟩)) (WQ.g rfl (by simp [hk]) rfl ((QO.o rfl fun _ => o_eqT rfl rfl ⟨rfl, rfl⟩)) (WQ.c rfl ((QO.r fun _ => r_pickA rfl rfl)) (WQ.c rfl ((QO.o rfl fun _ => o_mvh vB ⟨rfl, rfl⟩)) (WQ.g rfl (by simp [hk, hl]) rfl ((QO.o rfl fun _ => o_mvh h0 ⟨rfl, rfl⟩)) (WQ.g rfl (by simp [hk, hl]) rfl ((QO.o rfl fun _ => o_mvh h1 ⟨rfl, rfl⟩)) (WQ.g rfl (by simp [hk, hl]) rfl ((QO.o rfl fun _ => o_ixB (i := i) TI37 TI41 (show _ = Value.slice (some ⟨ub, uo, none⟩) L.length uc from rfl) (show _ = Value.int .i64 (i : Int) from rfl) (by omega) ⟨rfl, rfl⟩)) (WQ.g rfl (by simp [hk, hl]) rfl ((QO.o rfl fun _ => o_fa 0 TI41 rfl TI3 rfl rfl ⟨rfl, rfl⟩)) (WQ.g rfl (by simp [hk, hl]) rfl ((QO.o rfl fun _ => o_ld TI3 rfl rfl (hcy 0 _ rfl) ⟨rfl, rfl⟩)) (WQ.g rfl (by simp [hk, hl]) rfl ((QO.o rfl fun _ => o_eq rfl rfl ⟨rfl, rfl⟩)) (WQ.g rfl (by simp [hk, hl]) rfl ((QO.o rfl fun _ => o_mvh vB ⟨rfl, rfl⟩)) (WQ.s rfl (by simp [hk]) rfl (WQ.s rfl (by simp [hk]) rfl (WQ.s rfl (by simp [hk]) rfl (WQ.s rfl (by simp [hk]) rfl (WQ.s rfl (by simp [hk]) rfl (WQ.s rfl (by simp [hk]) rfl (WQ.s rfl (by simp [hk]) rfl (WQ.s rfl (by simp [hk]) rfl (WQ.s rfl (by simp [hk]) rfl (WQ.s rfl (by simp [hk]) rfl (WQ.s rfl (by simp [hk]) rfl (WQ.g rfl (by simp [hk, hl]) rfl ((QO.r fun _ => r_pickF rfl (by simp [hk]))) ?_)))))))))))))))))))))))))))))))))))))))
   refine WQ.c rfl ((QO.r fun _ => r_pickO rfl rfl)) (WQ.nil ?_)
   intro nq
   replace hx := hx.tr (Only.drewN w nq)
   replace hS := hS.ext (Only.drewN w nq)
   refine W.condF' rfl (by simp [hk, hl]) (W.skip (W.region (WL.c rfl (o_mvh h0 (WL.c rfl (o_mvh h7 (WL.c rfl (o_call Try.call98 (lc rfl (lc rfl ln)) ((behind_all _ t (Nat.le_refl _) L (ts2.flat ++ rest) (Value.slice (some ⟨ub, uo, none⟩) L.length uc) next _ _ _ hwt.1 hdr hS hLl).mono ?_)))))))))
   rintro v55 w55 ⟨rfl, hx55⟩
   replace hx := hx.tr hx55
   replace hS := hS.ext hx55
   refine WL.c rfl (o_ash vI (WL.nil (⟨⟨next + t.flat.length, ts2, seen ++ [t.top], aa, dd, h0, h1, h2, rfl, hS, hwt.2, hdr2, hq2, by rw [dupB_snoc, hds, hlike]; rfl, hx⟩, ?_⟩)))
   show q.p - ((next + t.flat.length : Nat) : Int).toNat < _
   rw [hm7]; simp [intOf]; omega
  ·skip
   have hlike : dupB y.kind [t.top] q.x = true := by unfold dupB; rw [if_neg (by omega), if_pos hk]; simp [hl]
   refine W.quiet rfl (by kernel_rfl) (WQ.c rfl ((QO.o rfl fun _ => o_mvh h0 ⟨rfl, rfl⟩)) (WQ.c rfl ((QO.o rfl fun _ => o_mvh h1 ⟨rfl, rfl⟩)) (WQ.c rfl ((QO.o rfl fun _ => o_ixB (i := i) TI37 TI41 (show _ = Value.slice (some ⟨ub, uo, none⟩) L.length uc from rfl) (show _ = Value.int .i64 (i : Int) from rfl) (by omega) ⟨rfl, rfl⟩)) (WQ.c rfl ((QO.o rfl fun _ => o_fa 0 TI41 rfl TI3 rfl rfl ⟨rfl, rfl⟩)) (WQ.c rfl ((QO.o rfl fun _ => o_ld TI3 rfl rfl (hcy 0 _ rfl) ⟨rfl, rfl⟩)) (WQ.c rfl ((QO.o rfl fun _ => o_eq rfl rfl ⟨rfl, rfl⟩)) (WQ.c rfl ((QO.o rfl fun _ => o_mvh vB ⟨rfl, rfl⟩)) (WQ.s rfl (by simp [hk]) rfl (WQ.s rfl (by simp [hk]) rfl (WQ.s rfl (by simp [hk]) rfl (WQ.s rfl (by simp [hk]) rfl (WQ.s rfl (by simp [hk]) rfl (WQ.s rfl (by simp [hk]) rfl (WQ.s rfl (by simp [hk]) rfl (WQ.s rfl (by simp [hk]) rfl (WQ.s rfl (by simp [hk]) rfl (WQ.s rfl (by simp [hk]) rfl (WQ.s rfl (by simp [hk]) rfl (WQ.c rfl ((QO.r fun _ => r_pickF rfl (by simp [hk]))) (WQ.c rfl ((QO.o rfl fun _ => o_mvh vB ⟨rfl, rfl⟩)) (WQ.g rfl (rfl) rfl ((QO.o rfl fun _ => o_mvh h0 ⟨rfl, rfl⟩)) (WQ.g rfl (rfl) rfl ((QO.o rfl fun _ => o_mvh h1 ⟨rfl, rfl⟩)) (WQ.g rfl (rfl) rfl ((QO.o rfl fun _ => o_ixB (i := i) TI37 TI41 (show _ = Value.slice (some ⟨ub, uo, none⟩) L.length uc from rfl) (show _ = Value.int .i64 (i : Int) from rfl) (by omega) ⟨rfl, rfl⟩)) (WQ.g rfl (rfl) rfl ((QO.o rfl fun _ => o_fa 0 TI41 rfl TI3 rfl rfl ⟨rfl, rfl⟩)) (WQ.g rfl (rfl) rfl ((QO.o rfl fun _ => o_ld TI3 rfl rfl (hcy 0 _ rfl) ⟨rfl, rfl⟩)) (WQ.g rfl (rfl) rfl ((QO.o rfl fun _ => o_eq rfl rfl ⟨rfl, rfl⟩)) (WQ.g rfl (rfl) rfl ((QO.o rfl fun _ => o_mvh vB ⟨rfl, rfl⟩)) (WQ.g rfl (by simp [hk]) rfl ((QO.o rfl fun _ => o_mvh h0 ⟨rfl, rfl⟩)) (WQ.g rfl (by simp [hk]) rfl ((QO.o rfl fun _ => o_mvh h7 ⟨rfl, rfl⟩)) (WQ.g rfl (by simp [hk]) rfl ((QO.o rfl fun _ => o_ixB (i := next) TI37 TI41 (show _ = Value.slice (some ⟨ub, uo, none⟩) L.length uc from rfl) (show _ = Value.int .i64 (next : Int) from rfl) (by omega) ⟨rfl, rfl⟩)) (WQ.g rfl (by simp [hk]) rfl ((QO.o rfl fun _ => o_fa 4 TI41 rfl TI3 rfl rfl ⟨rfl, rfl⟩)) (WQ.g rfl (by simp [hk]) rfl ((QO.o rfl fun _ => o_ld TI3 rfl rfl (hct 4 _ rfl) ⟨rfl, rfl⟩)) (WQ.g rfl (by simp [hk]) rfl ((QO.o rfl fun _ => o_mvh h0 ⟨rfl, rfl⟩)) (WQ.g rfl (by simp [hk]) rfl ((QO.o rfl fun _ => o_mvh h2 ⟨rfl, rfl⟩)) (WQ.g rfl (by simp [hk]) rfl ((QO.o rfl fun _ => o_ixB (i := q.p) TI37 TI41 (show _ = Value.slice (some ⟨ub, uo, none⟩) L.length uc from rfl) (show _ = Value.int .i64 (q.p : Int) from rfl) (by omega) ⟨rfl, rfl⟩)) (WQ.g rfl (by simp [hk]) rfl ((QO.o rfl fun _ => o_fa 4 TI41 rfl TI3 rfl rfl ⟨rfl, rfl⟩)) (WQ.g rfl (by simp [hk]) rfl ((QO.o rfl fun _ => o_ld TI3 rfl rfl (hcq 4 _ rfl) ⟨rfl, rfl⟩)) (WQ.g rfl (by simp [hk]) rfl ((QO.o rfl fun _ => o_eq rfl rfl ⟨rfl, rfl⟩)) (WQ.g rfl (rfl) rfl ((QO.r fun _ => r_pickA rfl rfl)) ?_)))))))))))))))))))))))))))))))))))))))
   refine WQ.c rfl ((QO.r fun _ => r_pickO rfl rfl)) (WQ.nil ?_)
   intro nq
   replace hx := hx.tr (Only.drewN w nq)
   replace hS := hS.ext (Only.drewN w nq)
   refine W.condT' rfl (by simp [hk, hl]) (W.seq (W.region (WL.c rfl (o_ash vB (WL.nil (W.ret (ret1v rfl vB ?_)))))))
   exact ⟨congrArg Value.bool (by rw [hqk]; exact (dupB_mem hmem hlike).symm), hx⟩
  ·skip
   have hlike : dupB y.kind [t.top] q.x = false := by unfold dupB; rw [if_neg (by omega), if_pos hk]; simp [hl]
   refine W.quiet rfl (by kernel_rfl) (WQ.c rfl ((QO.o rfl fun _ => o_mvh h0 ⟨rfl, rfl⟩)) (WQ.c rfl ((QO.o rfl fun _ => o_mvh h1 ⟨rfl, rfl⟩)) (WQ.c rfl ((QO.o rfl fun _ => o_ixB (i := i) TI37 TI41 (show _ = Value.slice (some ⟨ub, uo, none⟩) L.length uc from rfl) (show _ = Value.int .i64 (i : Int) from rfl) (by omega) ⟨rfl, rfl⟩)) (WQ.c rfl ((QO.o rfl fun _ => o_fa 0 TI41 rfl TI3 rfl rfl ⟨rfl, rfl⟩)) (WQ.c rfl ((QO.o rfl fun _ => o_ld TI3 rfl rfl (hcy 0 _ rfl) ⟨rfl, rfl⟩)) (WQ.c rfl ((QO.o rfl fun _ => o_eq rfl rfl ⟨rfl, rfl⟩)) (WQ.c rfl ((QO.o rfl fun _ => o_mvh vB ⟨rfl, rfl⟩)) (WQ.s rfl (by simp [hk]) rfl (WQ.s rfl (by simp [hk]) rfl (WQ.s rfl (by simp [hk]) rfl (WQ.s rfl (by simp [hk]) rfl (WQ.s rfl (by simp [hk]) rfl (WQ.s rfl (by simp [hk]) rfl (WQ.s rfl (by simp [hk]) rfl (WQ.s rfl (by simp [hk]) rfl (WQ.s rfl (by simp [hk]) rfl (WQ.s rfl (by simp [hk]) rfl (WQ.s rfl (by simp [hk]) rfl (WQ.c rfl ((QO.r fun _ => r_pickF rfl (by simp [hk]))) (WQ.c rfl ((QO.o rfl fun _ => o_mvh vB ⟨rfl, rfl⟩)) (WQ.g rfl (rfl) rfl ((QO.o rfl fun _ => o_mvh h0 ⟨rfl, rfl⟩)) (WQ.g rfl (rfl) rfl ((QO.o rfl fun _ => o_mvh h1 ⟨rfl, rfl⟩)) (WQ.g rfl (rfl) rfl ((QO.o rfl fun _ => o_ixB (i := i) TI37 TI41 (show _ = Value.slice (some ⟨ub, uo, none⟩) L.length uc from rfl) (show _ = Value.int .i64 (i : Int) from rfl) (by omega) ⟨rfl, rfl⟩)) (WQ.g rfl (rfl) rfl ((QO.o rfl fun _ => o_fa 0 TI41 rfl TI3 rfl rfl ⟨rfl, rfl⟩)) (WQ.g rfl (rfl) rfl ((QO.o rfl fun _ => o_ld TI3 rfl rfl (hcy 0 _ rfl) ⟨rfl, rfl⟩)) (WQ.g rfl (rfl) rfl ((QO.o rfl fun _ => o_eq rfl rfl ⟨rfl, rfl⟩)) (WQ.g rfl (rfl) rfl ((QO.o rfl fun _ => o_mvh vB ⟨rfl, rfl⟩)) (WQ.g rfl (by simp [hk]) rfl ((QO.o rfl fun _ => o_mvh h0 ⟨rfl, rfl⟩)) (WQ.g rfl (by simp [hk]) rfl ((QO.o rfl fun _ => o_mvh h7 ⟨rfl, rfl⟩)) (WQ.g rfl (by simp [hk]) rfl ((QO.o rfl fun _ => o_ixB (i := next) TI37 TI41 (show _ = Value.slice (some ⟨ub, uo, none⟩) L.length uc from rfl) (show _ = Value.int .i64 (next : Int) from rfl) (by omega) ⟨rfl, rfl⟩)) (WQ.g rfl (by simp [hk]) rfl ((QO.o rfl fun _ => o_fa 4 TI41 rfl TI3 rfl rfl ⟨rfl, rfl⟩)) (WQ.g rfl (by simp [hk]) rfl ((QO.o rfl fun _ => o_ld TI3 rfl rfl (hct 4 _ rfl) ⟨rfl, rfl⟩)) (WQ.g rfl (by simp [hk]) rfl ((QO.o rfl fun _ => o_mvh h0 ⟨rfl, rfl⟩)) (WQ.g rfl (by simp [hk]) rfl ((QO.o rfl fun _ => o_mvh h2 ⟨rfl, rfl⟩)) (WQ.g rfl (by simp [hk]) rfl ((QO.o rfl fun _ => o_ixB (i := q.p) TI37 TI41 (show _ = Value.slice (some ⟨ub, uo, none⟩) L.length uc from rfl) (show _ = Value.int .i64 (q.p : Int) from rfl) (by omega) ⟨rfl, rfl⟩)) (WQ.g rfl (by simp [hk]) rfl ((QO.o rfl fun _ => o_fa 4 TI41 rfl TI3 rfl rfl ⟨rfl, rfl⟩)) (WQ.g rfl (by simp [hk]) rfl ((QO.o rfl fun _ => o_ld TI3 rfl rfl (hcq 4 _ rfl) ⟨rfl, rfl⟩)) (WQ.g rfl (by simp [hk]) rfl ((QO.o rfl fun _ => o_eq rfl rfl ⟨rfl, rfl⟩)) (WQ.g rfl (rfl) rfl ((QO.r fun _ => r_pickA rfl rfl)) ?_)))))))))))))))))))))))))))))))))))))))
   refine WQ.c rfl ((QO.r fun _ => r_pickO rfl rfl)) (WQ.nil ?_)
   intro nq
   replace hx := hx.tr (Only.drewN w nq)
   replace hS := hS.ext (Only.drewN w nq)
   refine W.condF' rfl (by simp [hk, hl]) (W.skip (W.region (WL.c rfl (o_mvh h0 (WL.c rfl (o_mvh h7 (WL.c rfl (o_call Try.call98 (lc rfl (lc rfl ln)) ((behind_all _ t (Nat.le_refl _) L (ts2.flat ++ rest) (Value.slice (some ⟨ub, uo, none⟩) L.length uc) next _ _ _ hwt.1 hdr hS hLl).mono ?_)))))))))
   rintro v55 w55 ⟨rfl, hx55⟩
   replace hx := hx.tr hx55
   replace hS := hS.ext hx55
   refine WL.c rfl (o_ash vI (WL.nil (⟨⟨next + t.flat.length, ts2, seen ++ [t.top], aa, dd, h0, h1, h2, rfl, hS, hwt.2, hdr2, hq2, by rw [dupB_snoc, hds, hlike]; rfl, hx⟩, ?_⟩)))
   show q.p - ((next + t.flat.length : Nat) : Int).toNat < _
   rw [hm7]; simp [intOf]; omega
  skip
  have hlike : dupB y.kind [t.top] q.x = false := by unfold dupB; rw [if_neg hk8, if_neg hk7]
  refine W.quiet rfl (by kernel_rfl) (WQ.c rfl ((QO.o rfl fun _ => o_mvh h0 ⟨rfl, rfl⟩)) (WQ.c rfl ((QO.o rfl fun _ => o_mvh h1 ⟨rfl, rfl⟩)) (WQ.c rfl ((QO.o rfl fun _ => o_ixB (i := i) TI37 TI41 (show _ = Value.slice (some ⟨ub, uo, none⟩) L.length uc from rfl) (show _ = Value.int .i64 (i : Int) from rfl) (by omega) ⟨rfl, rfl⟩)) (WQ.c rfl ((QO.o rfl fun _ => o_fa 0 TI41 rfl TI3 rfl rfl ⟨rfl, rfl⟩)) (WQ.c rfl ((QO.o rfl fun _ => o_ld TI3 rfl rfl (hcy 0 _ rfl) ⟨rfl, rfl⟩)) (WQ.c rfl ((QO.o rfl fun _ => o_eq rfl rfl ⟨rfl, rfl⟩)) (WQ.c rfl ((QO.o rfl fun _ => o_mvh vB ⟨rfl, rfl⟩)) (WQ.s rfl (by simp [hk8]) rfl (WQ.s rfl (by simp [hk8]) rfl (WQ.s rfl (by simp [hk8]) rfl (WQ.s rfl (by simp [hk8]) rfl (WQ.s rfl (by simp [hk8]) rfl (WQ.s rfl (by simp [hk8]) rfl (WQ.s rfl (by simp [hk8]) rfl (WQ.s rfl (by simp [hk8]) rfl (WQ.s rfl (by simp [hk8]) rfl (WQ.s rfl (by simp [hk8]) rfl (WQ.s rfl (by simp [hk8]) rfl (WQ.c rfl ((QO.r fun _ => r_pickF rfl (by simp [hk8]))) (WQ.c rfl ((QO.o rfl fun _ => o_mvh vB ⟨rfl, rfl⟩)) (WQ.g rfl (rfl) rfl ((QO.o rfl fun _ => o_mvh h0 ⟨rfl, rfl⟩)) (WQ.g rfl (rfl) rfl ((QO.o rfl fun _ => o_mvh h1 ⟨rfl, rfl⟩)) (WQ.g rfl (rfl) rfl ((QO.o rfl fun _ => o_ixB (i := i) TI37 TI41 (show _ = Value.slice (some ⟨ub, uo, none⟩) L.length uc from rfl) (show _ = Value.int .i64 (i : Int) from rfl) (by omega) ⟨rfl, rfl⟩)) (WQ.g rfl (rfl) rfl ((QO.o rfl fun _ => o_fa 0 TI41 rfl TI3 rfl rfl ⟨rfl, rfl⟩)) (WQ.g rfl (rfl) rfl ((QO.o rfl fun _ => o_ld TI3 rfl rfl (hcy 0 _ rfl) ⟨rfl, rfl⟩)) (WQ.g rfl (rfl) rfl ((QO.o rfl fun _ => o_eq rfl rfl ⟨rfl, rfl⟩)) (WQ.g rfl (rfl) rfl ((QO.o rfl fun _ => o_mvh vB ⟨rfl, rfl⟩)) (WQ.s rfl (by simp [hk7]) rfl (WQ.s rfl (by simp [hk7]) rfl (WQ.s rfl (by simp [hk7]) rfl (WQ.s rfl (by simp [hk7]) rfl (WQ.s rfl (by simp [hk7]) rfl (WQ.s rfl (by simp [hk7]) rfl (WQ.s rfl (by simp [hk7]) rfl (WQ.s rfl (by simp [hk7]) rfl (WQ.s rfl (by simp [hk7]) rfl (WQ.s rfl (by simp [hk7]) rfl (WQ.s rfl (by simp [hk7]) rfl (WQ.g rfl (rfl) rfl ((QO.r fun _ => r_pickF rfl (by simp [hk7]))) ?_)))))))))))))))))))))))))))))))))))))))
  refine WQ.c rfl ((QO.r fun _ => r_pickO rfl rfl)) (WQ.nil ?_)
  intro nq
  replace hx := hx.tr (Only.drewN w nq)
  replace hS := hS.ext (Only.drewN w nq)
  refine W.condF' rfl (by simp [hk8, hk7]) (W.skip (W.region (WL.c rfl (o_mvh h0 (WL.c rfl (o_mvh h7 (WL.c rfl (o_call Try.call98 (lc rfl (lc rfl ln)) ((behind_all _ t (Nat.le_refl _) L (ts2.flat ++ rest) (Value.slice (some ⟨ub, uo, none⟩) L.length uc) next _ _ _ hwt.1 hdr hS hLl).mono ?_)))))))))
  rintro v55 w55 ⟨rfl, hx55⟩
  replace hx := hx.tr hx55
  replace hS := hS.ext hx55
  refine WL.c rfl (o_ash vI (WL.nil (⟨⟨next + t.flat.length, ts2, seen ++ [t.top], aa, dd, h0, h1, h2, rfl, hS, hwt.2, hdr2, hq2, by rw [dupB_snoc, hds, hlike]; rfl, hx⟩, ?_⟩)))
  show q.p - ((next + t.flat.length : Nat) : Int).toNat < _
  rw [hm7]; simp [intOf]; omega
 try simp only [cs8] at c12
 have hpe : q.p = next := by have := (topK_kind hq).2.2.1; omega
 have hse := topK_head hq hpe
 refine W.exit (W.seq (W.region (WL.c rfl (o_ash vB (WL.nil (W.ret (ret1v rfl vB ?_)))))))
 exact ⟨congrArg Value.bool (by rw [hqk, hse]; exact hds.symm), hx⟩
set_option maxHeartbeats 2000000 in
theorem parents_spec (t : Tr) (L : List Ex) (v : Value) (aa : Int) (dd : Nat) (w0 : World) (hw : t.wf aa dd) (hL : L = t.flat) (hS : Sl w0 7 v L.length (exs L)) (hLl : L.length * 72 ≤ 140737488351232) : Ca Try.prog 88 #[v] w0 (fun u w' => ∃ f : Nat → Int, w'.ownsRow w0.heap.size 3 1 u L.length (pz L.length f) ∧ Snd t L.length f ∧ Cmp t L.length f ∧ Ext w0 w') := by
 have hx : Ext w0 w0 := Only.refl _ _
 have hL0 : 0 < L.length := by rw [hL]; exact tr_pos t
 obtain ⟨ub, uo, uc, rfl, huc⟩ := Sl.exq hS hL0
 clear huc
 have hS00 := hS
 obtain ⟨B, hB⟩ : ∃ B, B = w0.heap.size := ⟨_, rfl⟩
 rw [← hB]
 refine Ca.of Try.func88 Try.ntmps88 rfl rfl (W.seq (W.region (WL.c rfl (o_ash (by first | exact vS | exact rfl) (WL.nil (W.seq (W.region (WL.c rfl (o_mvh (by first | exact vS | exact rfl) (WL.c rfl (o_len TI37 rfl (WL.c rfl (o_mk2 TI79 TI3 (l := L.length) (n := L.length) rfl rfl (Nat.le_refl _) (by omega) (by omega) ?_)))))))))))))
 have hro := own_made1 (w := w0) (el := 3) (l := L.length) (n := L.length) (z := .int .i64 0) rfl (Nat.le_refl _) (by omega)
 have hxb : Ext w0 (w0.alloc (.cells (madeCells (Value.int .i64 0).cells (L.length * 1)) 3)) := Only.alloc w0 _
 generalize w0.alloc (.cells (madeCells (Value.int .i64 0).cells (L.length * 1)) 3) = wt at hro hxb ⊢
 rw [← pz_zero, ← hB] at hro
 rw [← hB]
 replace hx := hx.tr hxb
 replace hS := hS.ext hxb
 have hBt : w0.heap.size ≤ B := by omega
 refine WL.c rfl (o_ash (by first | exact vS | exact rfl) (WL.nil (W.seq (W.seq (W.region (WL.c rfl (o_ash vI (WL.nil (W.block (W.loop (fun e w => ∃ (i : Nat) (f : Nat → Int), i ≤ L.length ∧ e 0 = (Value.slice (some ⟨ub, uo, none⟩) L.length uc) ∧ e 3 = .slice (some ⟨B, 0, none⟩) L.length L.length ∧ e 4 = .int .i64 (i : Int) ∧ w.ownsRow B 3 1 (.slice (some ⟨B, 0, none⟩) L.length L.length) L.length (pz L.length f) ∧ (∀ j, j < i → f j = -1) ∧ Sl w 7 (Value.slice (some ⟨ub, uo, none⟩) L.length uc) L.length (exs L) ∧ Ext w0 w) (fun e w => L.length - (intOf (e 4)).toNat) ?_ ?_))))))))))
 ·exact ⟨0, _, Nat.zero_le _, rfl, rfl, rfl, hro, fun j hj => by omega, hS, hx⟩
 rintro e w ⟨i, f, hi, h0, h3, h4, hro, hf, hS, hx⟩
 have hm4 := h4
 refine W.seq (W.seq (W.region (WL.c rfl (o_mvh h4 (WL.c rfl (o_mvh h0 (WL.c rfl (o_len TI37 rfl (WL.c rfl (o_lt rfl rfl (WL.nil (W.cond rfl (fun c14 => ?_) (fun c14 => ?_)))))))))))))
 ·try simp only [cs8] at c14
  have hi1 : i < L.length := by omega
  refine W.skip (W.seq (W.block (W.region (WL.c rfl (o_mvh h3 (WL.c rfl (o_mvh h4 (WL.c rfl (o_ixB (i := i) TI79 TI3 (show _ = Value.slice (some ⟨B, 0, none⟩) L.length L.length from rfl) (show _ = Value.int .i64 (i : Int) from rfl) (by omega) (WL.u (o_stR1 (i := i) TI3 rfl (by omega) (show _ = zv (-1) from rfl) rfl hro rfl hi1 ?_)))))))))))
  intro wq hrq hoq hsq
  rw [pz_set] at hrq
  replace hx := hx.trans' hoq (fun _ h => h) (fun b hb he => by
   have : B = b := by simpa [Value.ownBlock] using he
   omega)
  replace hS := hS00.ext hx
  clear hro
  have hro := hrq
  refine WL.nil (W.region (WL.c rfl (o_mvh h4 (WL.c rfl (o_addi rfl rfl (by omega) (WL.c rfl (o_ash vI (WL.nil (⟨⟨i + 1, _, by omega, h0, h3, rfl, hro, fun j hj => ?_, hS, hx⟩, ?_⟩)))))))))
  ·unfold updI
   by_cases e : j = i
   ·rw [if_pos e]
   rw [if_neg e]; exact hf j (by omega)
  show L.length - ((i : Int) + 1).toNat < _
  rw [hm4]; simp [intOf]; omega
 try simp only [cs8] at c14
 have hi1 : i = L.length := by omega
 have hsnd : Snd t L.length f := fun j hj => .inl (hf j (by omega))
 have hcmp : Cmp t 0 f := fun e he hk hi => by omega
 refine W.exit (W.seq (W.seq (W.region (WL.c rfl (o_ash vI (WL.nil (W.block (W.loop (fun e w => ∃ (i : Nat) (f : Nat → Int), i ≤ L.length ∧ e 0 = (Value.slice (some ⟨ub, uo, none⟩) L.length uc) ∧ e 3 = .slice (some ⟨B, 0, none⟩) L.length L.length ∧ e 5 = .int .i64 (i : Int) ∧ w.ownsRow B 3 1 (.slice (some ⟨B, 0, none⟩) L.length L.length) L.length (pz L.length f) ∧ Snd t L.length f ∧ Cmp t i f ∧ Sl w 7 (Value.slice (some ⟨ub, uo, none⟩) L.length uc) L.length (exs L) ∧ Ext w0 w) (fun e w => L.length - (intOf (e 5)).toNat) ?_ ?_))))))))
 ·exact ⟨0, f, Nat.zero_le _, h0, h3, rfl, hro, hsnd, hcmp, hS, hx⟩
 rintro e w ⟨i, f, hi, h0, h3, h5, hro, hsnd, hcmp, hS, hx⟩
 have hm5 := h5
 refine W.seq (W.seq (W.region (WL.c rfl (o_mvh h5 (WL.c rfl (o_mvh h0 (WL.c rfl (o_len TI37 rfl (WL.c rfl (o_lt rfl rfl (WL.nil (W.cond rfl (fun c23 => ?_) (fun c23 => ?_)))))))))))))
 ·try simp only [cs8] at c23
  have hi1 : i < L.length := by omega
  obtain ⟨y, ks, r, a2, d2, hwn, hdn, hkid⟩ := sub_kid t 0 i aa dd hw (Nat.zero_le _) (by rw [Nat.zero_add, ← hL]; exact hi1)
  rw [Nat.sub_zero, ← hL] at hdn
  obtain ⟨hat, hya, hL1⟩ := drop_at (show L.drop i = y :: (ks.flat ++ r) from hdn)
  have hkk : y.kids = (ks.len : Int) := hwn.2.2.2.1.symm
  have hksl : ks.flat.length ≤ L.length := by have h1 := congrArg List.length hL1; simp at h1; omega
  have hlk := trs_len_le ks
  refine W.skip (W.seq (W.block (W.seq (W.region (WL.c rfl (o_mvh h5 (WL.c rfl (o_addi rfl rfl (by omega) (WL.c rfl (o_ash vI (WL.nil (W.seq (W.region (WL.c rfl (o_ash vI (WL.nil (W.block (W.loop (fun e w => ∃ (k next : Nat) (ts : Trs) (seen : List Ex) (f : Nat → Int), ks.len = k + ts.len ∧ e 0 = (Value.slice (some ⟨ub, uo, none⟩) L.length uc) ∧ e 3 = .slice (some ⟨B, 0, none⟩) L.length L.length ∧ e 5 = .int .i64 (i : Int) ∧ e 6 = .int .i64 (next : Int) ∧ e 7 = .int .i64 (k : Int) ∧ w.ownsRow B 3 1 (.slice (some ⟨B, 0, none⟩) L.length L.length) L.length (pz L.length f) ∧ Snd t L.length f ∧ Cmp t i f ∧ ts.wf y.kind (d2 + 1) ∧ L.drop next = ts.flat ++ r ∧ (∀ e ∈ topK i y.kind ts next seen, e ∈ topK i y.kind ks (i + 1) []) ∧ (k8 y.kind → ∀ e ∈ topK i y.kind ks (i + 1) [], e ∈ topK i y.kind ts next seen ∨ f e.p = (i : Int)) ∧ Sl w 7 (Value.slice (some ⟨ub, uo, none⟩) L.length uc) L.length (exs L) ∧ Ext w0 w) (fun e w => ks.len - (intOf (e 7)).toNat) ?_ ?_))))))))))))))))))
  ·exact ⟨0, i + 1, ks, [], f, by omega, h0, h3, h5, rfl, rfl, hro, hsnd, hcmp, hwn.2.2.2.2, hL1, fun e he => he, fun _ e he => .inl he, hS, hx⟩
  rintro e w ⟨k, next, ts, seen, f, hks, h0, h3, h5, h6, h7, hro, hsnd, hcmp, hwt, hLn, hsub, hdone, hS, hx⟩
  have hm7 := h7
  have huc := Sl.exw hS hat
  rw [hya] at huc
  have hcK : w.cell? ⟨ub, uo + i * 7 + 5, none⟩ = some (.int .i64 (ks.len : Int)) := by rw [← hkk]; exact huc 5 _ rfl
  refine W.seq (W.seq (W.region (WL.c rfl (o_mvh h7 (WL.c rfl (o_mvh h0 (WL.c rfl (o_mvh h5 (WL.c rfl (o_ixB (i := i) TI37 TI41 (show _ = Value.slice (some ⟨ub, uo, none⟩) L.length uc from rfl) (show _ = Value.int .i64 (i : Int) from rfl) (by omega) (WL.c rfl (o_fa 5 TI41 rfl TI3 rfl rfl (WL.c rfl (o_ld TI3 rfl rfl hcK (WL.c rfl (o_lt rfl rfl (WL.nil (W.cond rfl (fun c34 => ?_) (fun c34 => ?_)))))))))))))))))))
  ·try simp only [cs8] at c34
   have hk1 : k < ks.len := by omega
   obtain ⟨t2, ts2, rfl⟩ := Trs.split hks hk1
   simp only [Trs.len] at hks
   have htp := tr_pos t2
   have hdr : L.drop next = t2.flat ++ (ts2.flat ++ r) := by rw [hLn]; simp [Trs.flat]
   have hdr2 : L.drop (next + t2.flat.length) = ts2.flat ++ r := by rw [← List.drop_drop, hdr, List.drop_left]
   have hnl1 : next < L.length := by
    have h1 := congrArg List.length hdr
    simp at h1
    omega
   have hte : (⟨i, next, y.kind, seen, t2.top⟩ : KE) ∈ topK i y.kind (.cons t2 ts2) next seen := by rw [topK]; exact List.mem_cons_self ..
   have hkt := hkid _ (hsub _ hte)
   refine W.skip (W.seq (W.block (W.seq (W.seq ?_))))
   rcases kcases y.kind with hk | hk | ⟨hk8, hk7⟩
   ·skip
    have hk8 : k8 y.kind := .inl hk
    refine W.region (WL.c rfl (o_mvh h0 (WL.c rfl (o_mvh h5 (WL.c rfl (o_ixB (i := i) TI37 TI41 (show _ = Value.slice (some ⟨ub, uo, none⟩) L.length uc from rfl) (show _ = Value.int .i64 (i : Int) from rfl) (by omega) (WL.c rfl (o_fa 0 TI41 rfl TI3 rfl rfl (WL.c rfl (o_ld TI3 rfl rfl (huc 0 _ rfl) (WL.c rfl (o_eq rfl rfl (WL.c rfl (o_mvh vB (WL.s rfl (by simp [hk]) rfl (WL.s rfl (by simp [hk]) rfl (WL.s rfl (by simp [hk]) rfl (WL.s rfl (by simp [hk]) rfl (WL.s rfl (by simp [hk]) rfl (WL.s rfl (by simp [hk]) rfl (WL.c rfl (o_pickT rfl (by simp [hk]) (WL.nil (W.condT' rfl (rfl) (W.region (WL.c rfl (o_mvh h3 (WL.c rfl (o_mvh h6 (WL.c rfl (o_mvh h5 (WL.c rfl (o_ixB (i := next) TI79 TI3 (show _ = Value.slice (some ⟨B, 0, none⟩) L.length L.length from rfl) (show _ = Value.int .i64 (next : Int) from rfl) (by omega) (WL.u (o_stR1 (i := next) TI3 rfl (by omega) (show _ = zv (i : Int) from rfl) rfl hro rfl hnl1 ?_)))))))))))))))))))))))))))))))))))
    intro wq hrq hoq hsq
    rw [pz_set] at hrq
    replace hx := hx.trans' hoq (fun _ h => h) (fun b hb he => by
     have : B = b := by simpa [Value.ownBlock] using he
     omega)
    replace hS := hS00.ext hx
    clear hro
    have hro := hrq
    have hsndN := hsnd.set hkt hk8
    have hcmpN := hcmp.set hkt
    obtain ⟨fN, hfN⟩ : ∃ g, g = updI f next (i : Int) := ⟨_, rfl⟩
    replace hsndN : Snd t L.length fN := by rw [hfN]; exact hsndN
    replace hcmpN : Cmp t i fN := by rw [hfN]; exact hcmpN
    rw [← hfN] at hro
    have hdoneN : k8 y.kind → ∀ e ∈ topK i y.kind ks (i + 1) [], e ∈ topK i y.kind ts2 (next + t2.flat.length) (seen ++ [t2.top]) ∨ fN e.p = (i : Int) := fun hk e he => by
     by_cases hp : e.p = next
     ·right
      rw [hfN, updI, if_pos hp]
     rcases hdone hk e he with h | h
     ·rw [topK] at h
      rcases List.mem_cons.1 h with h | h
      ·exact absurd (by rw [h]) hp
      exact .inl h
     right
     rw [hfN, updI, if_neg hp]; exact h
    refine WL.nil (W.region (WL.c rfl (o_mvh h0 (WL.c rfl (o_mvh h6 (WL.c rfl (o_call Try.call98 (lc rfl (lc rfl ln)) ((behind_all _ t2 (Nat.le_refl _) L (ts2.flat ++ r) (Value.slice (some ⟨ub, uo, none⟩) L.length uc) next _ _ _ hwt.1 hdr hS hLl).mono ?_))))))))
    rintro v57 w57 ⟨rfl, hx57⟩
    replace hx := hx.tr hx57
    replace hS := hS.ext hx57
    replace hro := own_ext hro hx57
    refine WL.c rfl (o_ash vI (WL.nil (W.region (WL.c rfl (o_mvh h7 (WL.c rfl (o_addi rfl rfl (by omega) (WL.c rfl (o_ash vI (WL.nil (⟨⟨k + 1, next + t2.flat.length, ts2, seen ++ [t2.top], fN, by omega, h0, h3, h5, rfl, rfl, hro, hsndN, hcmpN, hwt.2, hdr2, fun e he => hsub e (by rw [topK]; exact List.mem_cons_of_mem _ he), hdoneN, hS, hx⟩, ?_⟩)))))))))))
    show ks.len - ((k : Int) + 1).toNat < _
    rw [hm7]; simp [intOf]; omega
   ·skip
    have hk8 : k8 y.kind := .inr hk
    refine W.region (WL.c rfl (o_mvh h0 (WL.c rfl (o_mvh h5 (WL.c rfl (o_ixB (i := i) TI37 TI41 (show _ = Value.slice (some ⟨ub, uo, none⟩) L.length uc from rfl) (show _ = Value.int .i64 (i : Int) from rfl) (by omega) (WL.c rfl (o_fa 0 TI41 rfl TI3 rfl rfl (WL.c rfl (o_ld TI3 rfl rfl (huc 0 _ rfl) (WL.c rfl (o_eq rfl rfl (WL.c rfl (o_mvh vB (WL.g rfl (by simp [hk]) rfl (o_mvh h0 (WL.g rfl (by simp [hk]) rfl (o_mvh h5 (WL.g rfl (by simp [hk]) rfl (o_ixB (i := i) TI37 TI41 (show _ = Value.slice (some ⟨ub, uo, none⟩) L.length uc from rfl) (show _ = Value.int .i64 (i : Int) from rfl) (by omega) (WL.g rfl (by simp [hk]) rfl (o_fa 0 TI41 rfl TI3 rfl rfl (WL.g rfl (by simp [hk]) rfl (o_ld TI3 rfl rfl (huc 0 _ rfl) (WL.g rfl (by simp [hk]) rfl (o_eq rfl rfl (WL.c rfl (o_pickO rfl rfl (WL.nil (W.condT' rfl (by simp [hk]) (W.region (WL.c rfl (o_mvh h3 (WL.c rfl (o_mvh h6 (WL.c rfl (o_mvh h5 (WL.c rfl (o_ixB (i := next) TI79 TI3 (show _ = Value.slice (some ⟨B, 0, none⟩) L.length L.length from rfl) (show _ = Value.int .i64 (next : Int) from rfl) (by omega) (WL.u (o_stR1 (i := next) TI3 rfl (by omega) (show _ = zv (i : Int) from rfl) rfl hro rfl hnl1 ?_)))))))))))))))))))))))))))))))))))))))))
    intro wq hrq hoq hsq
    rw [pz_set] at hrq
    replace hx := hx.trans' hoq (fun _ h => h) (fun b hb he => by
     have : B = b := by simpa [Value.ownBlock] using he
     omega)
    replace hS := hS00.ext hx
    clear hro
    have hro := hrq
    have hsndN := hsnd.set hkt hk8
    have hcmpN := hcmp.set hkt
    obtain ⟨fN, hfN⟩ : ∃ g, g = updI f next (i : Int) := ⟨_, rfl⟩
    replace hsndN : Snd t L.length fN := by rw [hfN]; exact hsndN
    replace hcmpN : Cmp t i fN := by rw [hfN]; exact hcmpN
    rw [← hfN] at hro
    have hdoneN : k8 y.kind → ∀ e ∈ topK i y.kind ks (i + 1) [], e ∈ topK i y.kind ts2 (next + t2.flat.length) (seen ++ [t2.top]) ∨ fN e.p = (i : Int) := fun hk e he => by
     by_cases hp : e.p = next
     ·right
      rw [hfN, updI, if_pos hp]
     rcases hdone hk e he with h | h
     ·rw [topK] at h
      rcases List.mem_cons.1 h with h | h
      ·exact absurd (by rw [h]) hp
      exact .inl h
     right
     rw [hfN, updI, if_neg hp]; exact h
    refine WL.nil (W.region (WL.c rfl (o_mvh h0 (WL.c rfl (o_mvh h6 (WL.c rfl (o_call Try.call98 (lc rfl (lc rfl ln)) ((behind_all _ t2 (Nat.le_refl _) L (ts2.flat ++ r) (Value.slice (some ⟨ub, uo, none⟩) L.length uc) next _ _ _ hwt.1 hdr hS hLl).mono ?_))))))))
    rintro v57 w57 ⟨rfl, hx57⟩
    replace hx := hx.tr hx57
    replace hS := hS.ext hx57
    replace hro := own_ext hro hx57
    refine WL.c rfl (o_ash vI (WL.nil (W.region (WL.c rfl (o_mvh h7 (WL.c rfl (o_addi rfl rfl (by omega) (WL.c rfl (o_ash vI (WL.nil (⟨⟨k + 1, next + t2.flat.length, ts2, seen ++ [t2.top], fN, by omega, h0, h3, h5, rfl, rfl, hro, hsndN, hcmpN, hwt.2, hdr2, fun e he => hsub e (by rw [topK]; exact List.mem_cons_of_mem _ he), hdoneN, hS, hx⟩, ?_⟩)))))))))))
    show ks.len - ((k : Int) + 1).toNat < _
    rw [hm7]; simp [intOf]; omega
   skip
   have hn8 : ¬ k8 y.kind := fun h => by rcases h with h | h <;> omega
   obtain ⟨fN, hfN⟩ : ∃ g, g = f := ⟨_, rfl⟩
   rw [← hfN] at hro hsnd hcmp
   have hsndN := hsnd
   have hcmpN := hcmp
   have hdoneN : k8 y.kind → ∀ e ∈ topK i y.kind ks (i + 1) [], e ∈ topK i y.kind ts2 (next + t2.flat.length) (seen ++ [t2.top]) ∨ fN e.p = (i : Int) := fun h => absurd h hn8
   refine W.region (WL.c rfl (o_mvh h0 (WL.c rfl (o_mvh h5 (WL.c rfl (o_ixB (i := i) TI37 TI41 (show _ = Value.slice (some ⟨ub, uo, none⟩) L.length uc from rfl) (show _ = Value.int .i64 (i : Int) from rfl) (by omega) (WL.c rfl (o_fa 0 TI41 rfl TI3 rfl rfl (WL.c rfl (o_ld TI3 rfl rfl (huc 0 _ rfl) (WL.c rfl (o_eq rfl rfl (WL.c rfl (o_mvh vB (WL.g rfl (by simp [hk8]) rfl (o_mvh h0 (WL.g rfl (by simp [hk8]) rfl (o_mvh h5 (WL.g rfl (by simp [hk8]) rfl (o_ixB (i := i) TI37 TI41 (show _ = Value.slice (some ⟨ub, uo, none⟩) L.length uc from rfl) (show _ = Value.int .i64 (i : Int) from rfl) (by omega) (WL.g rfl (by simp [hk8]) rfl (o_fa 0 TI41 rfl TI3 rfl rfl (WL.g rfl (by simp [hk8]) rfl (o_ld TI3 rfl rfl (huc 0 _ rfl) (WL.g rfl (by simp [hk8]) rfl (o_eq rfl rfl (WL.c rfl (o_pickO rfl rfl (WL.nil (W.condF' rfl (by simp [hk8, hk7]) (W.skip (W.region (WL.c rfl (o_mvh h0 (WL.c rfl (o_mvh h6 (WL.c rfl (o_call Try.call98 (lc rfl (lc rfl ln)) ((behind_all _ t2 (Nat.le_refl _) L (ts2.flat ++ r) (Value.slice (some ⟨ub, uo, none⟩) L.length uc) next _ _ _ hwt.1 hdr hS hLl).mono ?_)))))))))))))))))))))))))))))))))))))))
   rintro v57 w57 ⟨rfl, hx57⟩
   replace hx := hx.tr hx57
   replace hS := hS.ext hx57
   replace hro := own_ext hro hx57
   refine WL.c rfl (o_ash vI (WL.nil (W.region (WL.c rfl (o_mvh h7 (WL.c rfl (o_addi rfl rfl (by omega) (WL.c rfl (o_ash vI (WL.nil (⟨⟨k + 1, next + t2.flat.length, ts2, seen ++ [t2.top], fN, by omega, h0, h3, h5, rfl, rfl, hro, hsndN, hcmpN, hwt.2, hdr2, fun e he => hsub e (by rw [topK]; exact List.mem_cons_of_mem _ he), hdoneN, hS, hx⟩, ?_⟩)))))))))))
   show ks.len - ((k : Int) + 1).toNat < _
   rw [hm7]; simp [intOf]; omega
  try simp only [cs8] at c34
  have hk1 : k = ks.len := by omega
  have hnil := Trs.none hks hk1
  subst hnil
  refine W.exit (W.region (WL.c rfl (o_mvh h5 (WL.c rfl (o_addi rfl rfl (by omega) (WL.c rfl (o_ash vI (WL.nil (⟨⟨i + 1, f, by omega, h0, h3, rfl, hro, hsnd, hcmp.next hw hwn (by rw [← hL]; exact hdn) (fun hk e he => ?_), hS, hx⟩, ?_⟩)))))))))
  ·rcases hdone hk e he with h | h
   ·cases h
   exact h
  show L.length - ((i : Int) + 1).toNat < _
  rw [hm5]; simp [intOf]; omega
 try simp only [cs8] at c23
 have hi1 : i = L.length := by omega
 rw [hi1] at hcmp
 refine W.exit (W.seq (W.region (WL.c rfl (o_mvh h3 (WL.c rfl (o_ash (by first | exact vS | exact rfl) (WL.nil (W.ret (ret1v rfl rfl ?_)))))))))
 exact ⟨f, hro, hsnd, hcmp, hx⟩
end Go.Proofs.Ytpbflfgigfdohaa

namespace Go.Proofs.Ytpbflfgigfdohaa
open Go Go.Vc Go.RowKit Go.Proofs

theorem Snd.dup {t : Tr} {n : Nat} {f : Nat → Int} (hc : Cmp t n f) (hn : t.flat.length = n) {aa : Int} {dd : Nat} (hw : t.wf aa dd) {i : Nat} (hf : f i = -1) : ¬ i ∈ dupT t 0 := by
 intro hd
 obtain ⟨e, he, hp, hb⟩ := (dup_kid t 0 i).1 hd
 have hk : k78 e := by
  unfold dupB at hb
  unfold k78
  split at hb
  ·rename_i h; exact .inl h
  split at hb
  ·rename_i h; exact .inr h
  cases hb
 obtain ⟨-, -, -, -, -, -, -, h3, -, -⟩ := kid_sub t 0 _ _ e hw he
 have := hc e he hk (by omega)
 rw [hp, hf] at this
 omega
theorem dup_iff {t : Tr} {e : KE} (he : e ∈ kidT t 0) : e.p ∈ dupT t 0 ↔ dupB e.kind e.seen e.x = true := by
 rw [dup_kid]
 constructor
 ·rintro ⟨q, hq, hp, hb⟩
  rw [← kid_uniq hq he hp]; exact hb
 exact fun h => ⟨e, he, rfl, h⟩
theorem kid_node {t : Tr} {aa : Int} {dd : Nat} {e : KE} (hw : t.wf aa dd) (he : e ∈ kidT t 0) : ∃ y ks r a2 d2, (Tr.node y ks).wf a2 d2 ∧ t.flat.drop e.i = (Tr.node y ks).flat ++ r ∧ e ∈ topK e.i y.kind ks (e.i + 1) [] ∧ e.i < t.flat.length := by
 obtain ⟨y, ks, r, a2, d2, h1, -, h3, h4, h5⟩ := kid_sub t 0 _ _ e hw he
 exact ⟨y, ks, r, a2, d2, h1, by simpa using h4, h5, by omega⟩


theorem rfind_call (D : List Df) (dv : Value) (V : Nat → Value) (nm : List UInt8) (w0 : World) (hD : DefR w0 D dv V) (hlen : D.length * 48 ≤ 140737488351232) {k : Nat} (hk : whereN D nm = some k) : Ca Try.prog 87 #[.agg #[dv], st nm] w0 (fun v w' => v = .tuple #[.int .i64 (k : Int), .int .i64 0] ∧ Ext w0 w') := by
 have h := rfind_spec D dv V nm w0 hD hlen
 rw [hk] at h
 exact h
theorem rfind_code (D : List Df) (dv : Value) (V : Nat → Value) (nm : List UInt8) (w0 : World) (hD : DefR w0 D dv V) (hlen : D.length * 48 ≤ 140737488351232) {k : Nat} {e : Int} (hk : k = (whereN D nm).getD 0) (he : e = if (whereN D nm).isSome then 0 else 81) : Ca Try.prog 87 #[.agg #[dv], st nm] w0 (fun v w' => v = .tuple #[.int .i64 (k : Int), .int .i64 e] ∧ Ext w0 w') := by
 subst hk he
 exact rfind_spec D dv V nm w0 hD hlen

set_option maxHeartbeats 4000000 in
theorem doubles_spec (D : List Df) (T : Nat → Tr) (dv : Value) (V : Nat → Value) (w0 : World) (hD : DefR w0 D dv V) (hlim : DOk D) (hT : Trd D T) : Ca Try.prog 64 #[.agg #[dv]] w0 (fun v w' => ∃ er at_ : Int, v = .tuple #[.int .i64 er, .int .i64 at_] ∧ (resF D T).getD (0, 0) = (er, at_) ∧ Ext w0 w') := by
 have hlen := hlim.len
 have hD00 := hD
 have h256 := hT.n
 refine Ca.of Try.func64 Try.ntmps64 rfl rfl (W.seq (W.region (WL.c rfl (o_boxB rfl ?_))))
 intro w1 hC1 hx1 hs1
 obtain ⟨b1, hb1⟩ : ∃ b, b = w0.heap.size := ⟨_, rfl⟩
 rw [← hb1] at hC1 ⊢
 replace hC1 : w1.heap[b1]? = some (.cells ([dv]).toArray 25 (0, 0)) := hC1
 have hx := hx1
 replace hD := hD.ext hx1
 refine WL.c rfl (o_ash vI (WL.c rfl (o_ash vI (WL.nil (W.seq (W.seq (W.region (WL.c rfl (o_ash vI (WL.nil (W.block (W.loop (fun e w => ∃ i : Nat, i ≤ D.length ∧ e 1 = .pointer (some ⟨b1, 0, none⟩) ∧ e 4 = .int .i64 (i : Int) ∧ (∀ j, j < i → defF D T j = none) ∧ DefR w D dv V ∧ w.heap[b1]? = some (.cells #[dv] 25 (0, 0)) ∧ Ext w0 w) (fun e w => D.length - (intOf (e 4)).toNat) ?_ ?_))))))))))))
 ·exact ⟨0, Nat.zero_le _, rfl, rfl, fun j hj => by omega, hD, hC1, hx⟩
 rintro e w ⟨i, hi, h1, h4, hno, hD, hC1, hx⟩
 have hm4 := h4
 refine W.seq (W.seq (W.region (WL.c rfl (o_mvh h4 (WL.c rfl (o_fa 0 TI25 rfl TI23 rfl h1 (WL.c rfl (o_ld TI23 rfl rfl (cell_of hC1 rfl) (WL.c rfl (o_lenR TI23 rfl hD.row (WL.c rfl (o_lt rfl rfl (WL.nil (W.cond rfl (fun c16 => ?_) (fun c16 => ?_)))))))))))))))
 ·try simp only [cs8] at c16
  have hi1 : i < D.length := by omega
  obtain ⟨tb, to_, tc, rfl, htc, hty⟩ := hD.atk hi1
  have hnm := hlim.nm _ (List.getElem_mem hi1)
  have hex := hlim.ex _ (List.getElem_mem hi1)
  have htl := hlim.ty _ (List.getElem_mem hi1)
  obtain ⟨js, hjs, hji⟩ := where_self hi1
  refine W.skip (W.seq (W.block (W.seq ?_)))
  obtain ⟨wd, hwd⟩ : ∃ wd, wd = w.drew := ⟨_, rfl⟩
  have hxd : Ext w wd := hwd ▸ Only.drew w
  replace hx := hx.tr hxd
  replace hD := hD.ext hxd
  replace hC1 := hxd.blk hC1 (fun h => h)
  replace hty := hty.ext hxd
  replace htc := Cells.only htc hxd (fun h => h)
  refine W.draw (Ext) [(1, fun v _ => v = _), (4, fun v _ => v = _)] rfl (by kernel_rfl) (Only.refl No) (fun _ _ _ h k => h.trans k) ⟨Mono.eq, Mono.eq, trivial⟩ ⟨h1, h4, trivial⟩ (WD.p rfl (fun e w hR hh => by obtain ⟨h1, -⟩ := hh; rw [← hwd] at hR; exact SG.n (o_ldA TI25 rfl h1 (show Cells _ b1 0 [.slice (some ⟨tb, to_, none⟩) D.length tc] from Cells.of (hR.blk hC1 (fun h => h)) 0 _ (by simp)) rfl ⟨rfl, Only.refl No _⟩)) (WD.p rfl (fun e w hR hh => by obtain ⟨h1, -⟩ := hh; exact SG.n (o_fa 0 TI25 rfl TI23 rfl h1 ⟨rfl, Only.refl No _⟩)) (WD.p rfl (fun e w hR hh => by obtain ⟨h21, -⟩ := hh; rw [← hwd] at hR; exact SG.n (o_ld TI23 rfl h21 (cell_of (hR.blk hC1 (fun h => h)) rfl) ⟨rfl, Only.refl No _⟩)) (WD.p rfl (fun e w hR hh => by obtain ⟨h4, -⟩ := hh; exact SG.n (o_mvh h4 ⟨rfl, Only.refl No _⟩)) (WD.p rfl (fun e w hR hh => by obtain ⟨h23, h22, -⟩ := hh; exact SG.n (o_ixB (i := i) TI23 TI39 h22 h23 (by omega) ⟨rfl, Only.refl No _⟩)) (WD.p rfl (fun e w hR hh => by obtain ⟨h24, -⟩ := hh; exact SG.n (o_fa 0 TI39 rfl TI9 rfl h24 ⟨rfl, Only.refl No _⟩)) (WD.p rfl (fun e w hR hh => by obtain ⟨h25, -⟩ := hh; rw [← hwd] at hR; exact SG.n (o_ld TI9 rfl h25 (Cells.only htc hR (fun h => h) 0 _ rfl) ⟨rfl, Only.refl No _⟩)) (WD.p rfl (fun e w hR hh => by obtain ⟨h26, h20, -⟩ := hh; rw [← hwd] at hR; exact SG.n (o_call Try.call87 (lc h20 (lc h26 ln)) ((rfind_call D _ V D[i].name _ (hD.ext hR) hlen hjs).mono (fun v w' ⟨h1, h2⟩ => ⟨h1, h2⟩)))) (WD.p rfl (fun e w hR hh => by obtain ⟨h27, -⟩ := hh; exact SG.n (o_mvh h27 ⟨rfl, Only.refl No _⟩)) (WD.p rfl (fun e w hR hh => by obtain ⟨h19, -⟩ := hh; exact SG.n (o_ext h19 rfl ⟨rfl, Only.refl No _⟩)) (WD.p rfl (fun e w hR hh => by obtain ⟨h19, -⟩ := hh; exact SG.n (o_ext h19 rfl ⟨rfl, Only.refl No _⟩)) (WD.p rfl (fun e w hR hh => by obtain ⟨h28, -⟩ := hh; exact SG.n (o_ash h28 ⟨rfl, Only.refl No _⟩)) (WD.p rfl (fun e w hR hh => by obtain ⟨h29, -⟩ := hh; exact SG.n (o_ash h29 ⟨rfl, Only.refl No _⟩)) ?_)))))))))))))
  rintro e w hR ⟨h6, h5, h29, h28, h19, h27, h26, h25, h24, h23, h22, h21, h20, h1, h4, -⟩
  rw [← hwd] at hR
  replace hx := hx.tr hR
  replace hD := hD.ext hR
  replace hC1 := hR.blk hC1 (fun h => h)
  replace hty := hty.ext hR
  replace htc := Cells.only htc hR (fun h => h)
  refine W.seq (W.seq (W.region (WL.c rfl (o_mvh h5 (WL.c rfl (o_mvh h4 (WL.c rfl (o_lt rfl rfl (WL.nil (W.cond rfl (fun c32 => ?_) (fun c32 => ?_)))))))))))
  ·try simp only [cs8] at c32
   have hwi : ¬ whereN D D[i].name = some i := by intro h; rw [hjs] at h; cases h; omega
   refine W.seq (W.quiet rfl (by kernel_rfl) (WQ.c rfl ((QO.o rfl fun _ => o_fa 0 TI25 rfl TI23 rfl h1 ⟨rfl, rfl⟩)) (WQ.c rfl ((QO.o rfl fun _ => o_ld TI23 rfl rfl (cell_of hC1 rfl) ⟨rfl, rfl⟩)) (WQ.c rfl ((QO.o rfl fun _ => o_mvh h4 ⟨rfl, rfl⟩)) (WQ.c rfl ((QO.o rfl fun _ => o_ixB TI23 TI39 rfl rfl (by omega) ⟨rfl, rfl⟩)) (WQ.c rfl ((QO.o rfl fun _ => o_fa 1 TI39 rfl TI3 rfl rfl ⟨rfl, rfl⟩)) (WQ.c rfl ((QO.o rfl fun _ => o_ld TI3 rfl rfl (htc 1 _ rfl) ⟨rfl, rfl⟩)) (WQ.c rfl ((QO.o rfl fun _ => o_ash vI ⟨rfl, rfl⟩)) (WQ.c rfl ((QO.o rfl fun _ => o_ash vI ⟨rfl, rfl⟩)) (WQ.nil ?_))))))))))
   intro nq
   replace hx := hx.tr (Only.drewN w nq)
   refine W.ret (ret2v rfl vI vI ?_)
   exact ⟨80, D[i].at_, rfl, by rw [resF_hit hi1 (defF_twice hi1 hwi) hno]; rfl, hx⟩
  try simp only [cs8] at c32
  have hwi : whereN D D[i].name = some i := by rw [hjs, show js = i by omega]
  refine W.skip (W.seq (W.region (WL.c rfl (o_fa 0 TI25 rfl TI23 rfl h1 (WL.c rfl (o_ld TI23 rfl rfl (cell_of hC1 rfl) (WL.c rfl (o_mvh h4 (WL.c rfl (o_ixB TI23 TI39 rfl rfl (by omega) (WL.c rfl (o_fa 2 TI39 rfl TI37 rfl rfl (WL.c rfl (o_ld TI37 rfl rfl (htc 2 _ rfl) (WL.c rfl (o_ash (by first | exact vS | exact rfl) (WL.nil (W.seq (W.region (WL.c rfl (o_mvh (by first | exact vS | exact rfl) (WL.c rfl (o_call Try.call88 (lc rfl ln) ((parents_spec (T i) D[i].ty (V i) 0 0 _ (hT.wf i hi1) (by rw [hT.fl i hi1, tyD_at hi1]) hty htl).mono ?_))))))))))))))))))))))))
  rintro v46 w46 ⟨pf, hof, hsnd, hcmp, hx46⟩
  have hfl := hT.fl i hi1
  rw [tyD_at hi1] at hfl
  replace hx := hx.tr hx46
  replace hD := hD.ext hx46
  replace hC1 := hx46.blk hC1 (fun h => h)
  replace hty := hty.ext hx46
  refine WL.c rfl (o_ash (by first | exact vS | exact rfl) (WL.nil (W.seq (W.region (WL.c rfl (o_ash vI (WL.nil (W.block (W.loop (fun e w => ∃ q : Nat, q ≤ D[i].ty.length ∧ e 1 = .pointer (some ⟨b1, 0, none⟩) ∧ e 4 = .int .i64 (i : Int) ∧ e 7 = V i ∧ e 8 = v46 ∧ e 9 = .int .i64 (q : Int) ∧ (∀ j, j < q → nodeF D (dupT (T i) 0) D[i].ty j = none) ∧ Sl w 1 v46 D[i].ty.length (pz D[i].ty.length pf) ∧ Sl w 7 (V i) D[i].ty.length (exs D[i].ty) ∧ DefR w D (.slice (some ⟨tb, to_, none⟩) D.length tc) V ∧ w.heap[b1]? = some (.cells #[.slice (some ⟨tb, to_, none⟩) D.length tc] 25 (0, 0)) ∧ Ext w0 w) (fun e w => D[i].ty.length - (intOf (e 9)).toNat) ?_ ?_)))))))))
  ·exact ⟨0, Nat.zero_le _, h1, h4, rfl, rfl, rfl, fun j hj => by omega, Sl.own hof, hty, hD, hC1, hx⟩
  rintro e w ⟨q, hq, h1, h4, h7, h8, h9, hnn, hof, hty, hD, hC1, hx⟩
  have hm9 := h9
  refine W.seq (W.seq (W.region (WL.c rfl (o_mvh h9 (WL.c rfl (o_mvh h7 (WL.c rfl (o_lenR TI37 rfl hty (WL.c rfl (o_lt rfl rfl (WL.nil (W.cond rfl (fun c50 => ?_) (fun c50 => ?_)))))))))))))
  ·try simp only [cs8] at c50
   have hq1 : q < D[i].ty.length := by omega
   obtain ⟨ub, uo, uc, hV1, huc⟩ := Sl.exq hty hq1
   obtain ⟨ob, oo, oc, hVo, hoc⟩ := Sl.at1 hof hq1 (pz_at hq1)
   rw [hV1] at h7
   rw [hVo] at h8
   have hnk := (hex _ (List.getElem_mem hq1)).1
   have hnf := nodeF_at (D := D) (dup := dupT (T i) 0) hq1
   have hsl := hty
   rw [hV1] at hsl
   refine W.skip (W.seq (W.block (W.seq (W.seq ?_))))
   rcases hsnd q hq1 with hpf | ⟨ke, hke, hkp, hk7, hpf⟩
   ·skip
    have hnd := Snd.dup (i := q) hcmp (by rw [hfl]) (hT.wf i hi1) hpf
    refine W.region (WL.c rfl (o_mvh h8 (WL.c rfl (o_mvh h9 (WL.c rfl (o_ixB (i := q) TI79 TI3 (show _ = Value.slice (some ⟨ob, oo, none⟩) D[i].ty.length oc from rfl) (show _ = Value.int .i64 (q : Int) from rfl) (by omega) (WL.c rfl (o_ld TI3 rfl rfl hoc (WL.c rfl (o_ge rfl rfl (WL.c rfl (o_mvh vB (WL.s rfl (by rw [hpf]; rfl) rfl (WL.s rfl (by rw [hpf]; rfl) rfl (WL.s rfl (by rw [hpf]; rfl) rfl (WL.s rfl (by rw [hpf]; rfl) rfl (WL.s rfl (by rw [hpf]; rfl) rfl (WL.s rfl (by rw [hpf]; rfl) rfl (WL.s rfl (by rw [hpf]; rfl) rfl (WL.c rfl (o_pickF rfl (by rw [hpf]; rfl) (WL.nil (W.condF' rfl (rfl) (W.skip (W.seq (W.region (WL.c rfl (o_mvh h7 (WL.c rfl (o_mvh h9 (WL.c rfl (o_ixB (i := q) TI37 TI41 (show _ = Value.slice (some ⟨ub, uo, none⟩) D[i].ty.length uc from rfl) (show _ = Value.int .i64 (q : Int) from rfl) (by omega) (WL.c rfl (o_fa 0 TI41 rfl TI3 rfl rfl (WL.c rfl (o_ld TI3 rfl rfl (huc 0 _ rfl) (WL.c rfl (o_eq rfl rfl (WL.nil (W.cond rfl (fun c77 => ?_) (fun c77 => ?_)))))))))))))))))))))))))))))))))))))))))
    ·try simp only [cs8] at c77
     have hk9 : D[i].ty[q].kind = 9 := by simpa using c77
     obtain ⟨fk, fe, hfk⟩ : ∃ (k : Nat) (e : Int), (k, e) = ((whereN D D[i].ty[q].name).getD 0, (if (whereN D D[i].ty[q].name).isSome then 0 else 81)) := ⟨_, _, rfl⟩
     have hfk1 := congrArg Prod.fst hfk
     have hfk2 := congrArg Prod.snd hfk
     refine W.seq ?_
     obtain ⟨wd, hwd⟩ : ∃ wd, wd = w.drew := ⟨_, rfl⟩
     have hxd : Ext w wd := hwd ▸ Only.drew w
     replace hx := hx.tr hxd
     replace hD := hD.ext hxd
     replace hC1 := hxd.blk hC1 (fun h => h)
     replace hty := hty.ext hxd
     replace hof := hof.ext hxd
     replace huc := Cells.only huc hxd (fun h => h)
     refine W.draw (Ext) [(1, fun v _ => v = _), (4, fun v _ => v = _), (7, fun v _ => v = _), (8, fun v _ => v = _), (9, fun v _ => v = _)] rfl (by kernel_rfl) (Only.refl No) (fun _ _ _ h k => h.trans k) ⟨Mono.eq, Mono.eq, Mono.eq, Mono.eq, Mono.eq, trivial⟩ ⟨h1, h4, h7, h8, h9, trivial⟩ (WD.p rfl (fun e w hR hh => by obtain ⟨h1, -⟩ := hh; rw [← hwd] at hR; exact SG.n (o_ldA TI25 rfl h1 (show Cells _ b1 0 [.slice (some ⟨tb, to_, none⟩) D.length tc] from Cells.of (hR.blk hC1 (fun h => h)) 0 _ (by simp)) rfl ⟨rfl, Only.refl No _⟩)) (WD.p rfl (fun e w hR hh => by obtain ⟨h7, -⟩ := hh; exact SG.n (o_mvh h7 ⟨rfl, Only.refl No _⟩)) (WD.p rfl (fun e w hR hh => by obtain ⟨h9, -⟩ := hh; exact SG.n (o_mvh h9 ⟨rfl, Only.refl No _⟩)) (WD.p rfl (fun e w hR hh => by obtain ⟨h81, h80, -⟩ := hh; exact SG.n (o_ixB (i := q) TI37 TI41 h80 h81 (by omega) ⟨rfl, Only.refl No _⟩)) (WD.p rfl (fun e w hR hh => by obtain ⟨h82, -⟩ := hh; exact SG.n (o_fa 2 TI41 rfl TI9 rfl h82 ⟨rfl, Only.refl No _⟩)) (WD.p rfl (fun e w hR hh => by obtain ⟨h83, -⟩ := hh; rw [← hwd] at hR; exact SG.n (o_ld TI9 rfl h83 (Cells.only huc hR (fun h => h) 2 _ rfl) ⟨rfl, Only.refl No _⟩)) (WD.p rfl (fun e w hR hh => by obtain ⟨h84, h79, -⟩ := hh; rw [← hwd] at hR; exact SG.n (o_call Try.call87 (lc h79 (lc h84 ln)) ((rfind_code D _ V D[i].ty[q].name _ (hD.ext hR) hlen hfk1 hfk2).mono (fun v w' ⟨h1, h2⟩ => ⟨h1, h2⟩)))) (WD.p rfl (fun e w hR hh => by obtain ⟨h85, -⟩ := hh; exact SG.n (o_mvh h85 ⟨rfl, Only.refl No _⟩)) (WD.p rfl (fun e w hR hh => by obtain ⟨h78, -⟩ := hh; exact SG.n (o_ext h78 rfl ⟨rfl, Only.refl No _⟩)) (WD.p rfl (fun e w hR hh => by obtain ⟨h78, -⟩ := hh; exact SG.n (o_ext h78 rfl ⟨rfl, Only.refl No _⟩)) (WD.p rfl (fun e w hR hh => by obtain ⟨h86, -⟩ := hh; exact SG.n (o_ash h86 ⟨rfl, Only.refl No _⟩)) (WD.p rfl (fun e w hR hh => by obtain ⟨h87, -⟩ := hh; exact SG.n (o_ash h87 ⟨rfl, Only.refl No _⟩)) ?_))))))))))))
     rintro e w hR ⟨h11, h10, h87, h86, h78, h85, h84, h83, h82, h81, h80, h79, h1, h4, h7, h8, h9, -⟩
     rw [← hwd] at hR
     replace hx := hx.tr hR
     replace hD := hD.ext hR
     replace hC1 := hR.blk hC1 (fun h => h)
     replace hty := hty.ext hR
     replace hof := hof.ext hR
     replace huc := Cells.only huc hR (fun h => h)
     refine W.seq (W.region (WL.c rfl (o_mvh h11 (WL.c rfl (o_ne rfl rfl (WL.nil (W.cond rfl (fun c89 => ?_) (fun c89 => ?_))))))))
     ·try simp only [cs8] at c89
      have hwn : whereN D D[i].ty[q].name = none := by
       cases hw : whereN D D[i].ty[q].name with
       | none => rfl
       | some k =>
        rw [hw] at hfk2
        simp at hfk2
        simp [hfk2] at c89
      refine W.seq (W.quiet rfl (by kernel_rfl) (WQ.c rfl ((QO.o rfl fun _ => o_mvh h7 ⟨rfl, rfl⟩)) (WQ.c rfl ((QO.o rfl fun _ => o_mvh h9 ⟨rfl, rfl⟩)) (WQ.c rfl ((QO.o rfl fun _ => o_ixB (i := q) TI37 TI41 (show _ = Value.slice (some ⟨ub, uo, none⟩) D[i].ty.length uc from rfl) (show _ = Value.int .i64 (q : Int) from rfl) (by omega) ⟨rfl, rfl⟩)) (WQ.c rfl ((QO.o rfl fun _ => o_fa 6 TI41 rfl TI3 rfl rfl ⟨rfl, rfl⟩)) (WQ.c rfl ((QO.o rfl fun _ => o_ld TI3 rfl rfl (huc 6 _ rfl) ⟨rfl, rfl⟩)) (WQ.c rfl ((QO.o rfl fun _ => o_ash vI ⟨rfl, rfl⟩)) (WQ.c rfl ((QO.o rfl fun _ => o_ash vI ⟨rfl, rfl⟩)) (WQ.nil ?_)))))))))
      intro nq
      replace hx := hx.tr (Only.drewN _ nq)
      refine W.ret (ret2v rfl vI vI ?_)
      exact ⟨81, D[i].ty[q].at_, rfl, by rw [resF_hit hi1 (show defF D T i = some (81, D[i].ty[q].at_) by rw [defF_nodes hi1 hwi]; exact firstN_hit hq1 (by rw [hnf, if_neg hnd, if_pos ⟨hk9, hwn⟩]) hnn) hno]; rfl, hx⟩
     try simp only [cs8] at c89
     have hwn : ¬ whereN D D[i].ty[q].name = none := by
      intro hw
      rw [hw] at hfk2
      simp at hfk2
      simp [hfk2] at c89
     have hnq : nodeF D (dupT (T i) 0) D[i].ty q = none := by rw [hnf, if_neg hnd, if_neg (fun h => hwn h.2)]
     refine W.skip (W.region (WL.c rfl (o_mvh h9 (WL.c rfl (o_addi rfl rfl (by omega) (WL.c rfl (o_ash vI (WL.nil (⟨⟨q + 1, by omega, h1, h4, h7.trans hV1.symm, h8.trans hVo.symm, rfl, fun j hj => ?_, hof, hty, hD, hC1, hx⟩, ?_⟩)))))))))
     ·rcases Nat.lt_or_ge j q with h | h
      ·exact hnn j h
      rw [show j = q by omega]; exact hnq
     show D[i].ty.length - ((q : Int) + 1).toNat < _
     rw [hm9]; simp [intOf]; omega
    try simp only [cs8] at c77
    have hk9 : ¬ D[i].ty[q].kind = 9 := by simpa using c77
    have hnq : nodeF D (dupT (T i) 0) D[i].ty q = none := by rw [hnf, if_neg hnd, if_neg (fun h => hk9 h.1)]
    refine W.skip (W.region (WL.c rfl (o_mvh h9 (WL.c rfl (o_addi rfl rfl (by omega) (WL.c rfl (o_ash vI (WL.nil (⟨⟨q + 1, by omega, h1, h4, h7.trans hV1.symm, h8.trans hVo.symm, rfl, fun j hj => ?_, hof, hty, hD, hC1, hx⟩, ?_⟩)))))))))
    ·rcases Nat.lt_or_ge j q with h | h
     ·exact hnn j h
     rw [show j = q by omega]; exact hnq
    show D[i].ty.length - ((q : Int) + 1).toNat < _
    rw [hm9]; simp [intOf]; omega
   skip
   obtain ⟨y, ks, r, a2, d2, hwn, hdn, hkt, hki⟩ := kid_node (hT.wf i hi1) hke
   rw [hfl] at hdn hki
   have hdi := dup_iff hke
   rw [hkp] at hdi
   rw [hpf] at hoc
   refine W.region (WL.c rfl (o_mvh h8 (WL.c rfl (o_mvh h9 (WL.c rfl (o_ixB (i := q) TI79 TI3 (show _ = Value.slice (some ⟨ob, oo, none⟩) D[i].ty.length oc from rfl) (show _ = Value.int .i64 (q : Int) from rfl) (by omega) (WL.c rfl (o_ld TI3 rfl rfl hoc (WL.c rfl (o_ge rfl rfl (WL.c rfl (o_mvh vB (WL.g rfl (decide_eq_true (by omega)) rfl (o_mvh h7 (WL.g rfl (decide_eq_true (by omega)) rfl (o_mvh h8 (WL.g rfl (decide_eq_true (by omega)) rfl (o_mvh h9 (WL.g rfl (decide_eq_true (by omega)) rfl (o_ixB (i := q) TI79 TI3 (show _ = Value.slice (some ⟨ob, oo, none⟩) D[i].ty.length oc from rfl) (show _ = Value.int .i64 (q : Int) from rfl) (by omega) (WL.g rfl (decide_eq_true (by omega)) rfl (o_ld TI3 rfl rfl hoc (WL.g rfl (decide_eq_true (by omega)) rfl (o_mvh h9 (WL.g rfl (decide_eq_true (by omega)) rfl (o_call Try.call89 (lc rfl (lc rfl (lc rfl ln))) (((hkp ▸ rtwice_spec y ks D[i].ty r (.slice (some ⟨ub, uo, none⟩) D[i].ty.length uc) ke.i a2 d2 ke _ hwn hdn hsl htl hkt : Ca _ _ #[_, .int .i64 (ke.i : Int), .int .i64 (q : Int)] _ _)).mono ?_)))))))))))))))))))))))))))
   rintro v65 w65 ⟨rfl, hx65⟩
   replace hof := hof.ext hx65
   replace hsl := hsl.ext hx65
   replace huc := Cells.only huc hx65 (fun h => h)
   replace hx := hx.tr hx65
   replace hD := hD.ext hx65
   replace hC1 := hx65.blk hC1 (fun h => h)
   replace hty := hty.ext hx65
   refine WL.c rfl (o_pickA rfl rfl (WL.nil (W.cond rfl (fun c66 => ?_) (fun c66 => ?_))))
   ·try simp only [cs8] at c66
    have hdup : q ∈ dupT (T i) 0 := hdi.2 (by simpa using c66)
    refine W.seq (W.quiet rfl (by kernel_rfl) (WQ.c rfl ((QO.o rfl fun _ => o_mvh h7 ⟨rfl, rfl⟩)) (WQ.c rfl ((QO.o rfl fun _ => o_mvh h9 ⟨rfl, rfl⟩)) (WQ.c rfl ((QO.o rfl fun _ => o_ixB (i := q) TI37 TI41 (show _ = Value.slice (some ⟨ub, uo, none⟩) D[i].ty.length uc from rfl) (show _ = Value.int .i64 (q : Int) from rfl) (by omega) ⟨rfl, rfl⟩)) (WQ.c rfl ((QO.o rfl fun _ => o_fa 6 TI41 rfl TI3 rfl rfl ⟨rfl, rfl⟩)) (WQ.c rfl ((QO.o rfl fun _ => o_ld TI3 rfl rfl (huc 6 _ rfl) ⟨rfl, rfl⟩)) (WQ.c rfl ((QO.o rfl fun _ => o_ash vI ⟨rfl, rfl⟩)) (WQ.c rfl ((QO.o rfl fun _ => o_ash vI ⟨rfl, rfl⟩)) (WQ.nil ?_)))))))))
    intro nq
    replace hx := hx.tr (Only.drewN _ nq)
    refine W.ret (ret2v rfl vI vI ?_)
    exact ⟨80, D[i].ty[q].at_, rfl, by rw [resF_hit hi1 (show defF D T i = some (80, D[i].ty[q].at_) by rw [defF_nodes hi1 hwi]; exact firstN_hit hq1 (by rw [hnf, if_pos hdup]) hnn) hno]; rfl, hx⟩
   try simp only [cs8] at c66
   have hnd : ¬ q ∈ dupT (T i) 0 := fun h => by have h1 := hdi.1 h; simp [h1] at c66
   refine W.skip (W.seq (W.region (WL.c rfl (o_mvh h7 (WL.c rfl (o_mvh h9 (WL.c rfl (o_ixB (i := q) TI37 TI41 (show _ = Value.slice (some ⟨ub, uo, none⟩) D[i].ty.length uc from rfl) (show _ = Value.int .i64 (q : Int) from rfl) (by omega) (WL.c rfl (o_fa 0 TI41 rfl TI3 rfl rfl (WL.c rfl (o_ld TI3 rfl rfl (huc 0 _ rfl) (WL.c rfl (o_eq rfl rfl (WL.nil (W.cond rfl (fun c77 => ?_) (fun c77 => ?_)))))))))))))))))
   ·try simp only [cs8] at c77
    have hk9 : D[i].ty[q].kind = 9 := by simpa using c77
    obtain ⟨fk, fe, hfk⟩ : ∃ (k : Nat) (e : Int), (k, e) = ((whereN D D[i].ty[q].name).getD 0, (if (whereN D D[i].ty[q].name).isSome then 0 else 81)) := ⟨_, _, rfl⟩
    have hfk1 := congrArg Prod.fst hfk
    have hfk2 := congrArg Prod.snd hfk
    refine W.seq ?_
    obtain ⟨wd, hwd⟩ : ∃ wd, wd = w65.drew := ⟨_, rfl⟩
    have hxd : Ext w65 wd := hwd ▸ Only.drew w65
    replace hx := hx.tr hxd
    replace hD := hD.ext hxd
    replace hC1 := hxd.blk hC1 (fun h => h)
    replace hty := hty.ext hxd
    replace hof := hof.ext hxd
    replace huc := Cells.only huc hxd (fun h => h)
    refine W.draw (Ext) [(1, fun v _ => v = _), (4, fun v _ => v = _), (7, fun v _ => v = _), (8, fun v _ => v = _), (9, fun v _ => v = _)] rfl (by kernel_rfl) (Only.refl No) (fun _ _ _ h k => h.trans k) ⟨Mono.eq, Mono.eq, Mono.eq, Mono.eq, Mono.eq, trivial⟩ ⟨h1, h4, h7, h8, h9, trivial⟩ (WD.p rfl (fun e w hR hh => by obtain ⟨h1, -⟩ := hh; rw [← hwd] at hR; exact SG.n (o_ldA TI25 rfl h1 (show Cells _ b1 0 [.slice (some ⟨tb, to_, none⟩) D.length tc] from Cells.of (hR.blk hC1 (fun h => h)) 0 _ (by simp)) rfl ⟨rfl, Only.refl No _⟩)) (WD.p rfl (fun e w hR hh => by obtain ⟨h7, -⟩ := hh; exact SG.n (o_mvh h7 ⟨rfl, Only.refl No _⟩)) (WD.p rfl (fun e w hR hh => by obtain ⟨h9, -⟩ := hh; exact SG.n (o_mvh h9 ⟨rfl, Only.refl No _⟩)) (WD.p rfl (fun e w hR hh => by obtain ⟨h81, h80, -⟩ := hh; exact SG.n (o_ixB (i := q) TI37 TI41 h80 h81 (by omega) ⟨rfl, Only.refl No _⟩)) (WD.p rfl (fun e w hR hh => by obtain ⟨h82, -⟩ := hh; exact SG.n (o_fa 2 TI41 rfl TI9 rfl h82 ⟨rfl, Only.refl No _⟩)) (WD.p rfl (fun e w hR hh => by obtain ⟨h83, -⟩ := hh; rw [← hwd] at hR; exact SG.n (o_ld TI9 rfl h83 (Cells.only huc hR (fun h => h) 2 _ rfl) ⟨rfl, Only.refl No _⟩)) (WD.p rfl (fun e w hR hh => by obtain ⟨h84, h79, -⟩ := hh; rw [← hwd] at hR; exact SG.n (o_call Try.call87 (lc h79 (lc h84 ln)) ((rfind_code D _ V D[i].ty[q].name _ (hD.ext hR) hlen hfk1 hfk2).mono (fun v w' ⟨h1, h2⟩ => ⟨h1, h2⟩)))) (WD.p rfl (fun e w hR hh => by obtain ⟨h85, -⟩ := hh; exact SG.n (o_mvh h85 ⟨rfl, Only.refl No _⟩)) (WD.p rfl (fun e w hR hh => by obtain ⟨h78, -⟩ := hh; exact SG.n (o_ext h78 rfl ⟨rfl, Only.refl No _⟩)) (WD.p rfl (fun e w hR hh => by obtain ⟨h78, -⟩ := hh; exact SG.n (o_ext h78 rfl ⟨rfl, Only.refl No _⟩)) (WD.p rfl (fun e w hR hh => by obtain ⟨h86, -⟩ := hh; exact SG.n (o_ash h86 ⟨rfl, Only.refl No _⟩)) (WD.p rfl (fun e w hR hh => by obtain ⟨h87, -⟩ := hh; exact SG.n (o_ash h87 ⟨rfl, Only.refl No _⟩)) ?_))))))))))))
    rintro e w hR ⟨h11, h10, h87, h86, h78, h85, h84, h83, h82, h81, h80, h79, h1, h4, h7, h8, h9, -⟩
    rw [← hwd] at hR
    replace hx := hx.tr hR
    replace hD := hD.ext hR
    replace hC1 := hR.blk hC1 (fun h => h)
    replace hty := hty.ext hR
    replace hof := hof.ext hR
    replace huc := Cells.only huc hR (fun h => h)
    refine W.seq (W.region (WL.c rfl (o_mvh h11 (WL.c rfl (o_ne rfl rfl (WL.nil (W.cond rfl (fun c89 => ?_) (fun c89 => ?_))))))))
    ·try simp only [cs8] at c89
     have hwn : whereN D D[i].ty[q].name = none := by
      cases hw : whereN D D[i].ty[q].name with
      | none => rfl
      | some k =>
       rw [hw] at hfk2
       simp at hfk2
       simp [hfk2] at c89
     refine W.seq (W.quiet rfl (by kernel_rfl) (WQ.c rfl ((QO.o rfl fun _ => o_mvh h7 ⟨rfl, rfl⟩)) (WQ.c rfl ((QO.o rfl fun _ => o_mvh h9 ⟨rfl, rfl⟩)) (WQ.c rfl ((QO.o rfl fun _ => o_ixB (i := q) TI37 TI41 (show _ = Value.slice (some ⟨ub, uo, none⟩) D[i].ty.length uc from rfl) (show _ = Value.int .i64 (q : Int) from rfl) (by omega) ⟨rfl, rfl⟩)) (WQ.c rfl ((QO.o rfl fun _ => o_fa 6 TI41 rfl TI3 rfl rfl ⟨rfl, rfl⟩)) (WQ.c rfl ((QO.o rfl fun _ => o_ld TI3 rfl rfl (huc 6 _ rfl) ⟨rfl, rfl⟩)) (WQ.c rfl ((QO.o rfl fun _ => o_ash vI ⟨rfl, rfl⟩)) (WQ.c rfl ((QO.o rfl fun _ => o_ash vI ⟨rfl, rfl⟩)) (WQ.nil ?_)))))))))
     intro nq
     replace hx := hx.tr (Only.drewN _ nq)
     refine W.ret (ret2v rfl vI vI ?_)
     exact ⟨81, D[i].ty[q].at_, rfl, by rw [resF_hit hi1 (show defF D T i = some (81, D[i].ty[q].at_) by rw [defF_nodes hi1 hwi]; exact firstN_hit hq1 (by rw [hnf, if_neg hnd, if_pos ⟨hk9, hwn⟩]) hnn) hno]; rfl, hx⟩
    try simp only [cs8] at c89
    have hwn : ¬ whereN D D[i].ty[q].name = none := by
     intro hw
     rw [hw] at hfk2
     simp at hfk2
     simp [hfk2] at c89
    have hnq : nodeF D (dupT (T i) 0) D[i].ty q = none := by rw [hnf, if_neg hnd, if_neg (fun h => hwn h.2)]
    refine W.skip (W.region (WL.c rfl (o_mvh h9 (WL.c rfl (o_addi rfl rfl (by omega) (WL.c rfl (o_ash vI (WL.nil (⟨⟨q + 1, by omega, h1, h4, h7.trans hV1.symm, h8.trans hVo.symm, rfl, fun j hj => ?_, hof, hty, hD, hC1, hx⟩, ?_⟩)))))))))
    ·rcases Nat.lt_or_ge j q with h | h
     ·exact hnn j h
     rw [show j = q by omega]; exact hnq
    show D[i].ty.length - ((q : Int) + 1).toNat < _
    rw [hm9]; simp [intOf]; omega
   try simp only [cs8] at c77
   have hk9 : ¬ D[i].ty[q].kind = 9 := by simpa using c77
   have hnq : nodeF D (dupT (T i) 0) D[i].ty q = none := by rw [hnf, if_neg hnd, if_neg (fun h => hk9 h.1)]
   refine W.skip (W.region (WL.c rfl (o_mvh h9 (WL.c rfl (o_addi rfl rfl (by omega) (WL.c rfl (o_ash vI (WL.nil (⟨⟨q + 1, by omega, h1, h4, h7.trans hV1.symm, h8.trans hVo.symm, rfl, fun j hj => ?_, hof, hty, hD, hC1, hx⟩, ?_⟩)))))))))
   ·rcases Nat.lt_or_ge j q with h | h
    ·exact hnn j h
    rw [show j = q by omega]; exact hnq
   show D[i].ty.length - ((q : Int) + 1).toNat < _
   rw [hm9]; simp [intOf]; omega
  try simp only [cs8] at c50
  have hq1 : q = D[i].ty.length := by omega
  rw [hq1] at hnn
  refine W.exit (W.region (WL.c rfl (o_mvh h4 (WL.c rfl (o_addi rfl rfl (by omega) (WL.c rfl (o_ash vI (WL.nil (⟨⟨i + 1, by omega, h1, rfl, fun j hj => ?_, hD, hC1, hx⟩, ?_⟩)))))))))
  ·rcases Nat.lt_or_ge j i with h | h
   ·exact hno j h
   rw [show j = i by omega, defF_nodes hi1 hwi]; exact firstN_miss hnn
  show D.length - ((i : Int) + 1).toNat < _
  rw [hm4]; simp [intOf]; omega
 try simp only [cs8] at c16
 have hi1 : i = D.length := by omega
 have hnone : resF D T = none := resF_miss (fun j hj => hno j (by omega))
 refine W.exit (W.seq (W.region (WL.c rfl (o_ash vI (WL.c rfl (o_ash vI (WL.nil (W.ret (ret2v rfl vI vI ?_)))))))))
 exact ⟨0, 0, rfl, by rw [hnone]; rfl, hx⟩
end Go.Proofs.Ytpbflfgigfdohaa

namespace Go.Proofs.Ytpbflfgigfdohaa
open Go Go.Vc Go.RowKit Go.Proofs
set_option maxHeartbeats 1000000 in
theorem ruses_spec (i : Nat) (D : List Df) (dv : Value) (V : Nat → Value) (w0 : World) (hD : DefR w0 D dv V) (hlim : DOk D) (hi : i < D.length) : Ca Try.prog 90 #[.agg #[dv], .int .i64 (i : Int)] w0 (fun v w' => w'.ownsRow w0.heap.size 3 1 v (usesD D i).length ((usesD D i).map iv) ∧ Ext w0 w') := by
 have hlen := hlim.len
 have htl := hlim.ty _ (List.getElem_mem hi)
 have hnm := hlim.ex _ (List.getElem_mem hi)
 obtain ⟨tb, to_, tc, rfl, htc, hty⟩ := hD.atk hi
 obtain ⟨BB, hBB⟩ : ∃ B, B = w0.heap.size := ⟨_, rfl⟩
 rw [← hBB]
 have hD00 := hD
 have hty00 := hty
 refine Ca.of Try.func90 Try.ntmps90 rfl rfl (W.seq (W.region (WL.c rfl (o_boxB rfl ?_))))
 intro w2 hC2 hx2 hs2
 obtain ⟨b2, hb2⟩ : ∃ b, b = w0.heap.size := ⟨_, rfl⟩
 rw [← hb2] at hC2 ⊢
 replace hC2 : w2.heap[b2]? = some (.cells ([.slice (some ⟨tb, to_, none⟩) D.length tc]).toArray 25 (0, 0)) := hC2
 have hx := hx2
 replace hD := hD.ext hx2
 replace hty := hty.ext hx2
 replace htc := Cells.only htc hx2 (fun h => h)
 refine WL.c rfl (o_ash (by first | exact vS | exact rfl) (WL.nil (W.seq (W.region (WL.c rfl (o_ash (by first | exact vS | exact rfl) (WL.nil (W.seq (W.region (WL.c rfl (o_fa 0 TI25 rfl TI23 rfl rfl (WL.c rfl (o_ld TI23 rfl rfl (cell_of hC2 rfl) (WL.c rfl (o_mvh vI (WL.c rfl (o_ixB (i := i) TI23 TI39 (show _ = Value.slice (some ⟨tb, to_, none⟩) D.length tc from rfl) (show _ = Value.int .i64 (i : Int) from rfl) (by omega) (WL.c rfl (o_fa 2 TI39 rfl TI37 rfl rfl (WL.c rfl (o_ld TI37 rfl rfl (htc 2 _ rfl) (WL.c rfl (o_ash (by first | exact vS | exact rfl) (WL.nil (W.seq (W.seq (W.region (WL.c rfl (o_ash vI (WL.nil (W.block (W.loop (fun e w => ∃ (k : Nat) (out : Value), k ≤ D[i].ty.length ∧ e 2 = .pointer (some ⟨b2, 0, none⟩) ∧ e 5 = out ∧ e 6 = V i ∧ e 7 = .int .i64 (k : Int) ∧ DefR w D (.slice (some ⟨tb, to_, none⟩) D.length tc) V ∧ Sl w 7 (V i) D[i].ty.length (exs D[i].ty) ∧ w.ownsRow BB 3 1 out (usesK D D[i].ty k).length ((usesK D D[i].ty k).map iv) ∧ w.heap[b2]? = some (.cells #[.slice (some ⟨tb, to_, none⟩) D.length tc] 25 (0, 0)) ∧ Ext w0 w) (fun e w => D[i].ty.length - (intOf (e 7)).toNat) ?_ ?_))))))))))))))))))))))))))))))))
 ·exact ⟨0, .slice none 0 0, Nat.zero_le _, rfl, rfl, rfl, rfl, hD, hty, World.ownsRow_nil _ _ _ _, hC2, hx⟩
 rintro e w ⟨k, out, hk, h2, h5, h6, h7, hD, hty, hrow, hC2, hx⟩
 have hm7 := h7
 refine W.seq (W.seq (W.region (WL.c rfl (o_mvh h7 (WL.c rfl (o_mvh h6 (WL.c rfl (o_lenR TI37 rfl hty (WL.c rfl (o_lt rfl rfl (WL.nil (W.cond rfl (fun c19 => ?_) (fun c19 => ?_)))))))))))))
 ·try simp only [cs8] at c19
  have hk1 : k < D[i].ty.length := by omega
  obtain ⟨ub, uo, uc, hV1, huc⟩ := Sl.exq hty hk1
  rw [hV1] at h6
  have hnk := (hnm _ (List.getElem_mem hk1)).1
  have hul := usesK_len D D[i].ty k
  refine W.skip (W.seq (W.block (W.seq (W.region (WL.c rfl (o_mvh h6 (WL.c rfl (o_mvh h7 (WL.c rfl (o_ixB (i := k) TI37 TI41 (show _ = Value.slice (some ⟨ub, uo, none⟩) D[i].ty.length uc from rfl) (show _ = Value.int .i64 (k : Int) from rfl) (by omega) (WL.c rfl (o_fa 0 TI41 rfl TI3 rfl rfl (WL.c rfl (o_ld TI3 rfl rfl (huc 0 _ rfl) (WL.c rfl (o_eq rfl rfl (WL.nil (W.cond rfl (fun c27 => ?_) (fun c27 => ?_)))))))))))))))))))
  ·try simp only [cs8] at c27
   have hk9 : D[i].ty[k].kind = 9 := by simpa using c27
   obtain ⟨fk, fe, hfk⟩ : ∃ (k1 : Nat) (e : Int), (k1, e) = ((whereN D D[i].ty[k].name).getD 0, (if (whereN D D[i].ty[k].name).isSome then 0 else 81)) := ⟨_, _, rfl⟩
   have hfk1 := congrArg Prod.fst hfk
   have hfk2 := congrArg Prod.snd hfk
   refine W.seq ?_
   obtain ⟨wd, hwd⟩ : ∃ wd, wd = w.drew := ⟨_, rfl⟩
   have hxd : Ext w wd := hwd ▸ Only.drew w
   replace hx := hx.tr hxd
   replace hD := hD.ext hxd
   replace hC2 := hxd.blk hC2 (fun h => h)
   replace hty := hty.ext hxd
   replace hrow := own_ext hrow hxd
   replace huc := Cells.only huc hxd (fun h => h)
   refine W.draw (Ext) [(2, fun v _ => v = _), (5, fun v _ => v = _), (6, fun v _ => v = _), (7, fun v _ => v = _)] rfl (by kernel_rfl) (Only.refl No) (fun _ _ _ h k => h.trans k) ⟨Mono.eq, Mono.eq, Mono.eq, Mono.eq, trivial⟩ ⟨h2, h5, h6, h7, trivial⟩ (WD.p rfl (fun e w hR hh => by obtain ⟨h2, -⟩ := hh; rw [← hwd] at hR; exact SG.n (o_ldA TI25 rfl h2 (show Cells _ b2 0 [.slice (some ⟨tb, to_, none⟩) D.length tc] from Cells.of (hR.blk hC2 (fun h => h)) 0 _ (by simp)) rfl ⟨rfl, Only.refl No _⟩)) (WD.p rfl (fun e w hR hh => by obtain ⟨h6, -⟩ := hh; exact SG.n (o_mvh h6 ⟨rfl, Only.refl No _⟩)) (WD.p rfl (fun e w hR hh => by obtain ⟨h7, -⟩ := hh; exact SG.n (o_mvh h7 ⟨rfl, Only.refl No _⟩)) (WD.p rfl (fun e w hR hh => by obtain ⟨h31, h30, -⟩ := hh; exact SG.n (o_ixB (i := k) TI37 TI41 h30 h31 (by omega) ⟨rfl, Only.refl No _⟩)) (WD.p rfl (fun e w hR hh => by obtain ⟨h32, -⟩ := hh; exact SG.n (o_fa 2 TI41 rfl TI9 rfl h32 ⟨rfl, Only.refl No _⟩)) (WD.p rfl (fun e w hR hh => by obtain ⟨h33, -⟩ := hh; rw [← hwd] at hR; exact SG.n (o_ld TI9 rfl h33 (Cells.only huc hR (fun h => h) 2 _ rfl) ⟨rfl, Only.refl No _⟩)) (WD.p rfl (fun e w hR hh => by obtain ⟨h34, h29, -⟩ := hh; rw [← hwd] at hR; exact SG.n (o_call Try.call87 (lc h29 (lc h34 ln)) ((rfind_code D _ V D[i].ty[k].name _ (hD.ext hR) hlen hfk1 hfk2).mono (fun v w' ⟨h1, h2⟩ => ⟨h1, h2⟩)))) (WD.p rfl (fun e w hR hh => by obtain ⟨h35, -⟩ := hh; exact SG.n (o_mvh h35 ⟨rfl, Only.refl No _⟩)) (WD.p rfl (fun e w hR hh => by obtain ⟨h28, -⟩ := hh; exact SG.n (o_ext h28 rfl ⟨rfl, Only.refl No _⟩)) (WD.p rfl (fun e w hR hh => by obtain ⟨h28, -⟩ := hh; exact SG.n (o_ext h28 rfl ⟨rfl, Only.refl No _⟩)) (WD.p rfl (fun e w hR hh => by obtain ⟨h36, -⟩ := hh; exact SG.n (o_ash h36 ⟨rfl, Only.refl No _⟩)) (WD.p rfl (fun e w hR hh => by obtain ⟨h37, -⟩ := hh; exact SG.n (o_ash h37 ⟨rfl, Only.refl No _⟩)) ?_))))))))))))
   rintro e w hR ⟨h9, h8, h37, h36, h28, h35, h34, h33, h32, h31, h30, h29, h2, h5, h6, h7, -⟩
   rw [← hwd] at hR
   replace hx := hx.tr hR
   replace hD := hD.ext hR
   replace hC2 := hR.blk hC2 (fun h => h)
   replace hty := hty.ext hR
   replace hrow := own_ext hrow hR
   replace huc := Cells.only huc hR (fun h => h)
   have hD7 := hD
   have hty7 := hty
   have hC7 := hC2
   refine W.region (WL.c rfl (o_mvh h5 (WL.c rfl (o_mvh h8 (WL.apO (BB) rfl rfl TI79 TI3 vI rfl hrow (by decide) (by decide) rfl (one1 rfl) rfl (by rw [maxLen_eq]; omega) (by omega) (by rw [hBB]; exact hx.size) ?_)))))
   intro v33 w33 hrow33 ho33 hb33 _
   have hrl : ∀ b, out.ownBlock = some b → BB ≤ b := fun b hb => (hrow.lt b hb).1
   replace hC2 := ho33.blk hC2 (fun hb => own_off hrow hC2 (by decide) hb)
   replace hx := hx.trans' ho33 (fun _ h => h) (fun b hb he => by have := hrl b he; omega)
   obtain ⟨outN, hon⟩ : ∃ o, o = v33 := ⟨_, rfl⟩
   rw [← hon]
   have hrow2 : w33.ownsRow BB 3 1 outN (usesK D D[i].ty (k + 1)).length ((usesK D D[i].ty (k + 1)).map iv) := by
    rw [usesK_yes hk1 hk9, List.map_append, List.length_append, hon, ← (show fk = (whereN D D[i].ty[k].name).getD 0 from hfk1)]; exact hrow33
   replace hD := hD00.ext hx
   replace hty := hty00.ext hx
   refine WL.c rfl (o_ash (by first | exact vS | exact rfl) (WL.nil (W.region (WL.c rfl (o_mvh h7 (WL.c rfl (o_addi rfl rfl (by omega) (WL.c rfl (o_ash vI (WL.nil (⟨⟨k + 1, outN, by omega, h2, by first | exact h5 | rfl, h6.trans hV1.symm, rfl, hD, hty, hrow2, hC2, hx⟩, ?_⟩)))))))))))
   show D[i].ty.length - ((k : Int) + 1).toNat < _
   rw [hm7]; simp [intOf]; omega
  try simp only [cs8] at c27
  have h9 : ¬ D[i].ty[k].kind = 9 := by simpa using c27
  have hrow2 := hrow
  rw [← usesK_no hk1 h9] at hrow2
  obtain ⟨outN, hon⟩ : ∃ o, o = out := ⟨_, rfl⟩
  rw [← hon] at hrow2 h5
  refine W.skip (W.region (WL.c rfl (o_mvh h7 (WL.c rfl (o_addi rfl rfl (by omega) (WL.c rfl (o_ash vI (WL.nil (⟨⟨k + 1, outN, by omega, h2, by first | exact h5 | rfl, h6.trans hV1.symm, rfl, hD, hty, hrow2, hC2, hx⟩, ?_⟩)))))))))
  show D[i].ty.length - ((k : Int) + 1).toNat < _
  rw [hm7]; simp [intOf]; omega
 try simp only [cs8] at c19
 have hk1 : k = D[i].ty.length := by omega
 subst hk1
 refine W.exit (W.seq (W.region (WL.c rfl (o_mvh h5 (WL.c rfl (o_ash (by first | exact vS | exact rfl) (WL.nil (W.ret (ret1v rfl rfl ?_)))))))))
 exact ⟨by rw [← usesK_all hi]; exact hrow, hx⟩
end Go.Proofs.Ytpbflfgigfdohaa

namespace Go.Proofs.Ytpbflfgigfdohaa
open Go Go.Vc Go.RowKit Go.Proofs

def brow (n : Nat) (M : Nat → Nat → Bool) (a : Nat) : List Value := (List.range n).map (fun b => Value.bool (M a b))
def stepM (M : Nat → Nat → Bool) (k : Nat) : Nat → Nat → Bool := fun a b => M a b || (M a k && M k b)
def mid (M : Nat → Nat → Bool) (k a b : Nat) : Nat → Nat → Bool := fun x y => if x < a ∨ (x = a ∧ y < b) then stepM M k x y else M x y
def warN (D : List Df) : Nat → Nat → Nat → Bool
 | 0 => fun a b => (usesD D a).contains b
 | k + 1 => stepM (warN D k) k
theorem brow_at {n a b : Nat} {M : Nat → Nat → Bool} (hb : b < n) : (brow n M a)[b]? = some (.bool (M a b)) := by
 unfold brow
 rw [List.getElem?_map, List.getElem?_range hb]
 rfl
theorem brow_eq {n a : Nat} {M N : Nat → Nat → Bool} (h : ∀ b, b < n → M a b = N a b) : brow n M a = brow n N a := by
 unfold brow
 exact List.map_congr_left (fun b hb => by rw [h b (List.mem_range.1 hb)])
theorem mid_k (M : Nat → Nat → Bool) (k a b x : Nat) : mid M k a b x k = M x k := by
 unfold mid stepM
 split
 ·cases M x k <;> rfl
 rfl
theorem mid_r (M : Nat → Nat → Bool) (k a b y : Nat) : mid M k a b k y = M k y := by
 unfold mid stepM
 split
 ·cases M k y <;> cases M k k <;> rfl
 rfl
theorem mid_at (M : Nat → Nat → Bool) (k a b : Nat) : mid M k a b a b = M a b := by
 unfold mid
 rw [if_neg (by omega)]
theorem mid_zero (M : Nat → Nat → Bool) (k : Nat) : mid M k 0 0 = M := by
 funext x y
 unfold mid
 rw [if_neg (by omega)]
theorem mid_set {M : Nat → Nat → Bool} {k a b n : Nat} (hk : M a k = true) {u : Bool} (hu : u = (M a b || M k b)) : (brow n (mid M k a b) a).set b (.bool u) = brow n (mid M k a (b + 1)) a := by
 unfold brow
 apply List.ext_getElem?
 intro j
 rw [List.getElem?_set]
 by_cases hj : j < n
 ·by_cases e : b = j
  ·subst e
   rw [if_pos rfl, if_pos (by simpa using hj), List.getElem?_map, List.getElem?_range hj]
   show some (Value.bool u) = some (Value.bool (mid M k a (b + 1) a b))
   unfold mid stepM
   rw [if_pos (by omega), hu, hk]
   simp
  rw [if_neg e, List.getElem?_map, List.getElem?_map, List.getElem?_range hj]
  show some (Value.bool (mid M k a b a j)) = some (Value.bool (mid M k a (b + 1) a j))
  unfold mid
  by_cases h : j < b
  ·rw [if_pos (by omega), if_pos (by omega)]
  rw [if_neg (by omega), if_neg (by omega)]
 have h1 : ∀ (M : Nat → Nat → Bool), ((List.range n).map (fun b => Value.bool (M a b)))[j]? = none := fun M => by rw [List.getElem?_eq_none]; simp; omega
 rw [h1, h1]
 split <;> first | rfl | (split <;> rename_i h <;> first | rfl | (simp at h; omega))
theorem mid_off (M : Nat → Nat → Bool) {k a b x n : Nat} (hx : x ≠ a) : brow n (mid M k a (b + 1)) x = brow n (mid M k a b) x := brow_eq fun y _ => by
 unfold mid
 by_cases h : x < a
 ·rw [if_pos (by omega), if_pos (by omega)]
 rw [if_neg (by omega), if_neg (by omega)]
theorem mid_next (M : Nat → Nat → Bool) {k a b n : Nat} (h : M a k = false ∨ b = n) (x : Nat) : brow n (mid M k (a + 1) 0) x = brow n (mid M k a b) x := brow_eq fun y hy => by
 unfold mid
 by_cases h1 : x < a
 ·rw [if_pos (by omega), if_pos (by omega)]
 by_cases h2 : x = a
 ·subst h2
  rw [if_pos (by omega)]
  rcases h with h | h
  ·unfold stepM
   rw [h]
   simp
  rw [if_pos (by omega)]
 rw [if_neg (by omega), if_neg (by omega)]
theorem mid_end (M : Nat → Nat → Bool) {k n x : Nat} (hx : x < n) : brow n (stepM M k) x = brow n (mid M k n 0) x := brow_eq fun y hy => by
 unfold mid
 rw [if_pos (by omega)]
theorem step_or {M : Nat → Nat → Bool} {k a b : Nat} : stepM M k a b = true ↔ M a b = true ∨ (M a k = true ∧ M k b = true) := by
 unfold stepM
 rw [Bool.or_eq_true, Bool.and_eq_true]
theorem war_mono {D : List Df} {a b : Nat} : ∀ {k : Nat}, warN D 0 a b = true → warN D k a b = true
 | 0, h => h
 | k + 1, h => step_or.2 (.inl (war_mono (k := k) h))
theorem war_sound {D : List Df} : ∀ (k a b : Nat), warN D k a b = true → Relation.TransGen (Us (usesD D)) a b
 | 0, a, b, h => Relation.TransGen.single (by
   have h1 : (usesD D a).contains b = true := h
   exact List.contains_iff_mem.1 h1)
 | k + 1, a, b, h => by
   rcases step_or.1 h with h | ⟨h1, h2⟩
   ·exact war_sound k a b h
   exact (war_sound k a k h1).trans (war_sound k k b h2)
theorem war_trans {D : List Df} : ∀ (k j a b : Nat), j < k → warN D k a j = true → warN D k j b = true → warN D k a b = true
 | 0, j, a, b, hj, _, _ => by omega
 | k + 1, j, a, b, hj, h1, h2 => by
   have IH := fun x y => war_trans (D := D) k j x y
   rcases Nat.lt_or_ge j k with hk | hk
   ·rcases step_or.1 h1 with h1 | ⟨h1, h3⟩
    ·rcases step_or.1 h2 with h2 | ⟨h2, h4⟩
     ·exact step_or.2 (.inl (IH a b hk h1 h2))
     exact step_or.2 (.inr ⟨IH a k hk h1 h2, h4⟩)
    rcases step_or.1 h2 with h2 | ⟨h2, h4⟩
    ·exact step_or.2 (.inr ⟨h1, IH k b hk h3 h2⟩)
    exact step_or.2 (.inr ⟨h1, h4⟩)
   have e : j = k := by omega
   subst e
   refine step_or.2 (.inr ⟨?_, ?_⟩)
   ·rcases step_or.1 h1 with h | ⟨h, -⟩ <;> exact h
   rcases step_or.1 h2 with h | ⟨-, h⟩ <;> exact h
theorem war_iff {D : List Df} (hU : ∀ i, i < D.length → ∀ j ∈ usesD D i, j < D.length) {a b : Nat} (ha : a < D.length) : warN D D.length a b = true ↔ Relation.TransGen (Us (usesD D)) a b := by
 refine ⟨war_sound _ a b, fun h => ?_⟩
 have : b < D.length ∧ warN D D.length a b = true := by
  induction h with
  | single h => exact ⟨hU _ ha _ h, war_mono (List.contains_iff_mem.2 h)⟩
  | tail _ h ih => exact ⟨hU _ ih.1 _ h, war_trans _ _ _ _ ih.1 ih.2 (war_mono (List.contains_iff_mem.2 h))⟩
 exact this.2
theorem take_next {l : List Nat} {i : Nat} (h : i < l.length) : l.take (i + 1) = l.take i ++ [l[i]] := List.take_succ_eq_append_getElem h

set_option maxHeartbeats 4000000 in
theorem leads_spec (D : List Df) (dv : Value) (V : Nat → Value) (w0 : World) (hD : DefR w0 D dv V) (hlim : DOk D) (hU : ∀ i, i < D.length → ∀ j ∈ usesD D i, j < D.length) : Ca Try.prog 65 #[.agg #[dv]] w0 (fun v w' => w'.ownsRow w0.heap.size 4 1 v D.length ((List.range D.length).map fun d => Value.bool (warN D D.length d d)) ∧ Ext w0 w') := by
 have hlen := hlim.len
 obtain ⟨BB, hBB⟩ : ∃ B, B = w0.heap.size := ⟨_, rfl⟩
 rw [← hBB]
 have hD00 := hD
 refine Ca.of Try.func65 Try.ntmps65 rfl rfl (W.seq (W.region (WL.c rfl (o_boxB rfl ?_))))
 intro w1 hC1 hx1 hs1
 obtain ⟨b1, hb1⟩ : ∃ b, b = w0.heap.size := ⟨_, rfl⟩
 rw [← hb1] at hC1 ⊢
 replace hC1 : w1.heap[b1]? = some (.cells ([dv]).toArray 25 (0, 0)) := hC1
 have hx := hx1
 replace hD := hD.ext hx1
 refine WL.c rfl (o_ash (by first | exact vS | exact rfl) (WL.nil (W.seq (W.region (WL.c rfl (o_fa 0 TI25 rfl TI23 rfl rfl (WL.c rfl (o_ld TI23 rfl rfl (cell_of hC1 rfl) (WL.c rfl (o_lenR TI23 rfl hD.row (WL.c rfl (o_ash vI (WL.nil (W.seq (W.region (WL.c rfl (o_ash (by first | exact vS | exact rfl) (WL.nil (W.seq (W.seq (W.region (WL.c rfl (o_ash vI (WL.nil (W.block (W.loop (fun e w => ∃ (d : Nat) (av : Value) (Q : Nat → Value), d ≤ D.length ∧ e 1 = .pointer (some ⟨b1, 0, none⟩) ∧ e 3 = .int .i64 (D.length : Int) ∧ e 4 = av ∧ e 5 = .int .i64 (d : Int) ∧ w.ownsRow BB 43 1 av d ((List.range d).map Q) ∧ Many w BB 4 1 d Q (fun _ => D.length) (brow D.length (warN D 0)) ∧ DefR w D dv V ∧ w.heap[b1]? = some (.cells #[dv] 25 (0, 0)) ∧ Ext w0 w) (fun e w => D.length - (intOf (e 5)).toNat) ?_ ?_))))))))))))))))))))))))))
 ·exact ⟨0, .slice none 0 0, fun _ => undef, Nat.zero_le _, rfl, rfl, rfl, rfl, World.ownsRow_nil _ _ _ _, Many.zero, hD, hC1, hx⟩
 rintro e w ⟨d, av, Q, hd, h1, h3, h4, h5, hav, hM, hD, hC1, hx⟩
 have hm5 := h5
 refine W.seq (W.seq (W.region (WL.c rfl (o_mvh h5 (WL.c rfl (o_mvh h3 (WL.c rfl (o_lt rfl rfl (WL.nil (W.cond rfl (fun c19 => ?_) (fun c19 => ?_)))))))))))
 ·try simp only [cs8] at c19
  have hd1 : d < D.length := by omega
  have htl := hlim.ty _ (List.getElem_mem hd1)
  have hul2 : (usesD D d).length ≤ D[d].ty.length := by have h1 := usesK_len D D[d].ty D[d].ty.length; rw [usesK_all hd1] at h1; exact h1
  refine W.skip (W.seq (W.block (W.seq (W.region (WL.c rfl (o_mvh h3 (WL.c rfl (o_mk2 TI43 TI4 (l := D.length) (n := D.length) rfl rfl (Nat.le_refl _) (by omega) (by omega) ?_))))))))
  have hrt := own_made1 (w := w) (el := 4) (l := D.length) (n := D.length) (z := .bool false) rfl (Nat.le_refl _) (by omega)
  have hxb : Ext w (w.alloc (.cells (madeCells (Value.bool false).cells (D.length * 1)) 4)) := Only.alloc w _
  have hlq : ∀ j, j < d → ∀ k, (Q j).ownBlock = some k → k < w.heap.size := fun j hj k hk => (hM.lt hj hk).2
  generalize w.alloc (.cells (madeCells (Value.bool false).cells (D.length * 1)) 4) = wt at hrt hxb ⊢
  obtain ⟨tv, htv⟩ : ∃ o, o = Value.slice (some ⟨w.heap.size, 0, none⟩) D.length D.length := ⟨_, rfl⟩
  rw [← htv] at hrt ⊢
  rw [← tlB_nil] at hrt
  have hBm : BB ≤ w.heap.size := by rw [hBB]; exact hx.size
  obtain ⟨mm, hmm⟩ : ∃ m, m = w.heap.size := ⟨_, rfl⟩
  rw [← hmm] at hrt hlq hBm
  replace hx := hx.tr hxb
  replace hD := hD.ext hxb
  replace hC1 := hxb.blk hC1 (fun h => h)
  replace hM := hM.ext hxb
  replace hav := own_ext hav hxb
  clear hxb htv hmm
  refine WL.c rfl (o_ash (by first | exact vS | exact rfl) (WL.nil (W.seq (W.region (WL.c rfl (o_ldA TI25 rfl h1 (show Cells _ b1 0 [dv] from Cells.of hC1 0 _ (by simp)) rfl (WL.c rfl (o_mvh h5 (WL.c rfl (o_call Try.call90 (lc rfl (lc rfl ln)) ((ruses_spec d D dv V _ hD hlim hd1).mono ?_)))))))))))
  rintro v26 w26 ⟨hu26, hx26⟩
  replace hu26 := own_mono hu26 (show BB ≤ _ by rw [hBB]; exact hx.size)
  replace hx := hx.tr hx26
  replace hD := hD.ext hx26
  replace hC1 := hx26.blk hC1 (fun h => h)
  replace hM := hM.ext hx26
  replace hav := own_ext hav hx26
  replace hrt := own_ext hrt hx26
  refine WL.c rfl (o_ash (by first | exact vS | exact rfl) (WL.nil (W.seq (W.seq (W.region (WL.c rfl (o_ash vI (WL.nil (W.block (W.loop (fun e w => ∃ i : Nat, i ≤ (usesD D d).length ∧ e 1 = .pointer (some ⟨b1, 0, none⟩) ∧ e 3 = .int .i64 (D.length : Int) ∧ e 4 = av ∧ e 5 = .int .i64 (d : Int) ∧ e 6 = tv ∧ e 7 = v26 ∧ e 8 = .int .i64 (i : Int) ∧ w.ownsRow mm 4 1 tv D.length (tlB D.length ((usesD D d).take i)) ∧ w.ownsRow BB 3 1 v26 (usesD D d).length ((usesD D d).map iv) ∧ w.ownsRow BB 43 1 av d ((List.range d).map Q) ∧ Many w BB 4 1 d Q (fun _ => D.length) (brow D.length (warN D 0)) ∧ DefR w D dv V ∧ w.heap[b1]? = some (.cells #[dv] 25 (0, 0)) ∧ Ext w0 w) (fun e w => (usesD D d).length - (intOf (e 8)).toNat) ?_ ?_))))))))))
  ·exact ⟨0, Nat.zero_le _, h1, h3, h4, h5, rfl, rfl, rfl, by rw [List.take_zero]; exact hrt, hu26, hav, hM, hD, hC1, hx⟩
  rintro e w ⟨i, hi, h1, h3, h4, h5, h6, h7, h8, hrt, hu26, hav, hM, hD, hC1, hx⟩
  have hm8 := h8
  refine W.seq (W.seq (W.region (WL.c rfl (o_mvh h8 (WL.c rfl (o_mvh h7 (WL.c rfl (o_lenR TI79 rfl (Sl.own hu26) (WL.c rfl (o_lt rfl rfl (WL.nil (W.cond rfl (fun c30 => ?_) (fun c30 => ?_)))))))))))))
  ·try simp only [cs8] at c30
   have hi1 : i < (usesD D d).length := by omega
   have hul := hU d hd1 _ (List.getElem_mem hi1)
   obtain ⟨tb, tc, htv, htb⟩ := own_some hrt (by omega)
   obtain ⟨ub, uc, huv, hub⟩ := own_some hu26 (by omega)
   rw [htv] at h6
   rw [huv] at h7
   have hcell : w.cell? ⟨ub, 0 + i * 1, none⟩ = some (.int .i64 (((usesD D d)[i] : Nat) : Int)) := by rw [Nat.zero_add, Nat.mul_one]; exact own_cell (huv ▸ hu26) (by rw [List.getElem?_map, List.getElem?_eq_getElem hi1]; rfl)
   refine W.skip (W.seq (W.block (W.region (WL.c rfl (o_mvh h6 (WL.c rfl (o_mvh h7 (WL.c rfl (o_mvh h8 (WL.c rfl (o_ixB (i := i) TI79 TI3 (show _ = Value.slice (some ⟨ub, 0, none⟩) (usesD D d).length uc from rfl) (show _ = Value.int .i64 (i : Int) from rfl) (by omega) (WL.c rfl (o_ld TI3 rfl rfl hcell (WL.c rfl (o_ixB (i := (usesD D d)[i]) TI43 TI4 (show _ = Value.slice (some ⟨tb, 0, none⟩) D.length tc from rfl) (show _ = Value.int .i64 (((usesD D d)[i] : Nat) : Int) from rfl) (by omega) (WL.u (o_stRj TI4 rfl (show 0 + (usesD D d)[i] * 1 = (usesD D d)[i] by omega) (show _ = Value.bool true from rfl) rfl hrt (show Value.ownBlock tv = some tb from htb) (by omega) ?_)))))))))))))))))
   intro w38 hrtN ho38 hs38
   have hlo : ∀ b, tv.ownBlock = some b → mm ≤ b := fun b hb => (hrt.lt b hb).1
   replace hC1 := ho38.blk hC1 (fun hb => own_off hrt hC1 (by decide) hb)
   replace hav := own_only hav ho38 (own_row_off hrt hav (by decide))
   replace hu26 := own_only hu26 ho38 (own_row_off hrt hu26 (by decide))
   replace hM := hM.only ho38 (fun j hj k hk he => by have := hlq j hj k hk; have := hlo k he; omega)
   replace hx := hx.trans' ho38 (fun _ h => h) (fun b hb he => by have := hlo b he; omega)
   replace hD := hD00.ext hx
   rw [tlB_set] at hrtN
   clear hrt ho38
   refine WL.nil (W.region (WL.c rfl (o_mvh h8 (WL.c rfl (o_addi rfl rfl (by omega) (WL.c rfl (o_ash vI (WL.nil (⟨⟨i + 1, by omega, h1, h3, h4, h5, h6.trans htv.symm, h7.trans huv.symm, rfl, by rw [take_next hi1]; exact hrtN, hu26, hav, hM, hD, hC1, hx⟩, ?_⟩)))))))))
   show (usesD D d).length - ((i : Int) + 1).toNat < _
   rw [hm8]; simp [intOf]; omega
  try simp only [cs8] at c30
  have hi1 : i = (usesD D d).length := by omega
  rw [hi1, List.take_length] at hrt
  refine W.exit (W.region (WL.c rfl (o_mvh h4 (WL.c rfl (o_mvh h6 (WL.apO (BB) rfl rfl TI149 TI43 (show _ = tv from rfl) rfl hav (by decide) (by decide) (by rw [own_cells hrt]; rfl) (one1 (own_one hrt)) rfl (by rw [maxLen_eq]; omega) (by omega) (by rw [hBB]; exact hx.size) ?_))))))
  intro avN w42 havN ho42 hb42 _
  have hlo : ∀ b, av.ownBlock = some b → BB ≤ b := fun b hb => (hav.lt b hb).1
  replace hC1 := ho42.blk hC1 (fun hb => own_off hav hC1 (by decide) hb)
  replace hrt := own_only hrt ho42 (own_row_off hav hrt (by decide))
  replace hM := hM.only ho42 (fun j hj => own_row_off hav (hM.row j hj) (by decide))
  replace hx := hx.trans' ho42 (fun _ h => h) (fun b hb he => by have := hlo b he; omega)
  replace hD := hD00.ext hx
  replace hM := Many.snocG hM hrt hBm hlq rfl rfl
  have hav : w42.ownsRow BB 43 1 avN (d + 1) ((List.range (d + 1)).map (fun j => if j = d then tv else Q j)) := by
   rw [own_cells hrt] at havN
   rw [List.range_succ, List.map_append]
   have e1 : (List.range d).map (fun j => if j = d then tv else Q j) = (List.range d).map Q := List.map_congr_left (fun j hj => by rw [if_neg (by have := List.mem_range.1 hj; omega)])
   have e2 : [d].map (fun j => if j = d then tv else Q j) = [tv] := by simp
   rw [e1, e2]; exact havN
  clear havN ho42
  refine WL.c rfl (o_ash (by first | exact vS | exact rfl) (WL.nil (W.region (WL.c rfl (o_mvh h5 (WL.c rfl (o_addi rfl rfl (by omega) (WL.c rfl (o_ash vI (WL.nil (⟨⟨d + 1, avN, fun j => if j = d then tv else Q j, by omega, h1, h3, rfl, rfl, hav, hM, hD, hC1, hx⟩, ?_⟩)))))))))))
  show D.length - ((d : Int) + 1).toNat < _
  rw [hm5]; simp [intOf]; omega
 try simp only [cs8] at c19
 have hd1 : d = D.length := by omega
 subst hd1
 refine W.exit (W.seq (W.seq (W.region (WL.c rfl (o_ash vI (WL.nil (W.block (W.loop (fun e w => ∃ k : Nat, k ≤ D.length ∧ e 3 = .int .i64 (D.length : Int) ∧ e 4 = av ∧ e 9 = .int .i64 (k : Int) ∧ w.ownsRow BB 43 1 av D.length ((List.range D.length).map Q) ∧ Many w BB 4 1 D.length Q (fun _ => D.length) (brow D.length (warN D k)) ∧ Ext w0 w) (fun e w => D.length - (intOf (e 9)).toNat) ?_ ?_))))))))
 ·exact ⟨0, Nat.zero_le _, h3, h4, rfl, hav, hM, hx⟩
 rintro e w ⟨k, hk, h3, h4, h9, hav, hM, hx⟩
 have hm9 := h9
 refine W.seq (W.seq (W.region (WL.c rfl (o_mvh h9 (WL.c rfl (o_mvh h3 (WL.c rfl (o_lt rfl rfl (WL.nil (W.cond rfl (fun c45 => ?_) (fun c45 => ?_)))))))))))
 ·try simp only [cs8] at c45
  have hk1 : k < D.length := by omega
  refine W.skip (W.seq (W.block (W.seq (W.region (WL.c rfl (o_ash vI (WL.nil (W.block (W.loop (fun e w => ∃ a : Nat, a ≤ D.length ∧ e 3 = .int .i64 (D.length : Int) ∧ e 4 = av ∧ e 9 = .int .i64 (k : Int) ∧ e 10 = .int .i64 (a : Int) ∧ w.ownsRow BB 43 1 av D.length ((List.range D.length).map Q) ∧ Many w BB 4 1 D.length Q (fun _ => D.length) (brow D.length (mid (warN D k) k a 0)) ∧ Ext w0 w) (fun e w => D.length - (intOf (e 10)).toNat) ?_ ?_)))))))))
  ·exact ⟨0, Nat.zero_le _, h3, h4, h9, rfl, hav, by rw [mid_zero]; exact hM, hx⟩
  rintro e w ⟨a, ha, h3, h4, h9, h10, hav, hM, hx⟩
  have hm10 := h10
  refine W.seq (W.seq (W.region (WL.c rfl (o_mvh h10 (WL.c rfl (o_mvh h3 (WL.c rfl (o_lt rfl rfl (WL.nil (W.cond rfl (fun c50 => ?_) (fun c50 => ?_)))))))))))
  ·try simp only [cs8] at c50
   have ha1 : a < D.length := by omega
   refine W.skip (W.seq (W.block (W.seq (W.region (WL.c rfl (o_ash vI (WL.nil (W.block (W.loop (fun e w => ∃ b : Nat, b ≤ D.length ∧ e 3 = .int .i64 (D.length : Int) ∧ e 4 = av ∧ e 9 = .int .i64 (k : Int) ∧ e 10 = .int .i64 (a : Int) ∧ e 11 = .int .i64 (b : Int) ∧ w.ownsRow BB 43 1 av D.length ((List.range D.length).map Q) ∧ Many w BB 4 1 D.length Q (fun _ => D.length) (brow D.length (mid (warN D k) k a b)) ∧ Ext w0 w) (fun e w => D.length - (intOf (e 11)).toNat) ?_ ?_)))))))))
   ·exact ⟨0, Nat.zero_le _, h3, h4, h9, h10, rfl, hav, hM, hx⟩
   rintro e w ⟨b, hb, h3, h4, h9, h10, h11, hav, hM, hx⟩
   have hm11 := h11
   obtain ⟨ab, ac, hab, habb⟩ := own_some hav (by omega)
   obtain ⟨rb, rc, hQa, hrb⟩ := own_some (hM.row a ha1) (by omega)
   obtain ⟨kb, kc, hQk, hkb⟩ := own_some (hM.row k hk1) (by omega)
   rw [hab] at h4
   have ca : w.cell? ⟨ab, 0 + a * 1, none⟩ = some (.slice (some ⟨rb, 0, none⟩) D.length rc) := by rw [Nat.zero_add, Nat.mul_one, ← hQa]; exact own_cell (hab ▸ hav) (by rw [List.getElem?_map, List.getElem?_range ha1]; rfl)
   have ck : w.cell? ⟨ab, 0 + k * 1, none⟩ = some (.slice (some ⟨kb, 0, none⟩) D.length kc) := by rw [Nat.zero_add, Nat.mul_one, ← hQk]; exact own_cell (hab ▸ hav) (by rw [List.getElem?_map, List.getElem?_range hk1]; rfl)
   have cak : w.cell? ⟨rb, 0 + k * 1, none⟩ = some (.bool (warN D k a k)) := by
    rw [Nat.zero_add, Nat.mul_one, ← mid_k (warN D k) k a b a]; exact own_cell (hQa ▸ hM.row a ha1) (brow_at hk1)
   refine W.seq (W.seq ?_)
   by_cases hb1 : b < D.length
   by_cases hak : warN D k a k = true
   ·skip
    rw [hak] at cak
    have cab : w.cell? ⟨rb, 0 + b * 1, none⟩ = some (.bool (warN D k a b)) := by
     rw [Nat.zero_add, Nat.mul_one, ← mid_at (warN D k) k a b]; exact own_cell (hQa ▸ hM.row a ha1) (brow_at hb1)
    have ckb : w.cell? ⟨kb, 0 + b * 1, none⟩ = some (.bool (warN D k k b)) := by
     rw [Nat.zero_add, Nat.mul_one, ← mid_r (warN D k) k a b b]; exact own_cell (hQk ▸ hM.row k hk1) (brow_at hb1)
    refine W.region (WL.c rfl (o_mvh h11 (WL.c rfl (o_mvh h3 (WL.c rfl (o_lt rfl rfl (WL.c rfl (o_mvh vB (WL.g rfl (decide_eq_true (by omega)) rfl (o_mvh h4 (WL.g rfl (decide_eq_true (by omega)) rfl (o_mvh h10 (WL.g rfl (decide_eq_true (by omega)) rfl (o_ixB (i := a) TI149 TI43 (show _ = Value.slice (some ⟨ab, 0, none⟩) D.length ac from rfl) (show _ = Value.int .i64 (a : Int) from rfl) (by omega) (WL.g rfl (decide_eq_true (by omega)) rfl (o_ld TI43 rfl rfl ca (WL.g rfl (decide_eq_true (by omega)) rfl (o_mvh h9 (WL.g rfl (decide_eq_true (by omega)) rfl (o_ixB (i := k) TI43 TI4 (show _ = Value.slice (some ⟨rb, 0, none⟩) D.length rc from rfl) (show _ = Value.int .i64 (k : Int) from rfl) (by omega) (WL.g rfl (decide_eq_true (by omega)) rfl (o_ld TI4 rfl rfl cak (WL.c rfl (o_pickA rfl rfl (WL.nil (W.condT' rfl (by rw [Bool.and_true]; exact decide_eq_true (by omega)) (W.skip (W.seq (W.block ?_)))))))))))))))))))))))))))))
    by_cases hMt : warN D k a b = true
    ·skip
     have hval : true = (warN D k a b || warN D k k b) := by rw [hMt]; rfl
     obtain ⟨wd, hwd⟩ : ∃ wd, wd = w.drew := ⟨_, rfl⟩
     have hxd : Ext w wd := hwd ▸ Only.drew w
     replace hx := hx.tr hxd
     replace hM := hM.ext hxd
     replace hav := own_ext hav hxd
     replace ca := hxd.cell ca (fun h => h)
     replace ck := hxd.cell ck (fun h => h)
     replace cab := hxd.cell cab (fun h => h)
     replace ckb := hxd.cell ckb (fun h => h)
     refine W.drawT 21 (Ext) [(3, fun v _ => v = _), (4, fun v _ => v = _), (9, fun v _ => v = _), (10, fun v _ => v = _), (11, fun v _ => v = _)] rfl (by kernel_rfl) (Only.refl No) (fun _ _ _ h k => h.trans k) ⟨Mono.eq, Mono.eq, Mono.eq, Mono.eq, Mono.eq, trivial⟩ ⟨h3, h4, h9, h10, h11, trivial⟩ (WD.p rfl (fun e w hR hh => by obtain ⟨h4, -⟩ := hh; exact SG.n (o_mvh h4 ⟨rfl, Only.refl No _⟩)) (WD.p rfl (fun e w hR hh => by obtain ⟨h10, -⟩ := hh; exact SG.n (o_mvh h10 ⟨rfl, Only.refl No _⟩)) (WD.p rfl (fun e w hR hh => by obtain ⟨h68, h67, -⟩ := hh; exact SG.n (o_ixB (i := a) TI149 TI43 (show _ = Value.slice (some ⟨ab, 0, none⟩) D.length ac from h67) (show _ = Value.int .i64 (a : Int) from h68) (by omega) ⟨rfl, Only.refl No _⟩)) (WD.p rfl (fun e w hR hh => by obtain ⟨h69, -⟩ := hh; rw [← hwd] at hR; exact SG.n (o_ld TI43 rfl h69 (hR.cell ca (fun h => h)) ⟨rfl, Only.refl No _⟩)) (WD.p rfl (fun e w hR hh => by obtain ⟨h11, -⟩ := hh; exact SG.n (o_mvh h11 ⟨rfl, Only.refl No _⟩)) (WD.p rfl (fun e w hR hh => by obtain ⟨h4, -⟩ := hh; exact SG.n (o_mvh h4 ⟨rfl, Only.refl No _⟩)) (WD.p rfl (fun e w hR hh => by obtain ⟨h10, -⟩ := hh; exact SG.n (o_mvh h10 ⟨rfl, Only.refl No _⟩)) (WD.p rfl (fun e w hR hh => by obtain ⟨h73, h72, -⟩ := hh; exact SG.n (o_ixB (i := a) TI149 TI43 (show _ = Value.slice (some ⟨ab, 0, none⟩) D.length ac from h72) (show _ = Value.int .i64 (a : Int) from h73) (by omega) ⟨rfl, Only.refl No _⟩)) (WD.p rfl (fun e w hR hh => by obtain ⟨h74, -⟩ := hh; rw [← hwd] at hR; exact SG.n (o_ld TI43 rfl h74 (hR.cell ca (fun h => h)) ⟨rfl, Only.refl No _⟩)) (WD.p rfl (fun e w hR hh => by obtain ⟨h11, -⟩ := hh; exact SG.n (o_mvh h11 ⟨rfl, Only.refl No _⟩)) (WD.p rfl (fun e w hR hh => by obtain ⟨h76, h75, -⟩ := hh; exact SG.n (o_ixB (i := b) TI43 TI4 (show _ = Value.slice (some ⟨rb, 0, none⟩) D.length rc from h75) (show _ = Value.int .i64 (b : Int) from h76) (by omega) ⟨rfl, Only.refl No _⟩)) (WD.p rfl (fun e w hR hh => by obtain ⟨h77, -⟩ := hh; rw [← hwd] at hR; exact SG.n (o_ld TI4 rfl h77 (hR.cell cab (fun h => h)) ⟨rfl, Only.refl No _⟩)) (WD.p rfl (fun e w hR hh => by obtain ⟨h78, -⟩ := hh; exact SG.n (o_mvh h78 ⟨rfl, Only.refl No _⟩)) (WD.p rfl (fun e w hR hh => by obtain ⟨h79, h4, -⟩ := hh; exact SG.s h79 (hMt) ⟨rfl, Only.refl No _⟩) (WD.p rfl (fun e w hR hh => by obtain ⟨h79, h9, -⟩ := hh; exact SG.s h79 (hMt) ⟨rfl, Only.refl No _⟩) (WD.p rfl (fun e w hR hh => by obtain ⟨h81, h80, h79, -⟩ := hh; exact SG.s h79 (hMt) ⟨rfl, Only.refl No _⟩) (WD.p rfl (fun e w hR hh => by obtain ⟨h82, h79, -⟩ := hh; rw [← hwd] at hR; exact SG.s h79 (hMt) ⟨rfl, Only.refl No _⟩) (WD.p rfl (fun e w hR hh => by obtain ⟨h79, h11, -⟩ := hh; exact SG.s h79 (hMt) ⟨rfl, Only.refl No _⟩) (WD.p rfl (fun e w hR hh => by obtain ⟨h84, h83, h79, -⟩ := hh; exact SG.s h79 (hMt) ⟨rfl, Only.refl No _⟩) (WD.p rfl (fun e w hR hh => by obtain ⟨h85, h79, -⟩ := hh; rw [← hwd] at hR; exact SG.s h79 (hMt) ⟨rfl, Only.refl No _⟩) (WD.p rfl (fun e w hR hh => by obtain ⟨h86, h79, -⟩ := hh; exact SG.n (o_pickT h79 (hMt) ⟨rfl, Only.refl No _⟩)) ?_)))))))))))))))))))))
     rintro e w hR ⟨h87, h86, h85, h84, h83, h82, h81, h80, h79, h78, h77, h76, h75, h74, h73, h72, h71, h70, h69, h68, h67, h3, h4, h9, h10, h11, -⟩
     rw [← hwd] at hR
     replace hx := hx.tr hR
     replace hM := hM.ext hR
     replace hav := own_ext hav hR
     refine WL.c rfl (o_ixB (i := b) TI43 TI4 (show _ = Value.slice (some ⟨rb, 0, none⟩) D.length rc from h70) (show _ = Value.int .i64 (b : Int) from h71) (by omega) (WL.u (o_stRj TI4 rfl (show 0 + b * 1 = b by omega) (show _ = Value.bool true from h87) rfl (hM.row a ha1) (show (Q a).ownBlock = some rb from hrb) (by omega) ?_)))
     intro w88 hr88 ho88 hs88
     have hlo : ∀ b, (Q a).ownBlock = some b → BB ≤ b := fun b hb => (hM.lt ha1 hb).1
     have havN := own_only hav ho88 (own_row_off (hM.row a ha1) hav (by decide))
     have hxN := hx.trans' ho88 (fun _ h => h) (fun b hb he => by have := hlo b he; omega)
     have hMN := (Many.set hM ha1 ho88 hr88).congr (fun _ _ => rfl) (n' := fun _ => D.length) (X' := brow D.length (mid (warN D k) k a (b + 1))) (fun j hj => by split <;> rfl) (fun j hj => by
      by_cases e : j = a
      ·rw [if_pos e, e]; exact (mid_set hak hval).symm
      rw [if_neg e]; exact mid_off _ e)
     refine WL.nil (W.region (WL.c rfl (o_mvh h11 (WL.c rfl (o_addi rfl rfl (by omega) (WL.c rfl (o_ash vI (WL.nil (⟨⟨b + 1, by omega, h3, h4.trans hab.symm, h9, h10, rfl, havN, hMN, hxN⟩, ?_⟩)))))))))
     show D.length - ((b : Int) + 1).toNat < _
     rw [hm11]; simp [intOf]; omega
    skip
    have hMf : warN D k a b = false := by simpa using hMt
    have hval : (warN D k a b || warN D k k b) = (warN D k a b || warN D k k b) := rfl
    obtain ⟨wd, hwd⟩ : ∃ wd, wd = w.drew := ⟨_, rfl⟩
    have hxd : Ext w wd := hwd ▸ Only.drew w
    replace hx := hx.tr hxd
    replace hM := hM.ext hxd
    replace hav := own_ext hav hxd
    replace ca := hxd.cell ca (fun h => h)
    replace ck := hxd.cell ck (fun h => h)
    replace cab := hxd.cell cab (fun h => h)
    replace ckb := hxd.cell ckb (fun h => h)
    refine W.drawT 21 (Ext) [(3, fun v _ => v = _), (4, fun v _ => v = _), (9, fun v _ => v = _), (10, fun v _ => v = _), (11, fun v _ => v = _)] rfl (by kernel_rfl) (Only.refl No) (fun _ _ _ h k => h.trans k) ⟨Mono.eq, Mono.eq, Mono.eq, Mono.eq, Mono.eq, trivial⟩ ⟨h3, h4, h9, h10, h11, trivial⟩ (WD.p rfl (fun e w hR hh => by obtain ⟨h4, -⟩ := hh; exact SG.n (o_mvh h4 ⟨rfl, Only.refl No _⟩)) (WD.p rfl (fun e w hR hh => by obtain ⟨h10, -⟩ := hh; exact SG.n (o_mvh h10 ⟨rfl, Only.refl No _⟩)) (WD.p rfl (fun e w hR hh => by obtain ⟨h68, h67, -⟩ := hh; exact SG.n (o_ixB (i := a) TI149 TI43 (show _ = Value.slice (some ⟨ab, 0, none⟩) D.length ac from h67) (show _ = Value.int .i64 (a : Int) from h68) (by omega) ⟨rfl, Only.refl No _⟩)) (WD.p rfl (fun e w hR hh => by obtain ⟨h69, -⟩ := hh; rw [← hwd] at hR; exact SG.n (o_ld TI43 rfl h69 (hR.cell ca (fun h => h)) ⟨rfl, Only.refl No _⟩)) (WD.p rfl (fun e w hR hh => by obtain ⟨h11, -⟩ := hh; exact SG.n (o_mvh h11 ⟨rfl, Only.refl No _⟩)) (WD.p rfl (fun e w hR hh => by obtain ⟨h4, -⟩ := hh; exact SG.n (o_mvh h4 ⟨rfl, Only.refl No _⟩)) (WD.p rfl (fun e w hR hh => by obtain ⟨h10, -⟩ := hh; exact SG.n (o_mvh h10 ⟨rfl, Only.refl No _⟩)) (WD.p rfl (fun e w hR hh => by obtain ⟨h73, h72, -⟩ := hh; exact SG.n (o_ixB (i := a) TI149 TI43 (show _ = Value.slice (some ⟨ab, 0, none⟩) D.length ac from h72) (show _ = Value.int .i64 (a : Int) from h73) (by omega) ⟨rfl, Only.refl No _⟩)) (WD.p rfl (fun e w hR hh => by obtain ⟨h74, -⟩ := hh; rw [← hwd] at hR; exact SG.n (o_ld TI43 rfl h74 (hR.cell ca (fun h => h)) ⟨rfl, Only.refl No _⟩)) (WD.p rfl (fun e w hR hh => by obtain ⟨h11, -⟩ := hh; exact SG.n (o_mvh h11 ⟨rfl, Only.refl No _⟩)) (WD.p rfl (fun e w hR hh => by obtain ⟨h76, h75, -⟩ := hh; exact SG.n (o_ixB (i := b) TI43 TI4 (show _ = Value.slice (some ⟨rb, 0, none⟩) D.length rc from h75) (show _ = Value.int .i64 (b : Int) from h76) (by omega) ⟨rfl, Only.refl No _⟩)) (WD.p rfl (fun e w hR hh => by obtain ⟨h77, -⟩ := hh; rw [← hwd] at hR; exact SG.n (o_ld TI4 rfl h77 (hR.cell cab (fun h => h)) ⟨rfl, Only.refl No _⟩)) (WD.p rfl (fun e w hR hh => by obtain ⟨h78, -⟩ := hh; exact SG.n (o_mvh h78 ⟨rfl, Only.refl No _⟩)) (WD.p rfl (fun e w hR hh => by obtain ⟨h79, h4, -⟩ := hh; exact SG.g h79 (hMf) (o_mvh h4 ⟨rfl, Only.refl No _⟩)) (WD.p rfl (fun e w hR hh => by obtain ⟨h79, h9, -⟩ := hh; exact SG.g h79 (hMf) (o_mvh h9 ⟨rfl, Only.refl No _⟩)) (WD.p rfl (fun e w hR hh => by obtain ⟨h81, h80, h79, -⟩ := hh; exact SG.g h79 (hMf) (o_ixB (i := k) TI149 TI43 (show _ = Value.slice (some ⟨ab, 0, none⟩) D.length ac from h80) (show _ = Value.int .i64 (k : Int) from h81) (by omega) ⟨rfl, Only.refl No _⟩)) (WD.p rfl (fun e w hR hh => by obtain ⟨h82, h79, -⟩ := hh; rw [← hwd] at hR; exact SG.g h79 (hMf) (o_ld TI43 rfl h82 (hR.cell ck (fun h => h)) ⟨rfl, Only.refl No _⟩)) (WD.p rfl (fun e w hR hh => by obtain ⟨h79, h11, -⟩ := hh; exact SG.g h79 (hMf) (o_mvh h11 ⟨rfl, Only.refl No _⟩)) (WD.p rfl (fun e w hR hh => by obtain ⟨h84, h83, h79, -⟩ := hh; exact SG.g h79 (hMf) (o_ixB (i := b) TI43 TI4 (show _ = Value.slice (some ⟨kb, 0, none⟩) D.length kc from h83) (show _ = Value.int .i64 (b : Int) from h84) (by omega) ⟨rfl, Only.refl No _⟩)) (WD.p rfl (fun e w hR hh => by obtain ⟨h85, h79, -⟩ := hh; rw [← hwd] at hR; exact SG.g h79 (hMf) (o_ld TI4 rfl h85 (hR.cell ckb (fun h => h)) ⟨rfl, Only.refl No _⟩)) (WD.p rfl (fun e w hR hh => by obtain ⟨h86, h79, -⟩ := hh; exact SG.n (o_pickO h79 h86 ⟨rfl, Only.refl No _⟩)) ?_)))))))))))))))))))))
    rintro e w hR ⟨h87, h86, h85, h84, h83, h82, h81, h80, h79, h78, h77, h76, h75, h74, h73, h72, h71, h70, h69, h68, h67, h3, h4, h9, h10, h11, -⟩
    rw [← hwd] at hR
    replace hx := hx.tr hR
    replace hM := hM.ext hR
    replace hav := own_ext hav hR
    refine WL.c rfl (o_ixB (i := b) TI43 TI4 (show _ = Value.slice (some ⟨rb, 0, none⟩) D.length rc from h70) (show _ = Value.int .i64 (b : Int) from h71) (by omega) (WL.u (o_stRj TI4 rfl (show 0 + b * 1 = b by omega) (show _ = Value.bool (warN D k a b || warN D k k b) from h87) rfl (hM.row a ha1) (show (Q a).ownBlock = some rb from hrb) (by omega) ?_)))
    intro w88 hr88 ho88 hs88
    have hlo : ∀ b, (Q a).ownBlock = some b → BB ≤ b := fun b hb => (hM.lt ha1 hb).1
    have havN := own_only hav ho88 (own_row_off (hM.row a ha1) hav (by decide))
    have hxN := hx.trans' ho88 (fun _ h => h) (fun b hb he => by have := hlo b he; omega)
    have hMN := (Many.set hM ha1 ho88 hr88).congr (fun _ _ => rfl) (n' := fun _ => D.length) (X' := brow D.length (mid (warN D k) k a (b + 1))) (fun j hj => by split <;> rfl) (fun j hj => by
     by_cases e : j = a
     ·rw [if_pos e, e]; exact (mid_set hak hval).symm
     rw [if_neg e]; exact mid_off _ e)
    refine WL.nil (W.region (WL.c rfl (o_mvh h11 (WL.c rfl (o_addi rfl rfl (by omega) (WL.c rfl (o_ash vI (WL.nil (⟨⟨b + 1, by omega, h3, h4.trans hab.symm, h9, h10, rfl, havN, hMN, hxN⟩, ?_⟩)))))))))
    show D.length - ((b : Int) + 1).toNat < _
    rw [hm11]; simp [intOf]; omega
   ·skip
    have hakf : warN D k a k = false := by simpa using hak
    rw [hakf] at cak
    refine W.region (WL.c rfl (o_mvh h11 (WL.c rfl (o_mvh h3 (WL.c rfl (o_lt rfl rfl (WL.c rfl (o_mvh vB (WL.g rfl (decide_eq_true (by omega)) rfl (o_mvh h4 (WL.g rfl (decide_eq_true (by omega)) rfl (o_mvh h10 (WL.g rfl (decide_eq_true (by omega)) rfl (o_ixB (i := a) TI149 TI43 (show _ = Value.slice (some ⟨ab, 0, none⟩) D.length ac from rfl) (show _ = Value.int .i64 (a : Int) from rfl) (by omega) (WL.g rfl (decide_eq_true (by omega)) rfl (o_ld TI43 rfl rfl ca (WL.g rfl (decide_eq_true (by omega)) rfl (o_mvh h9 (WL.g rfl (decide_eq_true (by omega)) rfl (o_ixB (i := k) TI43 TI4 (show _ = Value.slice (some ⟨rb, 0, none⟩) D.length rc from rfl) (show _ = Value.int .i64 (k : Int) from rfl) (by omega) (WL.g rfl (decide_eq_true (by omega)) rfl (o_ld TI4 rfl rfl cak (WL.c rfl (o_pickA rfl rfl (WL.nil ?_)))))))))))))))))))))))))
    have hnx : warN D k a k = false ∨ b = D.length := .inl hakf
    replace h4 := h4.trans hab.symm
    refine W.condF' rfl (Bool.and_false _) (W.exit (W.region (WL.c rfl (o_mvh h10 (WL.c rfl (o_addi rfl rfl (by omega) (WL.c rfl (o_ash vI (WL.nil (⟨⟨a + 1, by omega, h3, h4, h9, rfl, hav, hM.congr (fun _ _ => rfl) (fun _ _ => rfl) (fun j hj => mid_next _ hnx j), hx⟩, ?_⟩))))))))))
    show D.length - ((a : Int) + 1).toNat < _
    rw [hm10]; simp [intOf]; omega
   skip
   skip
   refine W.region (WL.c rfl (o_mvh h11 (WL.c rfl (o_mvh h3 (WL.c rfl (o_lt rfl rfl (WL.c rfl (o_mvh vB (WL.s rfl (decide_eq_false (by omega)) rfl (WL.s rfl (decide_eq_false (by omega)) rfl (WL.s rfl (decide_eq_false (by omega)) rfl (WL.s rfl (decide_eq_false (by omega)) rfl (WL.s rfl (decide_eq_false (by omega)) rfl (WL.s rfl (decide_eq_false (by omega)) rfl (WL.s rfl (decide_eq_false (by omega)) rfl (WL.c rfl (o_pickF rfl (decide_eq_false (by omega)) (WL.nil ?_))))))))))))))))))
   have hnx : warN D k a k = false ∨ b = D.length := .inr (by omega)
   replace h4 := h4.trans hab.symm
   refine W.condF' rfl (rfl) (W.exit (W.region (WL.c rfl (o_mvh h10 (WL.c rfl (o_addi rfl rfl (by omega) (WL.c rfl (o_ash vI (WL.nil (⟨⟨a + 1, by omega, h3, h4, h9, rfl, hav, hM.congr (fun _ _ => rfl) (fun _ _ => rfl) (fun j hj => mid_next _ hnx j), hx⟩, ?_⟩))))))))))
   show D.length - ((a : Int) + 1).toNat < _
   rw [hm10]; simp [intOf]; omega
  try simp only [cs8] at c50
  have ha1 : a = D.length := by omega
  subst ha1
  refine W.exit (W.region (WL.c rfl (o_mvh h9 (WL.c rfl (o_addi rfl rfl (by omega) (WL.c rfl (o_ash vI (WL.nil (⟨⟨k + 1, by omega, h3, h4, rfl, hav, hM.congr (fun _ _ => rfl) (fun _ _ => rfl) (fun j hj => mid_end _ hj), hx⟩, ?_⟩)))))))))
  show D.length - ((k : Int) + 1).toNat < _
  rw [hm9]; simp [intOf]; omega
 try simp only [cs8] at c45
 have hk1 : k = D.length := by omega
 subst hk1
 refine W.exit (W.seq ?_)
 obtain ⟨HH, hHH⟩ : ∃ m, m = w.heap.size := ⟨_, rfl⟩
 have hBH : BB ≤ HH := by rw [hBB, hHH]; exact hx.size
 have hlq : ∀ j, j < D.length → ∀ k, (Q j).ownBlock = some k → k < HH := fun j hj k hk => by rw [hHH]; exact (hM.lt hj hk).2
 refine W.region (WL.c rfl (o_ash (by first | exact vS | exact rfl) (WL.nil (W.seq (W.seq (W.region (WL.c rfl (o_ash vI (WL.nil (W.block (W.loop (fun e w => ∃ (d : Nat) (ov : Value), d ≤ D.length ∧ e 3 = .int .i64 (D.length : Int) ∧ e 4 = av ∧ e 12 = ov ∧ e 13 = .int .i64 (d : Int) ∧ HH ≤ w.heap.size ∧ w.ownsRow HH 4 1 ov d ((List.range d).map fun d => Value.bool (warN D D.length d d)) ∧ w.ownsRow BB 43 1 av D.length ((List.range D.length).map Q) ∧ Many w BB 4 1 D.length Q (fun _ => D.length) (brow D.length (warN D D.length)) ∧ Ext w0 w) (fun e w => D.length - (intOf (e 13)).toNat) ?_ ?_)))))))))))
 ·exact ⟨0, .slice none 0 0, Nat.zero_le _, h3, h4, rfl, rfl, by rw [hHH]; exact Nat.le_refl _, World.ownsRow_nil _ _ _ _, hav, hM, hx⟩
 rintro e w ⟨d, ov, hd, h3, h4, h12, h13, hHw, hro, hav, hM, hx⟩
 have hm13 := h13
 refine W.seq (W.seq (W.region (WL.c rfl (o_mvh h13 (WL.c rfl (o_mvh h3 (WL.c rfl (o_lt rfl rfl (WL.nil (W.cond rfl (fun c91 => ?_) (fun c91 => ?_)))))))))))
 ·try simp only [cs8] at c91
  have hd1 : d < D.length := by omega
  obtain ⟨ab, ac, hab, habb⟩ := own_some hav (by omega)
  obtain ⟨rb, rc, hQa, hrb⟩ := own_some (hM.row d hd1) (by omega)
  rw [hab] at h4
  have ca : w.cell? ⟨ab, 0 + d * 1, none⟩ = some (.slice (some ⟨rb, 0, none⟩) D.length rc) := by rw [Nat.zero_add, Nat.mul_one, ← hQa]; exact own_cell (hab ▸ hav) (by rw [List.getElem?_map, List.getElem?_range hd1]; rfl)
  have cd : w.cell? ⟨rb, 0 + d * 1, none⟩ = some (.bool (warN D D.length d d)) := by
   rw [Nat.zero_add, Nat.mul_one]; exact own_cell (hQa ▸ hM.row d hd1) (brow_at hd1)
  refine W.skip (W.seq (W.block (W.region (WL.c rfl (o_mvh h12 (WL.c rfl (o_mvh h4 (WL.c rfl (o_mvh h13 (WL.c rfl (o_ixB (i := d) TI149 TI43 (show _ = Value.slice (some ⟨ab, 0, none⟩) D.length ac from rfl) (show _ = Value.int .i64 (d : Int) from rfl) (by omega) (WL.c rfl (o_ld TI43 rfl rfl ca (WL.c rfl (o_mvh h13 (WL.c rfl (o_ixB (i := d) TI43 TI4 (show _ = Value.slice (some ⟨rb, 0, none⟩) D.length rc from rfl) (show _ = Value.int .i64 (d : Int) from rfl) (by omega) (WL.c rfl (o_ld TI4 rfl rfl cd (WL.apO (HH) rfl rfl TI43 TI4 vB rfl hro (by decide) (by decide) rfl (one1 rfl) rfl (by rw [maxLen_eq]; omega) (by omega) hHw ?_))))))))))))))))))))
  intro ovN w103 hroN ho103 hb103 _
  have hlo : ∀ b, ov.ownBlock = some b → HH ≤ b := fun b hb => (hro.lt b hb).1
  replace hav := own_only hav ho103 (own_row_off hro hav (by decide))
  replace hM := hM.only ho103 (fun j hj k hk he => by have := hlq j hj k hk; have := hlo k he; omega)
  replace hx := hx.trans' ho103 (fun _ h => h) (fun b hb he => by have := hlo b he; omega)
  replace hHw := Nat.le_trans hHw ho103.size
  replace hroN : w103.ownsRow HH 4 1 ovN (d + 1) ((List.range (d + 1)).map fun d => Value.bool (warN D D.length d d)) := by
   rw [List.range_succ, List.map_append]; exact hroN
  clear hro ho103
  refine WL.c rfl (o_ash (by first | exact vS | exact rfl) (WL.nil (W.region (WL.c rfl (o_mvh h13 (WL.c rfl (o_addi rfl rfl (by omega) (WL.c rfl (o_ash vI (WL.nil (⟨⟨d + 1, ovN, by omega, h3, h4.trans hab.symm, rfl, rfl, hHw, hroN, hav, hM, hx⟩, ?_⟩)))))))))))
  show D.length - ((d : Int) + 1).toNat < _
  rw [hm13]; simp [intOf]; omega
 try simp only [cs8] at c91
 have hd1 : d = D.length := by omega
 subst hd1
 refine W.exit (W.seq (W.region (WL.c rfl (o_mvh h12 (WL.c rfl (o_ash (by first | exact vS | exact rfl) (WL.nil (W.ret (ret1v rfl rfl ?_)))))))))
 exact ⟨own_mono hro hBH, hx⟩
end Go.Proofs.Ytpbflfgigfdohaa
