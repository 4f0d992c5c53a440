/-
  Walks and lemmas. Written by program out of specs of mine.
-/
import Derived.WalkKit
import Derived.WalkSpells
import Derived.WalkLawsBesides
import Derived.Deep.Quiet
import Derived.StillTail
import Derived.StringKeys
import Derived.Laws.StructEq
import Derived.Laws.Externs
import Derived.Laws.Tables
import Derived.Scope
import Derived.Test.YtpbflfgigfdohaaProg
import Derived.Laws.AppendOwn
import Derived.Maps.AppendAt
import Derived.Recover
import Derived.Lib.Bytealg
import Derived.SizedLaws
import Derived.ChangeArms
import Derived.ChangeSlices
import Derived.Maps.OwnSet
import Derived.Test.YtpbflfgigfdohaaRows
import Derived.ProofKit
import Derived.OpenShut
import Derived.ShutString
import Derived.ChangeOld
import Derived.Below
import Derived.JoinedCond
import Derived.SliceStrings
import Derived.Test.YtpbflfgigfdohaaKe6
set_option linter.unusedSimpArgs false
set_option linter.unusedVariables false
set_option maxRecDepth 100000
namespace Go.Proofs.Ytpbflfgigfdohaa
open Go Go.Vc Go.RowKit Go.Proofs

theorem rmake_all (wB : World) (pb : Nat) (D : List Df) (dv rv : Value) (V : Nat → Value) (f : Nat → Int) (N : Nat) (hDB : DefR wB D dv V) (hlen : D.length * 48 ≤ 140737488351232) (hN : N ≤ 2932031007402) : ∀ (m : Nat) (t : Tr), t.flat.length ≤ m → SMk wB pb D dv rv f N t
 | 0, .node y ks, h => by simp [Tr.flat] at h
 | m + 1, .node y ks, h => fun Ls rest lv at_ L tv U a d w0 h1 h2 h3 h4 h5 h6 h7 h8 => rmake_step wB pb D dv rv V f N hDB hlen hN y ks (fun t ht => rmake_all wB pb D dv rv V f N hDB hlen hN m t (by omega)) Ls rest lv at_ L tv U a d w0 h1 h2 h3 h4 h5 h6 h7 h8
mutual
theorem mkT_congr {rt rt' : List UInt8 → Int} : ∀ (t : Tr) (L : List Tp), (∀ x ∈ t.flat, x.kind = 9 → rt x.name = rt' x.name) → mkT rt t L = mkT rt' t L
 | .node y ks, L, h => by
  rw [mkT, mkT]
  by_cases h9 : y.kind = 9
  ·rw [if_pos h9, if_pos h9, h y (List.mem_cons_self ..) h9]
  rw [if_neg h9, if_neg h9, mkK_congr ks y.kind L 0 [] (fun x hx => h x (List.mem_cons_of_mem _ hx))]
theorem mkK_congr {rt rt' : List UInt8 → Int} : ∀ (ts : Trs) (kind : Int) (L : List Tp) (el : Int) (ps : List Pa), (∀ x ∈ ts.flat, x.kind = 9 → rt x.name = rt' x.name) → mkK rt kind ts L el ps = mkK rt' kind ts L el ps
 | .nil, kind, L, el, ps, _ => by rw [mkK, mkK]
 | .cons t ts, kind, L, el, ps, h => by
  rw [mkK, mkK, mkT_congr t L (fun x hx => h x (List.mem_append_left _ hx))]
  split
  ·exact mkK_congr ts kind _ _ _ (fun x hx => h x (List.mem_append_right _ hx))
  exact mkK_congr ts kind _ _ _ (fun x hx => h x (List.mem_append_right _ hx))
end
noncomputable def mkR (D : List Df) (k : Nat) : (Nat → Int) × List Tp := mkO (whD D) (TD D) ((ordN D).take k) (fun _ => -1) []
theorem mkR_succ {D : List Df} {k : Nat} (hk : k < (ordN D).length) : mkR D (k + 1) = (upI (mkR D k).1 (ordN D)[k] (mkT (fun nm => (mkR D k).1 (whD D nm)) (TD D (ordN D)[k]) (mkR D k).2).1, (mkT (fun nm => (mkR D k).1 (whD D nm)) (TD D (ordN D)[k]) (mkR D k).2).2) := mkO_take hk
theorem mkR_eq {D : List Df} (hG : Good D) : ∀ k, k ≤ (ordN D).length → (mkR D k).2 = (mkS D k).2 ∧ ∀ i ∈ (ordN D).take k, (mkR D k).1 i = (mkS D k).1 i
 | 0, _ => ⟨rfl, fun i hi => by simp at hi⟩
 | k + 1, hk => by
  obtain ⟨h1, h2⟩ := mkR_eq hG k (by omega)
  obtain ⟨hto, htl⟩ := hG.ord
  have hk1 : k < (ordN D).length := by omega
  have hS := mkS_succ hk1
  have hR := mkR_succ hk1
  obtain ⟨i, hie⟩ : ∃ i, i = (ordN D)[k] := ⟨_, rfl⟩
  have hi : i < D.length := by rw [hie]; exact hto.lt _ (List.getElem_mem hk1)
  have htk : (ordN D).take (k + 1) = (ordN D).take k ++ [i] := by rw [List.take_succ_eq_append_getElem hk1, hie]
  rw [← hie] at hS hR
  have hfl := hG.trd.fl i hi
  have hc : mkT (fun nm => (mkR D k).1 (whD D nm)) (TD D i) (mkR D k).2 = mkT (fun nm => (mkS D k).1 (whD D nm)) (TD D i) (mkS D k).2 := by
   rw [h1]
   refine mkT_congr _ _ fun x hx h9 => ?_
   rw [hfl, tyD_at hi] at hx
   have h3 := uses_mem hi hx h9
   rw [hie] at h3
   exact h2 _ (hto.bh k hk1 _ h3)
  rw [hS, hR, hc]
  refine ⟨rfl, fun j hj => ?_⟩
  show upI _ _ _ j = upI _ _ _ j
  unfold upI
  by_cases e : j = i
  ·rw [if_pos e, if_pos e]
  rw [if_neg e, if_neg e]
  rw [htk] at hj
  rcases List.mem_append.1 hj with hj | hj
  ·exact h2 j hj
  exact absurd (List.mem_singleton.1 hj) e
theorem rooN_congr {D : List Df} {f g : Nat → Int} (h : ∀ i, i < D.length → f i = g i) : rooN D f = rooN D g := by
 unfold rooN
 exact List.map_congr_left fun i hi => by rw [h i (List.mem_range.1 hi)]
theorem mkR_all {D : List Df} (hG : Good D) : (mkR D (ordN D).length).2 = schT D ∧ rooN D (mkR D (ordN D).length).1 = schR D := by
 obtain ⟨h1, h2⟩ := mkR_eq hG _ (Nat.le_refl _)
 obtain ⟨hto, htl⟩ := hG.ord
 refine ⟨by rw [h1, mkS_all]; rfl, ?_⟩
 rw [rooN_congr (g := (mkS D (ordN D).length).1) (fun i hi => h2 i (by rw [List.take_length]; exact hto.all htl i hi)), mkS_all]
 rfl
theorem bfill9 {dv : Value} : Instr.fill (([(0, 1), (1, 1), (2, 1)] : List (Nat × Nat)).toArray[·]?) (Value.agg #[.slice none 0 0, .slice none 0 0, .slice none 0 0]).cells [(2, .agg #[dv])] = some #[.slice none 0 0, .slice none 0 0, dv] := by
 have h1 : (Value.agg #[dv]).cells = #[dv] := by simp [Value.cells]
 have hz : (Value.agg #[.slice none 0 0, .slice none 0 0, .slice none 0 0]).cells = #[.slice none 0 0, .slice none 0 0, .slice none 0 0] := by simp [Value.cells]
 rw [hz]
 simp [Instr.fill, h1]
theorem zvs_succ (n : Nat) (f : Nat → Int) : zvs (n + 1) f = zvs n f ++ [.int .i64 (f n)] := by
 unfold zvs
 rw [List.range_succ, List.map_append]; rfl
theorem BR.rvc {wB w : World} {pb n rb rc : Nat} {dv rv : Value} {f : Nat → Int} {L : List Tp} {tv : Value} {U : Nat → Value} (h : BR wB w pb dv rv n f L tv U) (hr : rv = .slice (some ⟨rb, 0, none⟩) n rc) : w.cell? ⟨pb, 0 + 1, none⟩ = some (.slice (some ⟨rb, 0, none⟩) n rc) := by
 rw [← hr]; exact cell_of h.cell rfl

set_option maxHeartbeats 8000000 in
theorem rbuild_spec (D : List Df) (dv : Value) (V : Nat → Value) (w0 : World) (hD : DefR w0 D dv V) (hlim : DOk D) (hnb : ∀ d ∈ D, d.ty.length ≤ 11453246122) : Ca Try.prog 12 #[.agg #[dv]] w0 (fun v w' => ∃ tv rv U, v = .tuple #[.agg #[tv, rv], .agg #[.int .i64 (bldV D).1, .int .i64 (bldV D).2]] ∧ Schs w' w0.heap.size (bldT D) (bldR D) tv rv U ∧ Ext w0 w') := by
 have hlen := hlim.len
 have hD00 := hD
 obtain ⟨fe, fa, hf⟩ : ∃ fe fa, flt D = (fe, fa) := ⟨_, _, rfl⟩
 refine Ca.of Try.func12 Try.ntmps12 rfl rfl (W.seq (W.region (WL.c rfl (o_boxB rfl ?_))))
 intro w1 hC1 hx1 hs1
 obtain ⟨b1, hb1⟩ : ∃ b, b = w0.heap.size := ⟨_, rfl⟩
 rw [← hb1] at hC1 ⊢
 replace hC1 : w1.heap[b1]? = some (.cells ([dv]).toArray 25 (0, 0)) := hC1
 have hx := hx1
 replace hD := hD.ext hx1
 refine WL.c rfl (o_alB TI34 ?_)
 have hq2 := hx.size
 intro wb hC2 hxb hsb
 replace hx := hx.tr hxb
 replace hD := hD.ext hxb
 replace hC1 := hxb.blk hC1 (fun h => h)
 obtain ⟨c2, hc2⟩ : ∃ c, c = w1.heap.size := ⟨_, rfl⟩
 rw [← hc2] at hC2 ⊢
 replace hC2 : wb.heap[c2]? = some (.cells #[.slice none 0 0, .slice none 0 0] 34 (0, 0)) := hC2
 have hz2 : w0.heap.size ≤ c2 := by rw [hc2]; exact hq2
 clear hxb
 refine WL.c rfl (o_alB TI28 ?_)
 have hq3 := hx.size
 intro wc hC3 hxb hsb
 replace hx := hx.tr hxb
 replace hD := hD.ext hxb
 replace hC1 := hxb.blk hC1 (fun h => h)
 replace hC2 := hxb.blk hC2 (fun h => h)
 obtain ⟨c3, hc3⟩ : ∃ c, c = wb.heap.size := ⟨_, rfl⟩
 rw [← hc3] at hC3 ⊢
 replace hC3 : wc.heap[c3]? = some (.cells #[.int .i64 0, .int .i64 0] 28 (0, 0)) := hC3
 have hz3 : w0.heap.size ≤ c3 := by rw [hc3]; exact hq3
 clear hxb
 refine WL.nil (W.seq (W.region (WL.c rfl (o_ldA TI25 rfl rfl (show Cells _ b1 0 [dv] from Cells.of hC1 0 _ (by simp)) rfl (WL.c rfl (o_call Try.call35 (lc rfl ln) ((rcheck_spec D dv V _ hD hlim.lim).mono ?_)))))))
 rintro v22 w22 ⟨rfl, hx22⟩
 rw [show rs3 (chkS D) = .tuple #[.int .i64 ((chkS D).1 : Int), .int .i64 ((chkS D).2.1 : Int), .int .i64 ((chkS D).2.2 : Int)] from rfl]
 replace hx := hx.tr hx22
 replace hD := hD.ext hx22
 replace hC1 := hx22.blk hC1 (fun h => h)
 replace hC2 := hx22.blk hC2 (fun h => h)
 replace hC3 := hx22.blk hC3 (fun h => h)
 refine WL.c rfl (o_mvh (by first | exact (show _ = Value.tuple _ from rfl) | exact rfl) (WL.c rfl (o_ext rfl rfl (WL.c rfl (o_ext rfl rfl (WL.c rfl (o_ext rfl rfl (WL.c rfl (o_ash vI (WL.c rfl (o_ash vI (WL.c rfl (o_ash vI (WL.nil (W.seq (W.seq (W.region (WL.c rfl (o_mvh vI (WL.c rfl (o_ne rfl rfl (WL.nil (W.cond rfl (fun c27 => ?_) (fun c27 => ?_))))))))))))))))))))))))
 ·try simp only [cs8] at c27
  have hck : ¬ (chkS D).2.2 = 0 := by intro h; simp [h] at c27
  have hb := bld_ck hck
  refine W.seq ?_
  skip
  skip
  refine W.region (WL.c rfl (o_bldC (cs := [(.slice none 0 0), (.slice none 0 0)]) TI34 (Sizes.cons TI31 (Sizes.cons TI32 Sizes.nil)) rfl lnp rfl rfl (WL.c rfl (o_mvh vI (WL.c rfl (o_bldC (cs := [_, (.int .i64 0)]) TI28 (Sizes.cons TI26 (Sizes.cons TI3 Sizes.nil)) rfl (lcp vI lnp) rfl rfl (WL.u (o_stA TI34 rfl (show _ = Value.agg #[.slice none 0 0, .slice none 0 0] from rfl) rfl rfl hC2 rfl ?_))))))))
  intro wy hC2y hoy hsy
  replace hC3 := hoy.blk hC3 (blk_ne3 hC3 hC2 (by decide))
  replace hx := hx.trans' hoy (fun _ h => h) (fun b hb he => by omega)
  refine WL.u (o_stA TI28 rfl (show _ = Value.agg #[.int .i64 ((chkS D).2.2 : Int), .int .i64 0] from rfl) rfl rfl hC3 rfl ?_)
  intro wz hC3z hoz hsz
  replace hC2y := hoz.blk hC2y (blk_ne3 hC2y hC3 (by decide))
  replace hx := hx.trans' hoz (fun _ h => h) (fun b hb he => by omega)
  refine WL.nil (W.ret (retAA rfl TI34 rfl TI28 rfl rfl rfl (show Cells _ c2 0 [.slice none 0 0, .slice none 0 0] from Cells.of hC2y 0 _ (by simp)) rfl (show Cells _ c3 0 [.int .i64 ((chkS D).2.2 : Int), .int .i64 0] from Cells.of hC3z 0 _ (by simp)) rfl ?_))
  obtain ⟨hv1, hv2⟩ := bldV_of hb
  refine ⟨.slice none 0 0, .slice none 0 0, fun _ => undef, by rw [hv1, hv2], ?_, hx⟩
  rw [(bld_bad hb).1, (bld_bad hb).2]
  exact Schs.nil _ _ _
 try simp only [cs8] at c27
 have hck : (chkS D).2.2 = 0 := by
  have h1 : ((chkS D).2.2 : Int) = 0 := by simpa using c27
  omega
 refine W.skip (W.seq (W.region (WL.c rfl (o_ldA TI25 rfl rfl (show Cells _ b1 0 [dv] from Cells.of hC1 0 _ (by simp)) rfl (WL.c rfl (o_call Try.call36 (lc rfl ln) ((rnames_check_spec D dv V _ hD hlim).mono ?_)))))))
 rintro v33 w33 ⟨rfl, hx33⟩
 rw [hf]
 replace hx := hx.tr hx33
 replace hD := hD.ext hx33
 replace hC1 := hx33.blk hC1 (fun h => h)
 replace hC2 := hx33.blk hC2 (fun h => h)
 replace hC3 := hx33.blk hC3 (fun h => h)
 refine WL.c rfl (o_mvh (by first | exact (show _ = Value.tuple _ from rfl) | exact rfl) (WL.c rfl (o_ext rfl rfl (WL.c rfl (o_ext rfl rfl (WL.c rfl (o_ash vI (WL.c rfl (o_ash vI (WL.nil (W.seq (W.seq (W.region (WL.c rfl (o_mvh vI (WL.c rfl (o_ne rfl rfl (WL.nil (W.cond rfl (fun c37 => ?_) (fun c37 => ?_))))))))))))))))))))
 ·try simp only [cs8] at c37
  have hfe : ¬ fe = 0 := by simpa using c37
  have hb : bldF D = some (fe, fa) := bld_fA hck (fA_of_flt hf hfe)
  refine W.seq ?_
  skip
  skip
  refine W.region (WL.c rfl (o_bldC (cs := [(.slice none 0 0), (.slice none 0 0)]) TI34 (Sizes.cons TI31 (Sizes.cons TI32 Sizes.nil)) rfl lnp rfl rfl (WL.c rfl (o_mvh vI (WL.c rfl (o_mvh vI (WL.c rfl (o_bldC (cs := [_, _]) TI28 (Sizes.cons TI26 (Sizes.cons TI3 Sizes.nil)) rfl (lcp vI (lcp vI lnp)) rfl rfl (WL.u (o_stA TI34 rfl (show _ = Value.agg #[.slice none 0 0, .slice none 0 0] from rfl) rfl rfl hC2 rfl ?_))))))))))
  intro wy hC2y hoy hsy
  replace hC3 := hoy.blk hC3 (blk_ne3 hC3 hC2 (by decide))
  replace hx := hx.trans' hoy (fun _ h => h) (fun b hb he => by omega)
  refine WL.u (o_stA TI28 rfl (show _ = Value.agg #[.int .i64 fe, .int .i64 fa] from rfl) rfl rfl hC3 rfl ?_)
  intro wz hC3z hoz hsz
  replace hC2y := hoz.blk hC2y (blk_ne3 hC2y hC3 (by decide))
  replace hx := hx.trans' hoz (fun _ h => h) (fun b hb he => by omega)
  refine WL.nil (W.ret (retAA rfl TI34 rfl TI28 rfl rfl rfl (show Cells _ c2 0 [.slice none 0 0, .slice none 0 0] from Cells.of hC2y 0 _ (by simp)) rfl (show Cells _ c3 0 [.int .i64 fe, .int .i64 fa] from Cells.of hC3z 0 _ (by simp)) rfl ?_))
  obtain ⟨hv1, hv2⟩ := bldV_of hb
  refine ⟨.slice none 0 0, .slice none 0 0, fun _ => undef, by rw [hv1, hv2], ?_, hx⟩
  rw [(bld_bad hb).1, (bld_bad hb).2]
  exact Schs.nil _ _ _
 try simp only [cs8] at c37
 have hfe : fe = 0 := by simpa using c37
 have hfn : fA D = none := flt_good hf hfe
 have hG := good_of hfn
 refine W.skip (W.seq (W.seq (W.region (WL.c rfl (o_ash vI (WL.nil (W.block (W.loop (fun e w => ∃ i : Nat, i ≤ D.length ∧ e 1 = .pointer (some ⟨b1, 0, none⟩) ∧ e 2 = .pointer (some ⟨c2, 0, none⟩) ∧ e 3 = .pointer (some ⟨c3, 0, none⟩) ∧ e 9 = .int .i64 (i : Int) ∧ (∀ j, j < i → bndD D j = none) ∧ w.heap[b1]? = some (.cells #[dv] 25 (0, 0)) ∧ w.heap[c2]? = some (.cells #[.slice none 0 0, .slice none 0 0] 34 (0, 0)) ∧ w.heap[c3]? = some (.cells #[.int .i64 0, .int .i64 0] 28 (0, 0)) ∧ Ext w0 w) (fun e w => D.length - (intOf (e 9)).toNat) ?_ ?_))))))))
 ·exact ⟨0, Nat.zero_le _, rfl, rfl, rfl, rfl, fun j hj => by omega, hC1, hC2, hC3, hx⟩
 rintro e w ⟨i, hi, h1, h2, h3, h9, hno, hC1, hC2, hC3, hx⟩
 have hm9 := h9
 refine W.seq (W.seq (W.region (WL.c rfl (o_mvh h9 (WL.c rfl (o_fa 0 TI25 rfl TI23 rfl h1 (WL.c rfl (o_ld TI23 rfl rfl (cell_of hC1 rfl) (WL.c rfl (o_lenR TI23 rfl (hD00.ext hx).row (WL.c rfl (o_lt rfl rfl (WL.nil (W.cond rfl (fun c46 => ?_) (fun c46 => ?_)))))))))))))))
 ·try simp only [cs8] at c46
  have hi1 : i < D.length := by omega
  obtain ⟨tb, to_, tc, hdv, htc, hty⟩ := hD00.atk hi1
  have htl := hlim.ty _ (List.getElem_mem hi1)
  have hC1s := hC1
  rw [hdv] at hC1s
  refine W.skip (W.seq (W.block (W.seq (W.region (WL.c rfl (o_fa 0 TI25 rfl TI23 rfl h1 (WL.c rfl (o_ld TI23 rfl rfl (cell_of hC1s rfl) (WL.c rfl (o_mvh h9 (WL.c rfl (o_ixB (i := i) TI23 TI39 (show _ = Value.slice (some ⟨tb, to_, none⟩) D.length tc from rfl) (show _ = Value.int .i64 (i : Int) from rfl) (by omega) (WL.c rfl (o_fa 2 TI39 rfl TI37 rfl rfl (WL.c rfl (o_ld TI37 rfl rfl (Cells.only htc hx (fun h => h) 2 _ rfl) (WL.c rfl (o_ash (by first | exact vS | exact rfl) (WL.nil (W.seq (W.region (WL.c rfl (o_ash vI (WL.nil (W.block (W.loop (fun e w => ∃ q : Nat, q ≤ D[i].ty.length ∧ e 1 = .pointer (some ⟨b1, 0, none⟩) ∧ e 2 = .pointer (some ⟨c2, 0, none⟩) ∧ e 3 = .pointer (some ⟨c3, 0, none⟩) ∧ e 9 = .int .i64 (i : Int) ∧ e 10 = V i ∧ e 11 = .int .i64 (q : Int) ∧ (∀ j, j < q → bndN D[i].ty j = none) ∧ w.heap[b1]? = some (.cells #[dv] 25 (0, 0)) ∧ w.heap[c2]? = some (.cells #[.slice none 0 0, .slice none 0 0] 34 (0, 0)) ∧ w.heap[c3]? = some (.cells #[.int .i64 0, .int .i64 0] 28 (0, 0)) ∧ Ext w0 w) (fun e w => D[i].ty.length - (intOf (e 11)).toNat) ?_ ?_))))))))))))))))))))))))))
  ·exact ⟨0, Nat.zero_le _, h1, h2, h3, h9, rfl, rfl, fun j hj => by omega, hC1, hC2, hC3, hx⟩
  rintro e w ⟨q, hq, h1, h2, h3, h9, h10, h11, hnn, hC1, hC2, hC3, hx⟩
  have hm11 := h11
  refine W.seq (W.seq (W.region (WL.c rfl (o_mvh h11 (WL.c rfl (o_mvh h10 (WL.c rfl (o_lenR TI37 rfl (hty.ext hx) (WL.c rfl (o_lt rfl rfl (WL.nil (W.cond rfl (fun c58 => ?_) (fun c58 => ?_)))))))))))))
  ·try simp only [cs8] at c58
   have hq1 : q < D[i].ty.length := by omega
   obtain ⟨ub, uo, uc, hV, huc⟩ := Sl.exq hty hq1
   rw [hV] at h10
   refine W.skip (W.seq (W.block (W.seq (W.region (WL.cut (fun e1 w1 => e1 98 = .bool (outB D[i].ty[q]) ∧ e1 1 = .pointer (some ⟨b1, 0, none⟩) ∧ e1 2 = .pointer (some ⟨c2, 0, none⟩) ∧ e1 3 = .pointer (some ⟨c3, 0, none⟩) ∧ e1 9 = .int .i64 (i : Int) ∧ e1 10 = .slice (some ⟨ub, uo, none⟩) D[i].ty.length uc ∧ e1 11 = .int .i64 (q : Int) ∧ w1.heap[b1]? = some (.cells #[dv] 25 (0, 0)) ∧ w1.heap[c2]? = some (.cells #[.slice none 0 0, .slice none 0 0] 34 (0, 0)) ∧ w1.heap[c3]? = some (.cells #[.int .i64 0, .int .i64 0] 28 (0, 0)) ∧ Ext w0 w1) ?_ ?_)))))
   ·-- region 14
    refine WL.c rfl (o_mvh h10 (WL.c rfl (o_mvh h11 (WL.c rfl (o_ixB (i := q) TI37 TI41 (show _ = Value.slice (some ⟨ub, uo, none⟩) D[i].ty.length uc from rfl) (show _ = Value.int .i64 (q : Int) from rfl) (by omega) (WL.c rfl (o_fa 0 TI41 rfl TI3 rfl rfl (WL.c rfl (o_ld TI3 rfl rfl (Cells.only huc hx (fun h => h) 0 _ rfl) (WL.c rfl (o_eq rfl rfl (WL.c rfl (o_mvh vB (WL.sp 6 rfl (fun g67 => ?_) (fun g67 => ?_)))))))))))))))
    ·skip
     refine WL.s rfl (g67) rfl (WL.s rfl (g67) rfl (WL.s rfl (g67) rfl (WL.s rfl (g67) rfl (WL.s rfl (g67) rfl (WL.s rfl (g67) rfl (WL.c rfl (o_pickT rfl (g67) (WL.c rfl (o_mvh vB (WL.g rfl (rfl) rfl (o_mvh h10 (WL.g rfl (rfl) rfl (o_mvh h11 (WL.g rfl (rfl) rfl (o_ixB (i := q) TI37 TI41 (show _ = Value.slice (some ⟨ub, uo, none⟩) D[i].ty.length uc from rfl) (show _ = Value.int .i64 (q : Int) from rfl) (by omega) (WL.g rfl (rfl) rfl (o_fa 1 TI41 rfl TI3 rfl rfl (WL.g rfl (rfl) rfl (o_ld TI3 rfl rfl (Cells.only huc hx (fun h => h) 1 _ rfl) (WL.g rfl (rfl) rfl (o_lt rfl rfl (WL.g rfl (rfl) rfl (o_mvh vB (WL.sp 21 rfl (fun g82 => ?_) (fun g82 => ?_)))))))))))))))))))))))))
     ·skip
      refine WL.s rfl (g82) rfl (WL.s rfl (g82) rfl (WL.s rfl (g82) rfl (WL.s rfl (g82) rfl (WL.s rfl (g82) rfl (WL.s rfl (g82) rfl (WL.g rfl (rfl) rfl (o_pickT rfl (g82) (WL.c rfl (o_pickA rfl rfl (WL.c rfl (o_mvh vB (WL.sp 30 rfl (fun g91 => ?_) (fun g91 => ?_)))))))))))))
      ·skip
       refine WL.s rfl (g91) rfl (WL.s rfl (g91) rfl (WL.s rfl (g91) rfl (WL.s rfl (g91) rfl (WL.s rfl (g91) rfl (WL.s rfl (g91) rfl (WL.c rfl (o_pickT rfl (g91) ?_)))))))
       exact WL.nil (⟨congrArg Value.bool (by rw [Bool.eq_iff_iff]; simp_all [outB] <;> omega), h1, h2, h3, h9, h10, h11, hC1, hC2, hC3, hx⟩)
      skip
      refine WL.g rfl (g91) rfl (o_mvh h10 (WL.g rfl (g91) rfl (o_mvh h11 (WL.g rfl (g91) rfl (o_ixB (i := q) TI37 TI41 (show _ = Value.slice (some ⟨ub, uo, none⟩) D[i].ty.length uc from rfl) (show _ = Value.int .i64 (q : Int) from rfl) (by omega) (WL.g rfl (g91) rfl (o_fa 4 TI41 rfl TI3 rfl rfl (WL.g rfl (g91) rfl (o_ld TI3 rfl rfl (Cells.only huc hx (fun h => h) 4 _ rfl) (WL.g rfl (g91) rfl (o_gt rfl rfl (WL.c rfl (o_pickO rfl rfl ?_)))))))))))))
      exact WL.nil (⟨congrArg Value.bool (by rw [Bool.eq_iff_iff]; simp_all [outB] <;> omega), h1, h2, h3, h9, h10, h11, hC1, hC2, hC3, hx⟩)
     skip
     refine WL.g rfl (g82) rfl (o_mvh h10 (WL.g rfl (g82) rfl (o_mvh h11 (WL.g rfl (g82) rfl (o_ixB (i := q) TI37 TI41 (show _ = Value.slice (some ⟨ub, uo, none⟩) D[i].ty.length uc from rfl) (show _ = Value.int .i64 (q : Int) from rfl) (by omega) (WL.g rfl (g82) rfl (o_fa 1 TI41 rfl TI3 rfl rfl (WL.g rfl (g82) rfl (o_ld TI3 rfl rfl (Cells.only huc hx (fun h => h) 1 _ rfl) (WL.g rfl (g82) rfl (o_gt rfl rfl (WL.g rfl (rfl) rfl (o_pickO rfl rfl (WL.c rfl (o_pickA rfl rfl (WL.c rfl (o_mvh vB (WL.sp 30 rfl (fun g91 => ?_) (fun g91 => ?_)))))))))))))))))))
     ·skip
      refine WL.s rfl (g91) rfl (WL.s rfl (g91) rfl (WL.s rfl (g91) rfl (WL.s rfl (g91) rfl (WL.s rfl (g91) rfl (WL.s rfl (g91) rfl (WL.c rfl (o_pickT rfl (g91) ?_)))))))
      exact WL.nil (⟨congrArg Value.bool (by rw [Bool.eq_iff_iff]; simp_all [outB] <;> omega), h1, h2, h3, h9, h10, h11, hC1, hC2, hC3, hx⟩)
     skip
     refine WL.g rfl (g91) rfl (o_mvh h10 (WL.g rfl (g91) rfl (o_mvh h11 (WL.g rfl (g91) rfl (o_ixB (i := q) TI37 TI41 (show _ = Value.slice (some ⟨ub, uo, none⟩) D[i].ty.length uc from rfl) (show _ = Value.int .i64 (q : Int) from rfl) (by omega) (WL.g rfl (g91) rfl (o_fa 4 TI41 rfl TI3 rfl rfl (WL.g rfl (g91) rfl (o_ld TI3 rfl rfl (Cells.only huc hx (fun h => h) 4 _ rfl) (WL.g rfl (g91) rfl (o_gt rfl rfl (WL.c rfl (o_pickO rfl rfl ?_)))))))))))))
     exact WL.nil (⟨congrArg Value.bool (by rw [Bool.eq_iff_iff]; simp_all [outB] <;> omega), h1, h2, h3, h9, h10, h11, hC1, hC2, hC3, hx⟩)
    skip
    refine WL.g rfl (g67) rfl (o_mvh h10 (WL.g rfl (g67) rfl (o_mvh h11 (WL.g rfl (g67) rfl (o_ixB (i := q) TI37 TI41 (show _ = Value.slice (some ⟨ub, uo, none⟩) D[i].ty.length uc from rfl) (show _ = Value.int .i64 (q : Int) from rfl) (by omega) (WL.g rfl (g67) rfl (o_fa 0 TI41 rfl TI3 rfl rfl (WL.g rfl (g67) rfl (o_ld TI3 rfl rfl (Cells.only huc hx (fun h => h) 0 _ rfl) (WL.g rfl (g67) rfl (o_eq rfl rfl (WL.c rfl (o_pickO rfl rfl (WL.c rfl (o_mvh vB (WL.sp 14 rfl (fun g75 => ?_) (fun g75 => ?_)))))))))))))))))
    ·skip
     refine WL.g rfl (g75) rfl (o_mvh h10 (WL.g rfl (g75) rfl (o_mvh h11 (WL.g rfl (g75) rfl (o_ixB (i := q) TI37 TI41 (show _ = Value.slice (some ⟨ub, uo, none⟩) D[i].ty.length uc from rfl) (show _ = Value.int .i64 (q : Int) from rfl) (by omega) (WL.g rfl (g75) rfl (o_fa 1 TI41 rfl TI3 rfl rfl (WL.g rfl (g75) rfl (o_ld TI3 rfl rfl (Cells.only huc hx (fun h => h) 1 _ rfl) (WL.g rfl (g75) rfl (o_lt rfl rfl (WL.g rfl (g75) rfl (o_mvh vB (WL.sp 21 rfl (fun g82 => ?_) (fun g82 => ?_)))))))))))))))
     ·skip
      refine WL.s rfl (g82) rfl (WL.s rfl (g82) rfl (WL.s rfl (g82) rfl (WL.s rfl (g82) rfl (WL.s rfl (g82) rfl (WL.s rfl (g82) rfl (WL.g rfl (g75) rfl (o_pickT rfl (g82) (WL.c rfl (o_pickA rfl rfl (WL.c rfl (o_mvh vB (WL.sp 30 rfl (fun g91 => ?_) (fun g91 => ?_)))))))))))))
      ·skip
       refine WL.s rfl (g91) rfl (WL.s rfl (g91) rfl (WL.s rfl (g91) rfl (WL.s rfl (g91) rfl (WL.s rfl (g91) rfl (WL.s rfl (g91) rfl (WL.c rfl (o_pickT rfl (g91) ?_)))))))
       exact WL.nil (⟨congrArg Value.bool (by rw [Bool.eq_iff_iff]; simp_all [outB] <;> omega), h1, h2, h3, h9, h10, h11, hC1, hC2, hC3, hx⟩)
      skip
      refine WL.g rfl (g91) rfl (o_mvh h10 (WL.g rfl (g91) rfl (o_mvh h11 (WL.g rfl (g91) rfl (o_ixB (i := q) TI37 TI41 (show _ = Value.slice (some ⟨ub, uo, none⟩) D[i].ty.length uc from rfl) (show _ = Value.int .i64 (q : Int) from rfl) (by omega) (WL.g rfl (g91) rfl (o_fa 4 TI41 rfl TI3 rfl rfl (WL.g rfl (g91) rfl (o_ld TI3 rfl rfl (Cells.only huc hx (fun h => h) 4 _ rfl) (WL.g rfl (g91) rfl (o_gt rfl rfl (WL.c rfl (o_pickO rfl rfl ?_)))))))))))))
      exact WL.nil (⟨congrArg Value.bool (by rw [Bool.eq_iff_iff]; simp_all [outB] <;> omega), h1, h2, h3, h9, h10, h11, hC1, hC2, hC3, hx⟩)
     skip
     refine WL.g rfl (g82) rfl (o_mvh h10 (WL.g rfl (g82) rfl (o_mvh h11 (WL.g rfl (g82) rfl (o_ixB (i := q) TI37 TI41 (show _ = Value.slice (some ⟨ub, uo, none⟩) D[i].ty.length uc from rfl) (show _ = Value.int .i64 (q : Int) from rfl) (by omega) (WL.g rfl (g82) rfl (o_fa 1 TI41 rfl TI3 rfl rfl (WL.g rfl (g82) rfl (o_ld TI3 rfl rfl (Cells.only huc hx (fun h => h) 1 _ rfl) (WL.g rfl (g82) rfl (o_gt rfl rfl (WL.g rfl (g75) rfl (o_pickO rfl rfl (WL.c rfl (o_pickA rfl rfl (WL.c rfl (o_mvh vB (WL.sp 30 rfl (fun g91 => ?_) (fun g91 => ?_)))))))))))))))))))
     ·skip
      refine WL.s rfl (g91) rfl (WL.s rfl (g91) rfl (WL.s rfl (g91) rfl (WL.s rfl (g91) rfl (WL.s rfl (g91) rfl (WL.s rfl (g91) rfl (WL.c rfl (o_pickT rfl (g91) ?_)))))))
      exact WL.nil (⟨congrArg Value.bool (by rw [Bool.eq_iff_iff]; simp_all [outB] <;> omega), h1, h2, h3, h9, h10, h11, hC1, hC2, hC3, hx⟩)
     skip
     refine WL.g rfl (g91) rfl (o_mvh h10 (WL.g rfl (g91) rfl (o_mvh h11 (WL.g rfl (g91) rfl (o_ixB (i := q) TI37 TI41 (show _ = Value.slice (some ⟨ub, uo, none⟩) D[i].ty.length uc from rfl) (show _ = Value.int .i64 (q : Int) from rfl) (by omega) (WL.g rfl (g91) rfl (o_fa 4 TI41 rfl TI3 rfl rfl (WL.g rfl (g91) rfl (o_ld TI3 rfl rfl (Cells.only huc hx (fun h => h) 4 _ rfl) (WL.g rfl (g91) rfl (o_gt rfl rfl (WL.c rfl (o_pickO rfl rfl ?_)))))))))))))
     exact WL.nil (⟨congrArg Value.bool (by rw [Bool.eq_iff_iff]; simp_all [outB] <;> omega), h1, h2, h3, h9, h10, h11, hC1, hC2, hC3, hx⟩)
    skip
    refine WL.s rfl (g75) rfl (WL.s rfl (g75) rfl (WL.s rfl (g75) rfl (WL.s rfl (g75) rfl (WL.s rfl (g75) rfl (WL.s rfl (g75) rfl (WL.s rfl (g75) rfl (WL.z rfl rfl (WL.z rfl rfl (WL.z rfl rfl (WL.z rfl rfl (WL.z rfl rfl (WL.z rfl rfl (WL.s rfl (g75) rfl (WL.c rfl (o_pickF rfl (g75) (WL.c rfl (o_mvh vB (WL.g rfl (rfl) rfl (o_mvh h10 (WL.g rfl (rfl) rfl (o_mvh h11 (WL.g rfl (rfl) rfl (o_ixB (i := q) TI37 TI41 (show _ = Value.slice (some ⟨ub, uo, none⟩) D[i].ty.length uc from rfl) (show _ = Value.int .i64 (q : Int) from rfl) (by omega) (WL.g rfl (rfl) rfl (o_fa 4 TI41 rfl TI3 rfl rfl (WL.g rfl (rfl) rfl (o_ld TI3 rfl rfl (Cells.only huc hx (fun h => h) 4 _ rfl) (WL.g rfl (rfl) rfl (o_gt rfl rfl (WL.c rfl (o_pickO rfl rfl ?_)))))))))))))))))))))))))))))))
    exact WL.nil (⟨congrArg Value.bool (by rw [Bool.eq_iff_iff]; simp_all [outB] <;> omega), h1, h2, h3, h9, h10, h11, hC1, hC2, hC3, hx⟩)
   rintro e w ⟨h98, h1, h2, h3, h9, h10, h11, hC1, hC2, hC3, hx⟩
   refine W.cond h98 (fun c98 => ?_) (fun c98 => ?_)
   ·try simp only [cs8] at c98
    have hout : outB D[i].ty[q] = true := c98
    have hb : bldF D = some (90, D[i].ty[q].at_) := bld_bnd hck hfn (bnd_hit hi1 hq1 hout hno hnn)
    refine W.seq ?_
    skip
    skip
    have hxd := Only.drew w
    replace hx := hx.tr hxd
    replace hC2 := hxd.blk hC2 (fun h => h)
    replace hC3 := hxd.blk hC3 (fun h => h)
    refine W.states (fun kS e w => match kS with | 0 => e 2 = (.pointer (some ⟨c2, 0, none⟩)) ∧ e 3 = (.pointer (some ⟨c3, 0, none⟩)) ∧ e 10 = (.slice (some ⟨ub, uo, none⟩) D[i].ty.length uc) ∧ e 11 = (.int .i64 (q : Int)) ∧ w.heap[c2]? = some (.cells #[.slice none 0 0, .slice none 0 0] 34 (0, 0)) ∧ w.heap[c3]? = some (.cells #[.int .i64 0, .int .i64 0] 28 (0, 0)) ∧ Ext w0 w | 1 => e 2 = (.pointer (some ⟨c2, 0, none⟩)) ∧ e 3 = (.pointer (some ⟨c3, 0, none⟩)) ∧ e 10 = (.slice (some ⟨ub, uo, none⟩) D[i].ty.length uc) ∧ e 11 = (.int .i64 (q : Int)) ∧ e 99 = (.agg #[.slice none 0 0, .slice none 0 0]) ∧ w.heap[c2]? = some (.cells #[.slice none 0 0, .slice none 0 0] 34 (0, 0)) ∧ w.heap[c3]? = some (.cells #[.int .i64 0, .int .i64 0] 28 (0, 0)) ∧ Ext w0 w | 2 => e 2 = (.pointer (some ⟨c2, 0, none⟩)) ∧ e 3 = (.pointer (some ⟨c3, 0, none⟩)) ∧ e 10 = (.slice (some ⟨ub, uo, none⟩) D[i].ty.length uc) ∧ e 11 = (.int .i64 (q : Int)) ∧ e 100 = (.slice (some ⟨ub, uo, none⟩) D[i].ty.length uc) ∧ w.heap[c2]? = some (.cells #[.slice none 0 0, .slice none 0 0] 34 (0, 0)) ∧ w.heap[c3]? = some (.cells #[.int .i64 0, .int .i64 0] 28 (0, 0)) ∧ Ext w0 w | 3 => e 2 = (.pointer (some ⟨c2, 0, none⟩)) ∧ e 3 = (.pointer (some ⟨c3, 0, none⟩)) ∧ e 10 = (.slice (some ⟨ub, uo, none⟩) D[i].ty.length uc) ∧ e 11 = (.int .i64 (q : Int)) ∧ e 101 = (.int .i64 (q : Int)) ∧ w.heap[c2]? = some (.cells #[.slice none 0 0, .slice none 0 0] 34 (0, 0)) ∧ w.heap[c3]? = some (.cells #[.int .i64 0, .int .i64 0] 28 (0, 0)) ∧ Ext w0 w | 4 => e 2 = (.pointer (some ⟨c2, 0, none⟩)) ∧ e 3 = (.pointer (some ⟨c3, 0, none⟩)) ∧ e 10 = (.slice (some ⟨ub, uo, none⟩) D[i].ty.length uc) ∧ e 11 = (.int .i64 (q : Int)) ∧ e 99 = (.agg #[.slice none 0 0, .slice none 0 0]) ∧ e 100 = (.slice (some ⟨ub, uo, none⟩) D[i].ty.length uc) ∧ w.heap[c2]? = some (.cells #[.slice none 0 0, .slice none 0 0] 34 (0, 0)) ∧ w.heap[c3]? = some (.cells #[.int .i64 0, .int .i64 0] 28 (0, 0)) ∧ Ext w0 w | 5 => e 2 = (.pointer (some ⟨c2, 0, none⟩)) ∧ e 3 = (.pointer (some ⟨c3, 0, none⟩)) ∧ e 10 = (.slice (some ⟨ub, uo, none⟩) D[i].ty.length uc) ∧ e 11 = (.int .i64 (q : Int)) ∧ e 99 = (.agg #[.slice none 0 0, .slice none 0 0]) ∧ e 101 = (.int .i64 (q : Int)) ∧ w.heap[c2]? = some (.cells #[.slice none 0 0, .slice none 0 0] 34 (0, 0)) ∧ w.heap[c3]? = some (.cells #[.int .i64 0, .int .i64 0] 28 (0, 0)) ∧ Ext w0 w | 6 => e 2 = (.pointer (some ⟨c2, 0, none⟩)) ∧ e 3 = (.pointer (some ⟨c3, 0, none⟩)) ∧ e 10 = (.slice (some ⟨ub, uo, none⟩) D[i].ty.length uc) ∧ e 11 = (.int .i64 (q : Int)) ∧ e 99 = (.agg #[.slice none 0 0, .slice none 0 0]) ∧ w.heap[c2]? = some (.cells #[.slice none 0 0, .slice none 0 0] 34 (0, 0)) ∧ w.heap[c3]? = some (.cells #[.int .i64 0, .int .i64 0] 28 (0, 0)) ∧ Ext w0 w | 7 => e 2 = (.pointer (some ⟨c2, 0, none⟩)) ∧ e 3 = (.pointer (some ⟨c3, 0, none⟩)) ∧ e 10 = (.slice (some ⟨ub, uo, none⟩) D[i].ty.length uc) ∧ e 11 = (.int .i64 (q : Int)) ∧ e 100 = (.slice (some ⟨ub, uo, none⟩) D[i].ty.length uc) ∧ e 101 = (.int .i64 (q : Int)) ∧ w.heap[c2]? = some (.cells #[.slice none 0 0, .slice none 0 0] 34 (0, 0)) ∧ w.heap[c3]? = some (.cells #[.int .i64 0, .int .i64 0] 28 (0, 0)) ∧ Ext w0 w | 8 => e 2 = (.pointer (some ⟨c2, 0, none⟩)) ∧ e 3 = (.pointer (some ⟨c3, 0, none⟩)) ∧ e 10 = (.slice (some ⟨ub, uo, none⟩) D[i].ty.length uc) ∧ e 11 = (.int .i64 (q : Int)) ∧ e 99 = (.agg #[.slice none 0 0, .slice none 0 0]) ∧ e 100 = (.slice (some ⟨ub, uo, none⟩) D[i].ty.length uc) ∧ e 101 = (.int .i64 (q : Int)) ∧ w.heap[c2]? = some (.cells #[.slice none 0 0, .slice none 0 0] 34 (0, 0)) ∧ w.heap[c3]? = some (.cells #[.int .i64 0, .int .i64 0] 28 (0, 0)) ∧ Ext w0 w | 9 => e 2 = (.pointer (some ⟨c2, 0, none⟩)) ∧ e 3 = (.pointer (some ⟨c3, 0, none⟩)) ∧ e 10 = (.slice (some ⟨ub, uo, none⟩) D[i].ty.length uc) ∧ e 11 = (.int .i64 (q : Int)) ∧ e 99 = (.agg #[.slice none 0 0, .slice none 0 0]) ∧ e 100 = (.slice (some ⟨ub, uo, none⟩) D[i].ty.length uc) ∧ w.heap[c2]? = some (.cells #[.slice none 0 0, .slice none 0 0] 34 (0, 0)) ∧ w.heap[c3]? = some (.cells #[.int .i64 0, .int .i64 0] 28 (0, 0)) ∧ Ext w0 w | 10 => e 2 = (.pointer (some ⟨c2, 0, none⟩)) ∧ e 3 = (.pointer (some ⟨c3, 0, none⟩)) ∧ e 10 = (.slice (some ⟨ub, uo, none⟩) D[i].ty.length uc) ∧ e 11 = (.int .i64 (q : Int)) ∧ e 99 = (.agg #[.slice none 0 0, .slice none 0 0]) ∧ e 101 = (.int .i64 (q : Int)) ∧ w.heap[c2]? = some (.cells #[.slice none 0 0, .slice none 0 0] 34 (0, 0)) ∧ w.heap[c3]? = some (.cells #[.int .i64 0, .int .i64 0] 28 (0, 0)) ∧ Ext w0 w | 11 => e 2 = (.pointer (some ⟨c2, 0, none⟩)) ∧ e 3 = (.pointer (some ⟨c3, 0, none⟩)) ∧ e 10 = (.slice (some ⟨ub, uo, none⟩) D[i].ty.length uc) ∧ e 11 = (.int .i64 (q : Int)) ∧ e 100 = (.slice (some ⟨ub, uo, none⟩) D[i].ty.length uc) ∧ e 101 = (.int .i64 (q : Int)) ∧ e 102 = (.pointer (some ⟨ub, uo + q * 7, none⟩)) ∧ w.heap[c2]? = some (.cells #[.slice none 0 0, .slice none 0 0] 34 (0, 0)) ∧ w.heap[c3]? = some (.cells #[.int .i64 0, .int .i64 0] 28 (0, 0)) ∧ Ext w0 w | 12 => e 2 = (.pointer (some ⟨c2, 0, none⟩)) ∧ e 3 = (.pointer (some ⟨c3, 0, none⟩)) ∧ e 10 = (.slice (some ⟨ub, uo, none⟩) D[i].ty.length uc) ∧ e 11 = (.int .i64 (q : Int)) ∧ e 99 = (.agg #[.slice none 0 0, .slice none 0 0]) ∧ e 100 = (.slice (some ⟨ub, uo, none⟩) D[i].ty.length uc) ∧ e 101 = (.int .i64 (q : Int)) ∧ e 102 = (.pointer (some ⟨ub, uo + q * 7, none⟩)) ∧ w.heap[c2]? = some (.cells #[.slice none 0 0, .slice none 0 0] 34 (0, 0)) ∧ w.heap[c3]? = some (.cells #[.int .i64 0, .int .i64 0] 28 (0, 0)) ∧ Ext w0 w | 13 => e 2 = (.pointer (some ⟨c2, 0, none⟩)) ∧ e 3 = (.pointer (some ⟨c3, 0, none⟩)) ∧ e 10 = (.slice (some ⟨ub, uo, none⟩) D[i].ty.length uc) ∧ e 11 = (.int .i64 (q : Int)) ∧ e 99 = (.agg #[.slice none 0 0, .slice none 0 0]) ∧ e 100 = (.slice (some ⟨ub, uo, none⟩) D[i].ty.length uc) ∧ e 101 = (.int .i64 (q : Int)) ∧ w.heap[c2]? = some (.cells #[.slice none 0 0, .slice none 0 0] 34 (0, 0)) ∧ w.heap[c3]? = some (.cells #[.int .i64 0, .int .i64 0] 28 (0, 0)) ∧ Ext w0 w | 14 => e 2 = (.pointer (some ⟨c2, 0, none⟩)) ∧ e 3 = (.pointer (some ⟨c3, 0, none⟩)) ∧ e 10 = (.slice (some ⟨ub, uo, none⟩) D[i].ty.length uc) ∧ e 11 = (.int .i64 (q : Int)) ∧ e 100 = (.slice (some ⟨ub, uo, none⟩) D[i].ty.length uc) ∧ e 101 = (.int .i64 (q : Int)) ∧ e 102 = (.pointer (some ⟨ub, uo + q * 7, none⟩)) ∧ e 103 = (.pointer (some ⟨ub, uo + q * 7 + 6, none⟩)) ∧ w.heap[c2]? = some (.cells #[.slice none 0 0, .slice none 0 0] 34 (0, 0)) ∧ w.heap[c3]? = some (.cells #[.int .i64 0, .int .i64 0] 28 (0, 0)) ∧ Ext w0 w | 15 => e 2 = (.pointer (some ⟨c2, 0, none⟩)) ∧ e 3 = (.pointer (some ⟨c3, 0, none⟩)) ∧ e 10 = (.slice (some ⟨ub, uo, none⟩) D[i].ty.length uc) ∧ e 11 = (.int .i64 (q : Int)) ∧ e 99 = (.agg #[.slice none 0 0, .slice none 0 0]) ∧ e 100 = (.slice (some ⟨ub, uo, none⟩) D[i].ty.length uc) ∧ e 101 = (.int .i64 (q : Int)) ∧ e 102 = (.pointer (some ⟨ub, uo + q * 7, none⟩)) ∧ e 103 = (.pointer (some ⟨ub, uo + q * 7 + 6, none⟩)) ∧ w.heap[c2]? = some (.cells #[.slice none 0 0, .slice none 0 0] 34 (0, 0)) ∧ w.heap[c3]? = some (.cells #[.int .i64 0, .int .i64 0] 28 (0, 0)) ∧ Ext w0 w | 16 => e 2 = (.pointer (some ⟨c2, 0, none⟩)) ∧ e 3 = (.pointer (some ⟨c3, 0, none⟩)) ∧ e 10 = (.slice (some ⟨ub, uo, none⟩) D[i].ty.length uc) ∧ e 11 = (.int .i64 (q : Int)) ∧ e 99 = (.agg #[.slice none 0 0, .slice none 0 0]) ∧ e 100 = (.slice (some ⟨ub, uo, none⟩) D[i].ty.length uc) ∧ e 101 = (.int .i64 (q : Int)) ∧ e 102 = (.pointer (some ⟨ub, uo + q * 7, none⟩)) ∧ w.heap[c2]? = some (.cells #[.slice none 0 0, .slice none 0 0] 34 (0, 0)) ∧ w.heap[c3]? = some (.cells #[.int .i64 0, .int .i64 0] 28 (0, 0)) ∧ Ext w0 w | 17 => e 2 = (.pointer (some ⟨c2, 0, none⟩)) ∧ e 3 = (.pointer (some ⟨c3, 0, none⟩)) ∧ e 10 = (.slice (some ⟨ub, uo, none⟩) D[i].ty.length uc) ∧ e 11 = (.int .i64 (q : Int)) ∧ e 100 = (.slice (some ⟨ub, uo, none⟩) D[i].ty.length uc) ∧ e 101 = (.int .i64 (q : Int)) ∧ e 102 = (.pointer (some ⟨ub, uo + q * 7, none⟩)) ∧ e 103 = (.pointer (some ⟨ub, uo + q * 7 + 6, none⟩)) ∧ e 104 = (.int .i64 D[i].ty[q].at_) ∧ w.heap[c2]? = some (.cells #[.slice none 0 0, .slice none 0 0] 34 (0, 0)) ∧ w.heap[c3]? = some (.cells #[.int .i64 0, .int .i64 0] 28 (0, 0)) ∧ Ext w0 w | 18 => e 2 = (.pointer (some ⟨c2, 0, none⟩)) ∧ e 3 = (.pointer (some ⟨c3, 0, none⟩)) ∧ e 10 = (.slice (some ⟨ub, uo, none⟩) D[i].ty.length uc) ∧ e 11 = (.int .i64 (q : Int)) ∧ e 99 = (.agg #[.slice none 0 0, .slice none 0 0]) ∧ e 100 = (.slice (some ⟨ub, uo, none⟩) D[i].ty.length uc) ∧ e 101 = (.int .i64 (q : Int)) ∧ e 102 = (.pointer (some ⟨ub, uo + q * 7, none⟩)) ∧ e 103 = (.pointer (some ⟨ub, uo + q * 7 + 6, none⟩)) ∧ e 104 = (.int .i64 D[i].ty[q].at_) ∧ w.heap[c2]? = some (.cells #[.slice none 0 0, .slice none 0 0] 34 (0, 0)) ∧ w.heap[c3]? = some (.cells #[.int .i64 0, .int .i64 0] 28 (0, 0)) ∧ Ext w0 w | 19 => e 2 = (.pointer (some ⟨c2, 0, none⟩)) ∧ e 3 = (.pointer (some ⟨c3, 0, none⟩)) ∧ e 10 = (.slice (some ⟨ub, uo, none⟩) D[i].ty.length uc) ∧ e 11 = (.int .i64 (q : Int)) ∧ e 99 = (.agg #[.slice none 0 0, .slice none 0 0]) ∧ e 100 = (.slice (some ⟨ub, uo, none⟩) D[i].ty.length uc) ∧ e 101 = (.int .i64 (q : Int)) ∧ e 102 = (.pointer (some ⟨ub, uo + q * 7, none⟩)) ∧ e 103 = (.pointer (some ⟨ub, uo + q * 7 + 6, none⟩)) ∧ w.heap[c2]? = some (.cells #[.slice none 0 0, .slice none 0 0] 34 (0, 0)) ∧ w.heap[c3]? = some (.cells #[.int .i64 0, .int .i64 0] 28 (0, 0)) ∧ Ext w0 w | 20 => e 2 = (.pointer (some ⟨c2, 0, none⟩)) ∧ e 3 = (.pointer (some ⟨c3, 0, none⟩)) ∧ e 10 = (.slice (some ⟨ub, uo, none⟩) D[i].ty.length uc) ∧ e 11 = (.int .i64 (q : Int)) ∧ e 100 = (.slice (some ⟨ub, uo, none⟩) D[i].ty.length uc) ∧ e 101 = (.int .i64 (q : Int)) ∧ e 102 = (.pointer (some ⟨ub, uo + q * 7, none⟩)) ∧ e 103 = (.pointer (some ⟨ub, uo + q * 7 + 6, none⟩)) ∧ e 104 = (.int .i64 D[i].ty[q].at_) ∧ e 105 = (.agg #[.int .i64 90, .int .i64 D[i].ty[q].at_]) ∧ w.heap[c2]? = some (.cells #[.slice none 0 0, .slice none 0 0] 34 (0, 0)) ∧ w.heap[c3]? = some (.cells #[.int .i64 0, .int .i64 0] 28 (0, 0)) ∧ Ext w0 w | 21 => e 2 = (.pointer (some ⟨c2, 0, none⟩)) ∧ e 3 = (.pointer (some ⟨c3, 0, none⟩)) ∧ e 10 = (.slice (some ⟨ub, uo, none⟩) D[i].ty.length uc) ∧ e 11 = (.int .i64 (q : Int)) ∧ e 99 = (.agg #[.slice none 0 0, .slice none 0 0]) ∧ e 100 = (.slice (some ⟨ub, uo, none⟩) D[i].ty.length uc) ∧ e 101 = (.int .i64 (q : Int)) ∧ e 102 = (.pointer (some ⟨ub, uo + q * 7, none⟩)) ∧ e 103 = (.pointer (some ⟨ub, uo + q * 7 + 6, none⟩)) ∧ e 104 = (.int .i64 D[i].ty[q].at_) ∧ e 105 = (.agg #[.int .i64 90, .int .i64 D[i].ty[q].at_]) ∧ w.heap[c2]? = some (.cells #[.slice none 0 0, .slice none 0 0] 34 (0, 0)) ∧ w.heap[c3]? = some (.cells #[.int .i64 0, .int .i64 0] 28 (0, 0)) ∧ Ext w0 w | 22 => e 2 = (.pointer (some ⟨c2, 0, none⟩)) ∧ e 3 = (.pointer (some ⟨c3, 0, none⟩)) ∧ e 10 = (.slice (some ⟨ub, uo, none⟩) D[i].ty.length uc) ∧ e 11 = (.int .i64 (q : Int)) ∧ e 99 = (.agg #[.slice none 0 0, .slice none 0 0]) ∧ e 100 = (.slice (some ⟨ub, uo, none⟩) D[i].ty.length uc) ∧ e 101 = (.int .i64 (q : Int)) ∧ e 102 = (.pointer (some ⟨ub, uo + q * 7, none⟩)) ∧ e 103 = (.pointer (some ⟨ub, uo + q * 7 + 6, none⟩)) ∧ e 104 = (.int .i64 D[i].ty[q].at_) ∧ w.heap[c2]? = some (.cells #[.slice none 0 0, .slice none 0 0] 34 (0, 0)) ∧ w.heap[c3]? = some (.cells #[.int .i64 0, .int .i64 0] 28 (0, 0)) ∧ Ext w0 w | 23 => e 2 = (.pointer (some ⟨c2, 0, none⟩)) ∧ e 3 = (.pointer (some ⟨c3, 0, none⟩)) ∧ e 10 = (.slice (some ⟨ub, uo, none⟩) D[i].ty.length uc) ∧ e 11 = (.int .i64 (q : Int)) ∧ e 99 = (.agg #[.slice none 0 0, .slice none 0 0]) ∧ e 100 = (.slice (some ⟨ub, uo, none⟩) D[i].ty.length uc) ∧ e 101 = (.int .i64 (q : Int)) ∧ e 102 = (.pointer (some ⟨ub, uo + q * 7, none⟩)) ∧ e 103 = (.pointer (some ⟨ub, uo + q * 7 + 6, none⟩)) ∧ e 104 = (.int .i64 D[i].ty[q].at_) ∧ e 105 = (.agg #[.int .i64 90, .int .i64 D[i].ty[q].at_]) ∧ w.heap[c2]? = some (.cells #[.slice none 0 0, .slice none 0 0] 34 (0, 0)) ∧ w.heap[c3]? = some (.cells #[.int .i64 0, .int .i64 0] 28 (0, 0)) ∧ Ext w0 w | 24 => e 2 = (.pointer (some ⟨c2, 0, none⟩)) ∧ e 3 = (.pointer (some ⟨c3, 0, none⟩)) ∧ e 10 = (.slice (some ⟨ub, uo, none⟩) D[i].ty.length uc) ∧ e 11 = (.int .i64 (q : Int)) ∧ e 99 = (.agg #[.slice none 0 0, .slice none 0 0]) ∧ e 100 = (.slice (some ⟨ub, uo, none⟩) D[i].ty.length uc) ∧ e 101 = (.int .i64 (q : Int)) ∧ e 102 = (.pointer (some ⟨ub, uo + q * 7, none⟩)) ∧ e 103 = (.pointer (some ⟨ub, uo + q * 7 + 6, none⟩)) ∧ e 104 = (.int .i64 D[i].ty[q].at_) ∧ e 105 = (.agg #[.int .i64 90, .int .i64 D[i].ty[q].at_]) ∧ w.heap[c2]? = some (.cells #[.slice none 0 0, .slice none 0 0] 34 (0, 0)) ∧ w.heap[c3]? = some (.cells #[.int .i64 90, .int .i64 D[i].ty[q].at_] 28 (0, 0)) ∧ Ext w0 w | _ => False) ([([false, false, false, false, false, false, false, false, false], [(0, 1), (1, 2), (2, 3)]), ([true, false, false, false, false, false, false, false, false], [(1, 4), (2, 5), (7, 6)]), ([false, true, false, false, false, false, false, false, false], [(0, 4), (2, 7)]), ([false, false, true, false, false, false, false, false, false], [(0, 5), (1, 7)]), ([true, true, false, false, false, false, false, false, false], [(2, 8), (7, 9)]), ([true, false, true, false, false, false, false, false, false], [(1, 8), (7, 10)]), ([true, false, false, false, false, false, false, true, false], [(1, 9), (2, 10)]), ([false, true, true, false, false, false, false, false, false], [(0, 8), (3, 11)]), ([true, true, true, false, false, false, false, false, false], [(3, 12), (7, 13)]), ([true, true, false, false, false, false, false, true, false], [(2, 13)]), ([true, false, true, false, false, false, false, true, false], [(1, 13)]), ([false, true, true, true, false, false, false, false, false], [(0, 12), (4, 14)]), ([true, true, true, true, false, false, false, false, false], [(4, 15), (7, 16)]), ([true, true, true, false, false, false, false, true, false], [(3, 16)]), ([false, true, true, true, true, false, false, false, false], [(0, 15), (5, 17)]), ([true, true, true, true, true, false, false, false, false], [(5, 18), (7, 19)]), ([true, true, true, true, false, false, false, true, false], [(4, 19)]), ([false, true, true, true, true, true, false, false, false], [(0, 18), (6, 20)]), ([true, true, true, true, true, true, false, false, false], [(6, 21), (7, 22)]), ([true, true, true, true, true, false, false, true, false], [(5, 22)]), ([false, true, true, true, true, true, true, false, false], [(0, 21)]), ([true, true, true, true, true, true, true, false, false], [(7, 23)]), ([true, true, true, true, true, true, false, true, false], [(6, 23)]), ([true, true, true, true, true, true, true, true, false], [(8, 24)]), ([true, true, true, true, true, true, true, true, true], [])]) rfl (by kernel_rfl) rfl ⟨h2, h3, h10, h11, ⟨hC2, hC3, hx⟩⟩ (⟨?_, ?_, ?_, ?_, ?_, ?_, ?_, ?_, ?_, ?_, ?_, ?_, ?_, ?_, ?_, ?_, ?_, ?_, ?_, ?_, ?_, ?_, ?_, ?_, ?_, trivial⟩)
    ·-- state 0 of region 15
     rintro e w ⟨h2, h3, h10, h11, ⟨hC2, hC3, hx⟩⟩
     refine ⟨?_, ?_, ?_, trivial⟩
     ·skip
      refine WO.c rfl rfl (o_bldC (cs := [(.slice none 0 0), (.slice none 0 0)]) TI34 (Sizes.cons TI31 (Sizes.cons TI32 Sizes.nil)) rfl lnp rfl rfl ?_)
      exact ⟨h2, h3, h10, h11, rfl, ⟨hC2, hC3, hx⟩⟩
     ·skip
      refine WO.c rfl rfl (o_mvh h10 ?_)
      exact ⟨h2, h3, h10, h11, rfl, ⟨hC2, hC3, hx⟩⟩
     skip
     refine WO.c rfl rfl (o_mvh h11 ?_)
     exact ⟨h2, h3, h10, h11, rfl, ⟨hC2, hC3, hx⟩⟩
    ·-- state 1 of region 15
     rintro e w ⟨h2, h3, h10, h11, h99, ⟨hC2, hC3, hx⟩⟩
     refine ⟨?_, ?_, ?_, trivial⟩
     ·skip
      refine WO.c rfl rfl (o_mvh h10 ?_)
      exact ⟨h2, h3, h10, h11, h99, rfl, ⟨hC2, hC3, hx⟩⟩
     ·skip
      refine WO.c rfl rfl (o_mvh h11 ?_)
      exact ⟨h2, h3, h10, h11, h99, rfl, ⟨hC2, hC3, hx⟩⟩
     skip
     refine WO.u rfl (o_stA TI34 h2 (show _ = Value.agg #[.slice none 0 0, .slice none 0 0] from h99) rfl rfl hC2 rfl ?_)
     intro wy hC2y hoy hsy
     replace hC3 := hoy.blk hC3 (blk_ne3 hC3 hC2 (by decide))
     replace hx := hx.trans' hoy (fun _ h => h) (fun b hb he => by omega)
     replace hC2 := hC2y
     exact ⟨h2, h3, h10, h11, h99, ⟨hC2, hC3, hx⟩⟩
    ·-- state 2 of region 15
     rintro e w ⟨h2, h3, h10, h11, h100, ⟨hC2, hC3, hx⟩⟩
     refine ⟨?_, ?_, trivial⟩
     ·skip
      refine WO.c rfl rfl (o_bldC (cs := [(.slice none 0 0), (.slice none 0 0)]) TI34 (Sizes.cons TI31 (Sizes.cons TI32 Sizes.nil)) rfl lnp rfl rfl ?_)
      exact ⟨h2, h3, h10, h11, rfl, h100, ⟨hC2, hC3, hx⟩⟩
     skip
     refine WO.c rfl rfl (o_mvh h11 ?_)
     exact ⟨h2, h3, h10, h11, h100, rfl, ⟨hC2, hC3, hx⟩⟩
    ·-- state 3 of region 15
     rintro e w ⟨h2, h3, h10, h11, h101, ⟨hC2, hC3, hx⟩⟩
     refine ⟨?_, ?_, trivial⟩
     ·skip
      refine WO.c rfl rfl (o_bldC (cs := [(.slice none 0 0), (.slice none 0 0)]) TI34 (Sizes.cons TI31 (Sizes.cons TI32 Sizes.nil)) rfl lnp rfl rfl ?_)
      exact ⟨h2, h3, h10, h11, rfl, h101, ⟨hC2, hC3, hx⟩⟩
     skip
     refine WO.c rfl rfl (o_mvh h10 ?_)
     exact ⟨h2, h3, h10, h11, rfl, h101, ⟨hC2, hC3, hx⟩⟩
    ·-- state 4 of region 15
     rintro e w ⟨h2, h3, h10, h11, h99, h100, ⟨hC2, hC3, hx⟩⟩
     refine ⟨?_, ?_, trivial⟩
     ·skip
      refine WO.c rfl rfl (o_mvh h11 ?_)
      exact ⟨h2, h3, h10, h11, h99, h100, rfl, ⟨hC2, hC3, hx⟩⟩
     skip
     refine WO.u rfl (o_stA TI34 h2 (show _ = Value.agg #[.slice none 0 0, .slice none 0 0] from h99) rfl rfl hC2 rfl ?_)
     intro wy hC2y hoy hsy
     replace hC3 := hoy.blk hC3 (blk_ne3 hC3 hC2 (by decide))
     replace hx := hx.trans' hoy (fun _ h => h) (fun b hb he => by omega)
     replace hC2 := hC2y
     exact ⟨h2, h3, h10, h11, h99, h100, ⟨hC2, hC3, hx⟩⟩
    ·-- state 5 of region 15
     rintro e w ⟨h2, h3, h10, h11, h99, h101, ⟨hC2, hC3, hx⟩⟩
     refine ⟨?_, ?_, trivial⟩
     ·skip
      refine WO.c rfl rfl (o_mvh h10 ?_)
      exact ⟨h2, h3, h10, h11, h99, rfl, h101, ⟨hC2, hC3, hx⟩⟩
     skip
     refine WO.u rfl (o_stA TI34 h2 (show _ = Value.agg #[.slice none 0 0, .slice none 0 0] from h99) rfl rfl hC2 rfl ?_)
     intro wy hC2y hoy hsy
     replace hC3 := hoy.blk hC3 (blk_ne3 hC3 hC2 (by decide))
     replace hx := hx.trans' hoy (fun _ h => h) (fun b hb he => by omega)
     replace hC2 := hC2y
     exact ⟨h2, h3, h10, h11, h99, h101, ⟨hC2, hC3, hx⟩⟩
    ·-- state 6 of region 15
     rintro e w ⟨h2, h3, h10, h11, h99, ⟨hC2, hC3, hx⟩⟩
     refine ⟨?_, ?_, trivial⟩
     ·skip
      refine WO.c rfl rfl (o_mvh h10 ?_)
      exact ⟨h2, h3, h10, h11, h99, rfl, ⟨hC2, hC3, hx⟩⟩
     skip
     refine WO.c rfl rfl (o_mvh h11 ?_)
     exact ⟨h2, h3, h10, h11, h99, rfl, ⟨hC2, hC3, hx⟩⟩
    ·-- state 7 of region 15
     rintro e w ⟨h2, h3, h10, h11, h100, h101, ⟨hC2, hC3, hx⟩⟩
     refine ⟨?_, ?_, trivial⟩
     ·skip
      refine WO.c rfl rfl (o_bldC (cs := [(.slice none 0 0), (.slice none 0 0)]) TI34 (Sizes.cons TI31 (Sizes.cons TI32 Sizes.nil)) rfl lnp rfl rfl ?_)
      exact ⟨h2, h3, h10, h11, rfl, h100, h101, ⟨hC2, hC3, hx⟩⟩
     skip
     refine WO.c rfl rfl (o_ixB (i := q) TI37 TI41 h100 h101 (by omega) ?_)
     exact ⟨h2, h3, h10, h11, h100, h101, rfl, ⟨hC2, hC3, hx⟩⟩
    ·-- state 8 of region 15
     rintro e w ⟨h2, h3, h10, h11, h99, h100, h101, ⟨hC2, hC3, hx⟩⟩
     refine ⟨?_, ?_, trivial⟩
     ·skip
      refine WO.c rfl rfl (o_ixB (i := q) TI37 TI41 h100 h101 (by omega) ?_)
      exact ⟨h2, h3, h10, h11, h99, h100, h101, rfl, ⟨hC2, hC3, hx⟩⟩
     skip
     refine WO.u rfl (o_stA TI34 h2 (show _ = Value.agg #[.slice none 0 0, .slice none 0 0] from h99) rfl rfl hC2 rfl ?_)
     intro wy hC2y hoy hsy
     replace hC3 := hoy.blk hC3 (blk_ne3 hC3 hC2 (by decide))
     replace hx := hx.trans' hoy (fun _ h => h) (fun b hb he => by omega)
     replace hC2 := hC2y
     exact ⟨h2, h3, h10, h11, h99, h100, h101, ⟨hC2, hC3, hx⟩⟩
    ·-- state 9 of region 15
     rintro e w ⟨h2, h3, h10, h11, h99, h100, ⟨hC2, hC3, hx⟩⟩
     refine ⟨?_, trivial⟩
     skip
     refine WO.c rfl rfl (o_mvh h11 ?_)
     exact ⟨h2, h3, h10, h11, h99, h100, rfl, ⟨hC2, hC3, hx⟩⟩
    ·-- state 10 of region 15
     rintro e w ⟨h2, h3, h10, h11, h99, h101, ⟨hC2, hC3, hx⟩⟩
     refine ⟨?_, trivial⟩
     skip
     refine WO.c rfl rfl (o_mvh h10 ?_)
     exact ⟨h2, h3, h10, h11, h99, rfl, h101, ⟨hC2, hC3, hx⟩⟩
    ·-- state 11 of region 15
     rintro e w ⟨h2, h3, h10, h11, h100, h101, h102, ⟨hC2, hC3, hx⟩⟩
     refine ⟨?_, ?_, trivial⟩
     ·skip
      refine WO.c rfl rfl (o_bldC (cs := [(.slice none 0 0), (.slice none 0 0)]) TI34 (Sizes.cons TI31 (Sizes.cons TI32 Sizes.nil)) rfl lnp rfl rfl ?_)
      exact ⟨h2, h3, h10, h11, rfl, h100, h101, h102, ⟨hC2, hC3, hx⟩⟩
     skip
     refine WO.c rfl rfl (o_fa 6 TI41 rfl TI3 rfl h102 ?_)
     exact ⟨h2, h3, h10, h11, h100, h101, h102, rfl, ⟨hC2, hC3, hx⟩⟩
    ·-- state 12 of region 15
     rintro e w ⟨h2, h3, h10, h11, h99, h100, h101, h102, ⟨hC2, hC3, hx⟩⟩
     refine ⟨?_, ?_, trivial⟩
     ·skip
      refine WO.c rfl rfl (o_fa 6 TI41 rfl TI3 rfl h102 ?_)
      exact ⟨h2, h3, h10, h11, h99, h100, h101, h102, rfl, ⟨hC2, hC3, hx⟩⟩
     skip
     refine WO.u rfl (o_stA TI34 h2 (show _ = Value.agg #[.slice none 0 0, .slice none 0 0] from h99) rfl rfl hC2 rfl ?_)
     intro wy hC2y hoy hsy
     replace hC3 := hoy.blk hC3 (blk_ne3 hC3 hC2 (by decide))
     replace hx := hx.trans' hoy (fun _ h => h) (fun b hb he => by omega)
     replace hC2 := hC2y
     exact ⟨h2, h3, h10, h11, h99, h100, h101, h102, ⟨hC2, hC3, hx⟩⟩
    ·-- state 13 of region 15
     rintro e w ⟨h2, h3, h10, h11, h99, h100, h101, ⟨hC2, hC3, hx⟩⟩
     refine ⟨?_, trivial⟩
     skip
     refine WO.c rfl rfl (o_ixB (i := q) TI37 TI41 h100 h101 (by omega) ?_)
     exact ⟨h2, h3, h10, h11, h99, h100, h101, rfl, ⟨hC2, hC3, hx⟩⟩
    ·-- state 14 of region 15
     rintro e w ⟨h2, h3, h10, h11, h100, h101, h102, h103, ⟨hC2, hC3, hx⟩⟩
     refine ⟨?_, ?_, trivial⟩
     ·skip
      refine WO.c rfl rfl (o_bldC (cs := [(.slice none 0 0), (.slice none 0 0)]) TI34 (Sizes.cons TI31 (Sizes.cons TI32 Sizes.nil)) rfl lnp rfl rfl ?_)
      exact ⟨h2, h3, h10, h11, rfl, h100, h101, h102, h103, ⟨hC2, hC3, hx⟩⟩
     skip
     refine WO.c rfl rfl (o_ld TI3 rfl h103 (Cells.only huc hx (fun h => h) 6 _ rfl) ?_)
     exact ⟨h2, h3, h10, h11, h100, h101, h102, h103, rfl, ⟨hC2, hC3, hx⟩⟩
    ·-- state 15 of region 15
     rintro e w ⟨h2, h3, h10, h11, h99, h100, h101, h102, h103, ⟨hC2, hC3, hx⟩⟩
     refine ⟨?_, ?_, trivial⟩
     ·skip
      refine WO.c rfl rfl (o_ld TI3 rfl h103 (Cells.only huc hx (fun h => h) 6 _ rfl) ?_)
      exact ⟨h2, h3, h10, h11, h99, h100, h101, h102, h103, rfl, ⟨hC2, hC3, hx⟩⟩
     skip
     refine WO.u rfl (o_stA TI34 h2 (show _ = Value.agg #[.slice none 0 0, .slice none 0 0] from h99) rfl rfl hC2 rfl ?_)
     intro wy hC2y hoy hsy
     replace hC3 := hoy.blk hC3 (blk_ne3 hC3 hC2 (by decide))
     replace hx := hx.trans' hoy (fun _ h => h) (fun b hb he => by omega)
     replace hC2 := hC2y
     exact ⟨h2, h3, h10, h11, h99, h100, h101, h102, h103, ⟨hC2, hC3, hx⟩⟩
    ·-- state 16 of region 15
     rintro e w ⟨h2, h3, h10, h11, h99, h100, h101, h102, ⟨hC2, hC3, hx⟩⟩
     refine ⟨?_, trivial⟩
     skip
     refine WO.c rfl rfl (o_fa 6 TI41 rfl TI3 rfl h102 ?_)
     exact ⟨h2, h3, h10, h11, h99, h100, h101, h102, rfl, ⟨hC2, hC3, hx⟩⟩
    ·-- state 17 of region 15
     rintro e w ⟨h2, h3, h10, h11, h100, h101, h102, h103, h104, ⟨hC2, hC3, hx⟩⟩
     refine ⟨?_, ?_, trivial⟩
     ·skip
      refine WO.c rfl rfl (o_bldC (cs := [(.slice none 0 0), (.slice none 0 0)]) TI34 (Sizes.cons TI31 (Sizes.cons TI32 Sizes.nil)) rfl lnp rfl rfl ?_)
      exact ⟨h2, h3, h10, h11, rfl, h100, h101, h102, h103, h104, ⟨hC2, hC3, hx⟩⟩
     skip
     refine WO.c rfl rfl (o_bldC (cs := [(.int .i64 90), _]) TI28 (Sizes.cons TI26 (Sizes.cons TI3 Sizes.nil)) rfl (lcp vI (lcp h104 lnp)) rfl rfl ?_)
     exact ⟨h2, h3, h10, h11, h100, h101, h102, h103, h104, rfl, ⟨hC2, hC3, hx⟩⟩
    ·-- state 18 of region 15
     rintro e w ⟨h2, h3, h10, h11, h99, h100, h101, h102, h103, h104, ⟨hC2, hC3, hx⟩⟩
     refine ⟨?_, ?_, trivial⟩
     ·skip
      refine WO.c rfl rfl (o_bldC (cs := [(.int .i64 90), _]) TI28 (Sizes.cons TI26 (Sizes.cons TI3 Sizes.nil)) rfl (lcp vI (lcp h104 lnp)) rfl rfl ?_)
      exact ⟨h2, h3, h10, h11, h99, h100, h101, h102, h103, h104, rfl, ⟨hC2, hC3, hx⟩⟩
     skip
     refine WO.u rfl (o_stA TI34 h2 (show _ = Value.agg #[.slice none 0 0, .slice none 0 0] from h99) rfl rfl hC2 rfl ?_)
     intro wy hC2y hoy hsy
     replace hC3 := hoy.blk hC3 (blk_ne3 hC3 hC2 (by decide))
     replace hx := hx.trans' hoy (fun _ h => h) (fun b hb he => by omega)
     replace hC2 := hC2y
     exact ⟨h2, h3, h10, h11, h99, h100, h101, h102, h103, h104, ⟨hC2, hC3, hx⟩⟩
    ·-- state 19 of region 15
     rintro e w ⟨h2, h3, h10, h11, h99, h100, h101, h102, h103, ⟨hC2, hC3, hx⟩⟩
     refine ⟨?_, trivial⟩
     skip
     refine WO.c rfl rfl (o_ld TI3 rfl h103 (Cells.only huc hx (fun h => h) 6 _ rfl) ?_)
     exact ⟨h2, h3, h10, h11, h99, h100, h101, h102, h103, rfl, ⟨hC2, hC3, hx⟩⟩
    ·-- state 20 of region 15
     rintro e w ⟨h2, h3, h10, h11, h100, h101, h102, h103, h104, h105, ⟨hC2, hC3, hx⟩⟩
     refine ⟨?_, trivial⟩
     skip
     refine WO.c rfl rfl (o_bldC (cs := [(.slice none 0 0), (.slice none 0 0)]) TI34 (Sizes.cons TI31 (Sizes.cons TI32 Sizes.nil)) rfl lnp rfl rfl ?_)
     exact ⟨h2, h3, h10, h11, rfl, h100, h101, h102, h103, h104, h105, ⟨hC2, hC3, hx⟩⟩
    ·-- state 21 of region 15
     rintro e w ⟨h2, h3, h10, h11, h99, h100, h101, h102, h103, h104, h105, ⟨hC2, hC3, hx⟩⟩
     refine ⟨?_, trivial⟩
     skip
     refine WO.u rfl (o_stA TI34 h2 (show _ = Value.agg #[.slice none 0 0, .slice none 0 0] from h99) rfl rfl hC2 rfl ?_)
     intro wy hC2y hoy hsy
     replace hC3 := hoy.blk hC3 (blk_ne3 hC3 hC2 (by decide))
     replace hx := hx.trans' hoy (fun _ h => h) (fun b hb he => by omega)
     replace hC2 := hC2y
     exact ⟨h2, h3, h10, h11, h99, h100, h101, h102, h103, h104, h105, ⟨hC2, hC3, hx⟩⟩
    ·-- state 22 of region 15
     rintro e w ⟨h2, h3, h10, h11, h99, h100, h101, h102, h103, h104, ⟨hC2, hC3, hx⟩⟩
     refine ⟨?_, trivial⟩
     skip
     refine WO.c rfl rfl (o_bldC (cs := [(.int .i64 90), _]) TI28 (Sizes.cons TI26 (Sizes.cons TI3 Sizes.nil)) rfl (lcp vI (lcp h104 lnp)) rfl rfl ?_)
     exact ⟨h2, h3, h10, h11, h99, h100, h101, h102, h103, h104, rfl, ⟨hC2, hC3, hx⟩⟩
    ·-- state 23 of region 15
     rintro e w ⟨h2, h3, h10, h11, h99, h100, h101, h102, h103, h104, h105, ⟨hC2, hC3, hx⟩⟩
     refine ⟨?_, trivial⟩
     skip
     refine WO.u rfl (o_stA TI28 h3 (show _ = Value.agg #[.int .i64 90, .int .i64 D[i].ty[q].at_] from h105) rfl rfl hC3 rfl ?_)
     intro wz hC3z hoz hsz
     replace hC2 := hoz.blk hC2 (blk_ne3 hC2 hC3 (by decide))
     replace hx := hx.trans' hoz (fun _ h => h) (fun b hb he => by omega)
     replace hC3 := hC3z
     exact ⟨h2, h3, h10, h11, h99, h100, h101, h102, h103, h104, h105, ⟨hC2, hC3, hx⟩⟩
    -- state 24 of region 15
    rintro e w ⟨h2, h3, h10, h11, h99, h100, h101, h102, h103, h104, h105, ⟨hC2, hC3, hx⟩⟩
    refine W.ret (retAA rfl TI34 rfl TI28 rfl h2 h3 (show Cells _ c2 0 [.slice none 0 0, .slice none 0 0] from Cells.of hC2 0 _ (by simp)) rfl (show Cells _ c3 0 [.int .i64 90, .int .i64 D[i].ty[q].at_] from Cells.of hC3 0 _ (by simp)) rfl ?_)
    obtain ⟨hv1, hv2⟩ := bldV_of hb
    refine ⟨.slice none 0 0, .slice none 0 0, fun _ => undef, by rw [hv1, hv2], ?_, hx⟩
    rw [(bld_bad hb).1, (bld_bad hb).2]
    exact Schs.nil _ _ _
   try simp only [cs8] at c98
   have hout : outB D[i].ty[q] = false := by simpa using c98
   refine W.skip (W.region (WL.c rfl (o_mvh h11 (WL.c rfl (o_addi rfl rfl (by omega) (WL.c rfl (o_ash vI (WL.nil (⟨⟨q + 1, by omega, h1, h2, h3, h9, h10.trans hV.symm, rfl, fun j hj => ?_, hC1, hC2, hC3, hx⟩, ?_⟩)))))))))
   ·rcases Nat.lt_or_ge j q with h | h
    ·exact hnn j h
    rw [show j = q by omega]; exact bndN_no hq1 hout
   show D[i].ty.length - ((q : Int) + 1).toNat < _
   rw [hm11]; simp [intOf]; omega
  try simp only [cs8] at c58
  have hq1 : q = D[i].ty.length := by omega
  refine W.exit (W.region (WL.c rfl (o_mvh h9 (WL.c rfl (o_addi rfl rfl (by omega) (WL.c rfl (o_ash vI (WL.nil (⟨⟨i + 1, by omega, h1, h2, h3, rfl, fun j hj => ?_, hC1, hC2, hC3, hx⟩, ?_⟩)))))))))
  ·rcases Nat.lt_or_ge j i with h | h
   ·exact hno j h
   rw [show j = i by omega]; exact bndD_no hi1 (by rw [hq1] at hnn; exact hnn)
  show D.length - ((i : Int) + 1).toNat < _
  rw [hm9]; simp [intOf]; omega
 try simp only [cs8] at c46
 have hi1 : i = D.length := by omega
 rw [hi1] at hno
 have hbn : bndF D = none := firstN_miss hno
 have hbl : bldF D = none := bldF_none.2 ⟨hck, hfn, hbn⟩
 have h256 := hG.trd.n
 obtain ⟨hto, htl⟩ := hG.ord
 refine W.exit (W.seq (W.region (WL.c rfl (o_ldA TI25 rfl h1 (show Cells _ b1 0 [dv] from Cells.of hC1 0 _ (by simp)) rfl (WL.c rfl (o_call Try.call37 (lc rfl ln) ((rnames_order_spec D dv V _ (hD00.ext hx) hlim).mono ?_)))))))
 rintro v108 w108 ⟨ov, rfl, ho1, hx108⟩
 rw [hf]
 replace ho1 := own_mono ho1 hx.size
 rw [ordR_ok hfn] at ho1
 replace hx := hx.tr hx108
 replace hC1 := hx108.blk hC1 (fun h => h)
 replace hC2 := hx108.blk hC2 (fun h => h)
 replace hC3 := hx108.blk hC3 (fun h => h)
 refine WL.c rfl (o_mvh (by first | exact (show _ = Value.tuple _ from rfl) | exact rfl) (WL.c rfl (o_ext rfl rfl (WL.c rfl (o_ext rfl rfl (WL.c rfl (o_ext rfl rfl (WL.c rfl (o_ash (by first | exact vS | exact rfl) (WL.c rfl (o_ash vI (WL.c rfl (o_ash vI (WL.nil (W.seq (W.region (WL.c rfl (o_ldA TI25 rfl h1 (show Cells _ b1 0 [dv] from Cells.of hC1 0 _ (by simp)) rfl (WL.c rfl (o_bld (cells := #[.slice none 0 0, .slice none 0 0, dv]) (vs := [(2, .agg #[dv])]) TI97 (Sizes.cons TI31 (Sizes.cons TI79 (Sizes.cons TI25 Sizes.nil))) (lcp (show _ = Value.agg #[dv] from rfl) lnp) bfill9 (WL.c rfl (o_boxB rfl ?_))))))))))))))))))))))
 intro w114 hC114 hx114 hs114
 obtain ⟨b114, hb114⟩ : ∃ b, b = w108.heap.size := ⟨_, rfl⟩
 rw [← hb114] at hC114 ⊢
 replace hC114 : w114.heap[b114]? = some (.cells ([.slice none 0 0, .slice none 0 0, dv]).toArray 97 (0, 0)) := hC114
 have hq114 := hx.size
 have ho1l : ∀ b, ov.ownBlock = some b → b < w114.heap.size := fun b hb => by have := (ho1.lt b hb).2; omega
 replace hx := hx.tr hx114
 replace ho1 := own_ext ho1 hx114
 replace hC1 := hx114.blk hC1 (fun h => h)
 replace hC2 := hx114.blk hC2 (fun h => h)
 replace hC3 := hx114.blk hC3 (fun h => h)
 obtain ⟨B2, hB2⟩ : ∃ b, b = w114.heap.size := ⟨_, rfl⟩
 rw [← hB2] at ho1l
 have hz114 : w0.heap.size ≤ b114 := by omega
 have hzB2 : w0.heap.size ≤ B2 := by omega
 have hlt114 : ∀ w9, Ext w114 w9 → B2 ≤ w9.heap.size := fun w9 h9 => by have := h9.size; omega
 refine WL.c rfl (o_ash (by first | exact (show _ = Value.pointer _ from rfl) | exact rfl) (WL.nil (W.seq (W.seq (W.region (WL.c rfl (o_ash vI (WL.nil (W.block (W.loop (fun e w => ∃ (q : Nat) (rv : Value), q ≤ D.length ∧ e 1 = .pointer (some ⟨b1, 0, none⟩) ∧ e 2 = .pointer (some ⟨c2, 0, none⟩) ∧ e 3 = .pointer (some ⟨c3, 0, none⟩) ∧ e 12 = ov ∧ e 15 = .pointer (some ⟨b114, 0, none⟩) ∧ e 16 = .int .i64 (q : Int) ∧ w.heap[b114]? = some (.cells #[.slice none 0 0, rv, dv] 97 (0, 0)) ∧ w.ownsRow B2 3 1 rv q (zvs q (fun _ => -1)) ∧ w.ownsRow w0.heap.size 3 1 ov (ordN D).length ((ordN D).map iv) ∧ w.heap[b1]? = some (.cells #[dv] 25 (0, 0)) ∧ w.heap[c2]? = some (.cells #[.slice none 0 0, .slice none 0 0] 34 (0, 0)) ∧ w.heap[c3]? = some (.cells #[.int .i64 0, .int .i64 0] 28 (0, 0)) ∧ Ext w0 w ∧ B2 ≤ w.heap.size) (fun e w => D.length - (intOf (e 16)).toNat) ?_ ?_))))))))))
 ·exact ⟨0, .slice none 0 0, Nat.zero_le _, h1, h2, h3, rfl, rfl, rfl, hC114, World.ownsRow_nil _ _ _ _, ho1, hC1, hC2, hC3, hx, by omega⟩
 rintro e w ⟨q, rv, hq, h1, h2, h3, h12, h15, h16, hC114, hrv, ho1, hC1, hC2, hC3, hx, hB2w⟩
 have hm16 := h16
 refine W.seq (W.seq (W.region (WL.c rfl (o_mvh h16 (WL.c rfl (o_fa 0 TI25 rfl TI23 rfl h1 (WL.c rfl (o_ld TI23 rfl rfl (cell_of hC1 rfl) (WL.c rfl (o_lenR TI23 rfl (hD00.ext hx).row (WL.c rfl (o_lt rfl rfl (WL.nil (W.cond rfl (fun c119 => ?_) (fun c119 => ?_)))))))))))))))
 ·try simp only [cs8] at c119
  have hq1 : q < D.length := by omega
  have hsB := hrv.lt
  have hxs := hx.size
  refine W.skip (W.seq (W.block (W.region (WL.c rfl (o_mvh h15 (WL.c rfl (o_mvh h15 (WL.c rfl (o_nil rfl (WL.c rfl (o_fa 1 TI97 rfl TI79 rfl rfl (WL.c rfl (o_ld TI79 rfl rfl (cell_of hC114 rfl) (WL.apO (B2) rfl rfl TI79 TI3 vI rfl hrv (by decide) (by decide) rfl (one1 rfl) rfl (by rw [maxLen_eq]; omega) (by omega) hB2w ?_))))))))))))))
  intro v128 w128 hown ho128 hb128 _
  replace hown : w128.ownsRow B2 3 1 v128 (q + 1) (zvs (q + 1) (fun _ => -1)) := by rw [zvs_succ]; exact hown
  replace ho128 : Only (fun k => rv.ownBlock = some k) w w128 := ho128
  replace hC1 := ho128.blk hC1 (fun e => own_off hrv hC1 (by decide) e)
  replace hC2 := ho128.blk hC2 (fun e => own_off hrv hC2 (by decide) e)
  replace hC3 := ho128.blk hC3 (fun e => own_off hrv hC3 (by decide) e)
  replace hC114 := ho128.blk hC114 (fun e => own_off hrv hC114 (by decide) e)
  replace ho1 := own_only ho1 ho128 (fun b hb e => by have h7 := (hsB b e).1; have h8 := ho1l b hb; omega)
  replace hx := hx.trans' ho128 (fun _ h => h) (fun b hb e => by have h7 := (hsB b e).1; omega)
  have hs128 := ho128.size
  replace hrv := hown
  replace hB2w : B2 ≤ w128.heap.size := by omega
  refine WL.c rfl (o_nil rfl (WL.c rfl (o_fa 1 TI97 rfl TI79 rfl rfl (WL.u (o_stB TI79 rfl (show _ = v128 from rfl) (own_one hrv) hC114 (show 1 < 3 by decide) ?_)))))
  intro w130 hCn ho130 hs130
  replace hC1 := ho130.blk hC1 (blk_ne3 hC1 hC114 (by decide))
  replace hC2 := ho130.blk hC2 (blk_ne3 hC2 hC114 (by decide))
  replace hC3 := ho130.blk hC3 (blk_ne3 hC3 hC114 (by decide))
  replace ho1 := own_only ho1 ho130 (fun b hb e => by subst e; exact own_off ho1 hC114 (by decide) hb)
  replace hrv := own_only hrv ho130 (fun b hb e => by subst e; exact own_off hrv hC114 (by decide) hb)
  replace hx := hx.trans' ho130 (fun _ h => h) (fun b hb e => by omega)
  replace hC114 : w130.heap[b114]? = some (.cells #[.slice none 0 0, v128, dv] 97 (0, 0)) := hCn
  replace hB2w : B2 ≤ w130.heap.size := by omega
  refine WL.nil (W.region (WL.c rfl (o_mvh h16 (WL.c rfl (o_addi rfl rfl (by omega) (WL.c rfl (o_ash vI (WL.nil (⟨⟨q + 1, v128, by omega, h1, h2, h3, h12, h15, rfl, hC114, hrv, ho1, hC1, hC2, hC3, hx, hB2w⟩, ?_⟩)))))))))
  show D.length - ((q : Int) + 1).toNat < _
  rw [hm16]; simp [intOf]; omega
 try simp only [cs8] at c119
 have hq1 : q = D.length := by omega
 subst hq1
 have hrvl : ∀ b, rv.ownBlock = some b → B2 ≤ b := fun b hb => (hrv.lt b hb).1
 refine W.exit (W.seq (W.seq (W.region (WL.c rfl (o_ash vI (WL.nil (W.block (W.loop (fun e w => ∃ (k : Nat) (tv : Value) (U : Nat → Value), k ≤ (ordN D).length ∧ e 1 = .pointer (some ⟨b1, 0, none⟩) ∧ e 2 = .pointer (some ⟨c2, 0, none⟩) ∧ e 3 = .pointer (some ⟨c3, 0, none⟩) ∧ e 12 = ov ∧ e 15 = .pointer (some ⟨b114, 0, none⟩) ∧ e 17 = .int .i64 (k : Int) ∧ BR w0 w b114 dv rv D.length (mkR D k).1 (mkR D k).2 tv U ∧ w.ownsRow w0.heap.size 3 1 ov (ordN D).length ((ordN D).map iv) ∧ w.heap[b1]? = some (.cells #[dv] 25 (0, 0)) ∧ w.heap[c2]? = some (.cells #[.slice none 0 0, .slice none 0 0] 34 (0, 0)) ∧ w.heap[c3]? = some (.cells #[.int .i64 0, .int .i64 0] 28 (0, 0)) ∧ (mkR D k).2.length ≤ k * 11453246122) (fun e w => (ordN D).length - (intOf (e 17)).toNat) ?_ ?_))))))))
 ·exact ⟨0, .slice none 0 0, fun _ => undef, Nat.zero_le _, h1, h2, h3, h12, h15, rfl, ⟨hC114, Typs.nil _ _ _, own_mono hrv hzB2, hx, hz114⟩, ho1, hC1, hC2, hC3, Nat.zero_le _⟩
 rintro e w ⟨k, tv, U, hk, h1, h2, h3, h12, h15, h17, hS, ho1, hC1, hC2, hC3, hln⟩
 have hm17 := h17
 refine W.seq (W.seq (W.region (WL.c rfl (o_mvh h17 (WL.c rfl (o_mvh h12 (WL.c rfl (o_lenR TI79 rfl (Sl.own ho1) (WL.c rfl (o_lt rfl rfl (WL.nil (W.cond rfl (fun c134 => ?_) (fun c134 => ?_)))))))))))))
 ·try simp only [cs8] at c134
  have hk1 : k < (ordN D).length := by omega
  have hi : (ordN D)[k] < D.length := hto.lt _ (List.getElem_mem hk1)
  obtain ⟨i, hie⟩ : ∃ i, i = (ordN D)[k] := ⟨_, rfl⟩
  rw [← hie] at hi
  obtain ⟨ub, uc, hVo, hub⟩ := own_some ho1 (by omega)
  rw [hVo] at h12
  obtain ⟨tb, to_, tc, hdv, htc, hty⟩ := hD00.atk hi
  have htb0 : tb < w0.heap.size := by have := htc 0 _ rfl; exact cell_lt this
  refine W.skip (W.seq (W.block ?_))
  obtain ⟨wq, hwq⟩ : ∃ wq, wq = w.drew := ⟨_, rfl⟩
  have hxq : Ext w wq := hwq ▸ Only.drew w
  replace hS := hS.ext hxq
  replace ho1 := own_ext ho1 hxq
  replace hC1 := hxq.blk hC1 (fun h => h)
  replace hC2 := hxq.blk hC2 (fun h => h)
  replace hC3 := hxq.blk hC3 (fun h => h)
  have hwf := hG.trd.wf i hi
  have hfl := hG.trd.fl i hi
  rw [tyD_at hi] at hfl
  have hflen : (TD D i).flat.length ≤ 11453246122 := by rw [hfl]; exact hnb _ (List.getElem_mem hi)
  obtain ⟨r, hr⟩ : ∃ r, r = mkT (fun nm => (mkR D k).1 (whD D nm)) (TD D i) (mkR D k).2 := ⟨_, rfl⟩
  have hcall := fun w9 (hS9 : BR w0 w9 b114 dv rv D.length (mkR D k).1 (mkR D k).2 tv U) => rmake_all w0 b114 D dv rv V (mkR D k).1 2932031007402 hD00 hlen (Nat.le_refl _) _ (TD D i) (Nat.le_refl _) D[i].ty [] (V i) 0 (mkR D k).2 tv U 0 0 w9 hwf (by rw [List.drop_zero, List.append_nil, hfl]) hty hS9 (fun x hx h9 => hG.kn _ (List.getElem_mem hi) x (by rw [← hfl]; exact hx) h9) (fun x hx => hlim.ex _ (List.getElem_mem hi) x (by rw [← hfl]; exact hx)) (by have := h256; omega) (hlim.ty _ (List.getElem_mem hi))
  rw [← hr] at hcall
  have hrl : r.2.length ≤ (mkR D k).2.length + (TD D i).flat.length := by
   obtain ⟨M, hM, hMl⟩ := mkT_pre (fun nm => (mkR D k).1 (whD D nm)) (TD D i) (mkR D k).2 (wf_leafy _ _ _ hwf)
   have hcn : cntN (TD D i).flat ≤ (TD D i).flat.length := List.length_filter_le _ _
   rw [hr, hM, List.length_append]; omega
  obtain ⟨rb, rc, hrvE, hrvb⟩ := own_some hS.ro (by omega)
  have hoc : wq.cell? ⟨ub, 0 + k * 1, none⟩ = some (.int .i64 (i : Int)) := by
   rw [Nat.zero_add, Nat.mul_one]
   exact own_cell (hVo ▸ ho1) (show ((ordN D).map iv)[k]? = some (iv i) by rw [List.getElem?_map, List.getElem?_eq_getElem hk1, hie]; rfl)
  have hC1s := hC1
  rw [hdv] at hC1s
  have htlo : ∀ b, tv.ownBlock = some b → w0.heap.size ≤ b := fun b hb => (hS.ty.row.lt b hb).1
  have hnU : ¬ PT b114 tv ub := fun h => by
   rcases h with h | h
   ·rw [h] at hub; exact own_off ho1 hS.cell (by decide) hub
   exact own_row_off hS.ty.row ho1 (by decide) ub hub h
  have hnT : ¬ PT b114 tv tb := fun h => by
   rcases h with h | h
   ·omega
   have := htlo tb h; omega
  have hnC : ∀ {c : Nat} {cs : Array Value} {T : TypeId} {fr : Nat × Nat}, wq.heap[c]? = some (.cells cs T fr) → ¬ T = 97 → ¬ 50 = T → ¬ PT b114 tv c := fun hc h1 h2 h => by
   rcases h with h | h
   ·exact blk_ne3 hc hS.cell h1 h
   exact own_off hS.ty.row hc h2 h
  refine W.drawC 19 [18] (fun _ a b => Only (PT b114 tv) a b ∧ ∀ v, a.cell? ⟨b114, 0 + 1, none⟩ = some v → b.cell? ⟨b114, 0 + 1, none⟩ = some v) (fun t w => match t with | 0 => BR w0 w b114 dv rv D.length (mkR D k).1 (mkR D k).2 tv U | _ => ∃ tv' U', BR w0 w b114 dv rv D.length (mkR D k).1 r.2 tv' U') [(1, fun v _ => v = _), (2, fun v _ => v = _), (3, fun v _ => v = _), (12, fun v _ => v = _), (15, fun v _ => v = _), (17, fun v _ => v = _)] rfl (by kernel_rfl) (by kernel_rfl) (fun _ a b h => ⟨h.mono (fun _ _ h => h.elim), fun v hv => h.cell hv (fun h => h)⟩) (fun _ _ _ h => h) (fun a b c h k => ⟨h.1.trans k.1, fun v hv => k.2 v (h.2 v hv)⟩) (fun t a b h k => by cases t with | zero => exact BR.ext h k | succ t => (obtain ⟨tv', U', h⟩ := h; exact ⟨tv', U', h.ext k⟩)) (by rw [← hwq]; exact hS) ⟨Mono.eq, Mono.eq, Mono.eq, Mono.eq, Mono.eq, Mono.eq, trivial⟩ ⟨h1, h2, h3, h12, h15, h17, trivial⟩ (WDS.p rfl (by decide) (fun e w hR hh => by obtain ⟨h15, -⟩ := hh; exact SG.n (o_mvh h15 ⟨rfl, Only.refl No _⟩)) (WDS.p rfl (by decide) (fun e w hR hh => by obtain ⟨h137, -⟩ := hh; exact SG.n (o_nil h137 ⟨rfl, Only.refl No _⟩)) (WDS.p rfl (by decide) (fun e w hR hh => by obtain ⟨h138, -⟩ := hh; exact SG.n (o_fa 1 TI97 rfl TI79 rfl h138 ⟨rfl, Only.refl No _⟩)) (WDS.p rfl (by decide) (fun e w hR hh => by obtain ⟨h139, -⟩ := hh; rw [← hwq] at hR; exact SG.n (o_ld TI79 rfl h139 (hR.2 _ (hS.rvc hrvE)) ⟨rfl, Only.refl No _⟩)) (WDS.p rfl (by decide) (fun e w hR hh => by obtain ⟨h12, -⟩ := hh; exact SG.n (o_mvh h12 ⟨rfl, Only.refl No _⟩)) (WDS.p rfl (by decide) (fun e w hR hh => by obtain ⟨h17, -⟩ := hh; exact SG.n (o_mvh h17 ⟨rfl, Only.refl No _⟩)) (WDS.p rfl (by decide) (fun e w hR hh => by obtain ⟨h142, h141, -⟩ := hh; exact SG.n (o_ixB (i := k) TI79 TI3 h141 h142 (by omega) ⟨rfl, Only.refl No _⟩)) (WDS.p rfl (by decide) (fun e w hR hh => by obtain ⟨h143, -⟩ := hh; rw [← hwq] at hR; exact SG.n (o_ld TI3 rfl h143 (hR.1.cell hoc hnU) ⟨rfl, Only.refl No _⟩)) (WDS.p rfl (by decide) (fun e w hR hh => by obtain ⟨h15, -⟩ := hh; exact SG.n (o_mvh h15 ⟨rfl, Only.refl No _⟩)) (WDS.p rfl (by decide) (fun e w hR hh => by obtain ⟨h1, -⟩ := hh; exact SG.n (o_fa 0 TI25 rfl TI23 rfl h1 ⟨rfl, Only.refl No _⟩)) (WDS.p rfl (by decide) (fun e w hR hh => by obtain ⟨h146, -⟩ := hh; rw [← hwq] at hR; exact SG.n (o_ld TI23 rfl h146 (cell_of (hR.1.blk hC1s (hnC hC1 (by decide) (by decide))) rfl) ⟨rfl, Only.refl No _⟩)) (WDS.p rfl (by decide) (fun e w hR hh => by obtain ⟨h12, -⟩ := hh; exact SG.n (o_mvh h12 ⟨rfl, Only.refl No _⟩)) (WDS.p rfl (by decide) (fun e w hR hh => by obtain ⟨h17, -⟩ := hh; exact SG.n (o_mvh h17 ⟨rfl, Only.refl No _⟩)) (WDS.p rfl (by decide) (fun e w hR hh => by obtain ⟨h149, h148, -⟩ := hh; exact SG.n (o_ixB (i := k) TI79 TI3 h148 h149 (by omega) ⟨rfl, Only.refl No _⟩)) (WDS.p rfl (by decide) (fun e w hR hh => by obtain ⟨h150, -⟩ := hh; rw [← hwq] at hR; exact SG.n (o_ld TI3 rfl h150 (hR.1.cell hoc hnU) ⟨rfl, Only.refl No _⟩)) (WDS.p rfl (by decide) (fun e w hR hh => by obtain ⟨h151, h147, -⟩ := hh; exact SG.n (o_ixB (i := i) TI23 TI39 h147 h151 (by omega) ⟨rfl, Only.refl No _⟩)) (WDS.p rfl (by decide) (fun e w hR hh => by obtain ⟨h152, -⟩ := hh; exact SG.n (o_fa 2 TI39 rfl TI37 rfl h152 ⟨rfl, Only.refl No _⟩)) (WDS.p rfl (by decide) (fun e w hR hh => by obtain ⟨h153, -⟩ := hh; rw [← hwq] at hR; exact SG.n (o_ld TI37 rfl h153 (hR.1.cell (Cells.only htc hS.ex (fun h => h) 2 _ rfl) hnT) ⟨rfl, Only.refl No _⟩)) (WDS.m 0 0 (fun v _ => v = _) (Mono.eq) (by kernel_rfl) rfl rfl (fun e w hR hW hh => by obtain ⟨h154, h145, -⟩ := hh; exact SGX.n (OP.x (o_call Try.call38 (lc h145 (lc h154 (lc rfl ln))) ((hcall _ hW).mono (fun v w' ⟨tv', U', h1, h2, h3, _, _⟩ => ⟨h1, ⟨h3, fun v hv => by have e1 := cell_of (BR.cell hW) (show _[0 + 1]? = some rv from rfl); rw [hv] at e1; cases e1; exact cell_of h2.cell rfl⟩, tv', U', h2⟩))))) ?_)))))))))))))))))))
  rintro e w hR hW ⟨h155, h154, h153, h152, h151, h150, h149, h148, h147, h146, h145, h144, h143, h142, h141, h140, h139, h138, h137, h1, h2, h3, h12, h15, h17, -⟩
  rw [← hwq] at hR
  obtain ⟨tv', U', hS'⟩ : ∃ tv' U', BR w0 w b114 dv rv D.length (mkR D k).1 r.2 tv' U' := hW
  replace ho1 := own_only ho1 hR.1 (fun b hb h => by
   rcases h with h | h
   ·rw [h] at hb; exact own_off ho1 hS.cell (by decide) hb
   exact own_row_off hS.ty.row ho1 (by decide) b hb h)
  replace hC1 := hR.1.blk hC1 (hnC hC1 (by decide) (by decide))
  replace hC2 := hR.1.blk hC2 (hnC hC2 (by decide) (by decide))
  replace hC3 := hR.1.blk hC3 (hnC hC3 (by decide) (by decide))
  have hro' := hS'.ro
  rw [hrvE] at hro'
  refine WL.c rfl (o_ixB (i := i) TI79 TI3 h140 h144 (by omega) (WL.u (o_stRj TI3 rfl (show 0 + i * 1 = i by omega) h155 rfl hro' (show Value.ownBlock (Value.slice (some ⟨rb, 0, none⟩) D.length rc) = some rb from rfl) (by omega) ?_)))
  intro w8 hrt ho8 hs8
  rw [zvs_set] at hrt
  have hS2 : BR w0 w8 b114 dv rv D.length (upI (mkR D k).1 i r.1) r.2 tv' U' := ⟨ho8.blk hS'.cell (fun h => own_off hro' hS'.cell (by decide) h), hS'.ty.only ho8 (fun b hb h => by
    rcases hb with hb | ⟨j, hj, hb⟩
    ·exact own_row_off hS'.ty.row hro' (by decide) b h hb
    exact own_row_off (hS'.ty.tys.row j hj) hro' (by decide) b h hb), by rw [hrvE]; exact hrt, hS'.ex.trans' ho8 (fun _ h => h) (fun b hb h => by have := (hro'.lt b h).1; omega), hS'.pH⟩
  replace ho1 := own_only ho1 ho8 (fun b hb h => by have h1 := ho1l b hb; have h2 := hrvl b (by rw [hrvE]; exact h); omega)
  replace hC1 := ho8.blk hC1 (fun h => own_off hro' hC1 (by decide) h)
  replace hC2 := ho8.blk hC2 (fun h => own_off hro' hC2 (by decide) h)
  replace hC3 := ho8.blk hC3 (fun h => own_off hro' hC3 (by decide) h)
  replace hS' := hS2
  refine WL.nil (W.region (WL.c rfl (o_mvh h17 (WL.c rfl (o_addi rfl rfl (by omega) (WL.c rfl (o_ash vI (WL.nil ?_))))))))
  have hsc := mkR_succ hk1
  rw [← hie, ← hr] at hsc
  refine ⟨⟨k + 1, tv', U', by omega, h1, h2, h3, h12.trans hVo.symm, h15, rfl, by rw [hsc]; exact hS', ho1, hC1, hC2, hC3, by rw [hsc]; show r.2.length ≤ _; omega⟩, ?_⟩
  show (ordN D).length - ((k : Int) + 1).toNat < _
  rw [hm17]; simp [intOf]; omega
 try simp only [cs8] at c134
 have hk1 : k = (ordN D).length := by omega
 obtain ⟨F, hF⟩ : ∃ x, x = (mkR D k).1 := ⟨_, rfl⟩
 obtain ⟨L, hL⟩ : ∃ x, x = (mkR D k).2 := ⟨_, rfl⟩
 rw [← hF, ← hL] at hS
 have hall := mkR_all hG
 have hsT : schT D = L := by rw [hL, hk1, hall.1]
 have hsR : schR D = rooN D F := by rw [hF, hk1, hall.2]
 refine W.exit (W.seq (W.region (WL.c rfl (o_mvh h15 (WL.c rfl (o_nil rfl (WL.c rfl (o_fa 0 TI97 rfl TI31 rfl rfl (WL.c rfl (o_ld TI31 rfl rfl (cell_of hS.cell rfl) (WL.c rfl (o_bldC (cs := [tv, .slice none 0 0]) TI34 (Sizes.cons TI31 (Sizes.cons TI32 Sizes.nil)) rfl (lcp (show _ = tv from rfl) lnp) (by simp [own_one hS.ty.row]) rfl (WL.c rfl (o_alB TI34 ?_))))))))))))))
 intro wa hCa hxa hsa
 refine WL.u (o_stA TI34 rfl (show _ = Value.agg ([tv, .slice none 0 0]).toArray from rfl) rfl (by simp [own_one hS.ty.row, show (Value.slice none 0 0).oneCell' = true from rfl]) hCa rfl ?_)
 intro wb18 hC18 hob hsb
 have hxb := Ext.own hxa (Nat.le_refl _) hob
 obtain ⟨b18, hb18⟩ : ∃ b, b = w.heap.size := ⟨_, rfl⟩
 rw [← hb18] at hC18 ⊢
 clear hCa hxa hsa hob hsb
 have hc218 : ¬ c2 = b18 := by have := blk_lt3 hC2; omega
 have hz18 : w0.heap.size ≤ b18 := by have := hS.ex.size; omega
 replace hS := hS.ext hxb
 replace hC1 := hxb.blk hC1 (fun h => h)
 replace hC2 := hxb.blk hC2 (fun h => h)
 replace hC3 := hxb.blk hC3 (fun h => h)
 clear hxb
 refine WL.nil (W.seq (W.seq (W.region (WL.c rfl (o_ash vI (WL.nil (W.block (W.loop (fun e w => ∃ (q : Nat) (qv : Value), q ≤ D.length ∧ e 1 = .pointer (some ⟨b1, 0, none⟩) ∧ e 2 = .pointer (some ⟨c2, 0, none⟩) ∧ e 3 = .pointer (some ⟨c3, 0, none⟩) ∧ e 15 = .pointer (some ⟨b114, 0, none⟩) ∧ e 18 = .pointer (some ⟨b18, 0, none⟩) ∧ e 19 = .int .i64 (q : Int) ∧ BR w0 w b114 dv rv D.length F L tv U ∧ w.heap[b18]? = some (.cells #[tv, qv] 34 (0, 0)) ∧ w.ownsRow w0.heap.size 47 2 qv q (ros ((rooN D F).take q)) ∧ w.heap[b1]? = some (.cells #[dv] 25 (0, 0)) ∧ w.heap[c2]? = some (.cells #[.slice none 0 0, .slice none 0 0] 34 (0, 0)) ∧ w.heap[c3]? = some (.cells #[.int .i64 0, .int .i64 0] 28 (0, 0))) (fun e w => D.length - (intOf (e 19)).toNat) ?_ ?_))))))))
 ·exact ⟨0, .slice none 0 0, Nat.zero_le _, h1, h2, h3, h15, rfl, rfl, hS, hC18, World.ownsRow_nil _ _ _ _, hC1, hC2, hC3⟩
 rintro e w ⟨q, qv, hq, h1, h2, h3, h15, h18, h19, hS, hC18, hqv, hC1, hC2, hC3⟩
 have hm19 := h19
 refine W.seq (W.seq (W.region (WL.c rfl (o_mvh h19 (WL.c rfl (o_fa 0 TI25 rfl TI23 rfl h1 (WL.c rfl (o_ld TI23 rfl rfl (cell_of hC1 rfl) (WL.c rfl (o_lenR TI23 rfl ((hD00.ext hS.ex).row) (WL.c rfl (o_lt rfl rfl (WL.nil (W.cond rfl (fun c166 => ?_) (fun c166 => ?_)))))))))))))))
 ·try simp only [cs8] at c166
  have hq1 : q < D.length := by omega
  obtain ⟨tb, to_, tc, hdv, htc, hty⟩ := hD00.atk hq1
  have htb0 : tb < w0.heap.size := by have := htc 0 _ rfl; exact cell_lt this
  refine W.skip (W.seq (W.block ?_))
  obtain ⟨RR, hRR⟩ : ∃ x : Ro, x = ⟨D[q].name, F q⟩ := ⟨_, rfl⟩
  obtain ⟨wd2, hwd2⟩ : ∃ wd, wd = w.drew := ⟨_, rfl⟩
  have hxd : Ext w wd2 := hwd2 ▸ Only.drew w
  replace hS := hS.ext hxd
  replace hqv := own_ext hqv hxd
  replace hC1 := hxd.blk hC1 (fun h => h)
  replace hC2 := hxd.blk hC2 (fun h => h)
  replace hC3 := hxd.blk hC3 (fun h => h)
  replace hC18 := hxd.blk hC18 (fun h => h)
  have hC1s := hC1
  rw [hdv] at hC1s
  have hlt : ∀ b, qv.ownBlock = some b → b < wd2.heap.size := fun b hb => (hqv.lt b hb).2
  have hqlo : ∀ b, qv.ownBlock = some b → w0.heap.size ≤ b := fun b hb => (hqv.lt b hb).1
  have hw00 := hS.ex.size
  obtain ⟨rb, rc, hrvE, hrvb⟩ := own_some hS.ro (by omega)
  refine W.drawF 18 [17] [fun k => qv.ownBlock = some k] [(1, fun v _ => v = _), (2, fun v _ => v = _), (3, fun v _ => v = _), (15, fun v _ => v = _), (18, fun v _ => v = _), (19, fun v _ => v = _)] rfl (by kernel_rfl) (by kernel_rfl) ⟨Mono.eq, Mono.eq, Mono.eq, Mono.eq, Mono.eq, Mono.eq, trivial⟩ ⟨h1, h2, h3, h15, h18, h19, trivial⟩ (WDS.p rfl (by decide) (fun e w hR hh => by obtain ⟨h18, -⟩ := hh; exact SG.n (o_fa 1 TI34 rfl TI32 rfl h18 ⟨rfl, Only.refl No _⟩)) (WDS.p rfl (by decide) (fun e w hR hh => by obtain ⟨h169, -⟩ := hh; rw [← hwd2] at hR; have hc := hR.blk hC18 (fun hF => by rcases hF with hF | hF <;> first | exact hF | exact own_off hqv hC18 (by decide) hF); exact SG.n (o_ld TI32 rfl h169 (cell_of hc rfl) ⟨rfl, Only.refl No _⟩)) (WDS.p rfl (by decide) (fun e w hR hh => by obtain ⟨h1, -⟩ := hh; exact SG.n (o_fa 0 TI25 rfl TI23 rfl h1 ⟨rfl, Only.refl No _⟩)) (WDS.p rfl (by decide) (fun e w hR hh => by obtain ⟨h171, -⟩ := hh; rw [← hwd2] at hR; have hc := hR.blk hC1s (fun hF => by rcases hF with hF | hF <;> first | exact hF | exact own_off hqv hC1 (by decide) hF); exact SG.n (o_ld TI23 rfl h171 (cell_of hc rfl) ⟨rfl, Only.refl No _⟩)) (WDS.p rfl (by decide) (fun e w hR hh => by obtain ⟨h19, -⟩ := hh; exact SG.n (o_mvh h19 ⟨rfl, Only.refl No _⟩)) (WDS.p rfl (by decide) (fun e w hR hh => by obtain ⟨h173, h172, -⟩ := hh; exact SG.n (o_ixB (i := q) TI23 TI39 h172 h173 (by omega) ⟨rfl, Only.refl No _⟩)) (WDS.p rfl (by decide) (fun e w hR hh => by obtain ⟨h174, -⟩ := hh; exact SG.n (o_fa 0 TI39 rfl TI9 rfl h174 ⟨rfl, Only.refl No _⟩)) (WDS.p rfl (by decide) (fun e w hR hh => by obtain ⟨h175, -⟩ := hh; rw [← hwd2] at hR; have hc := hR.cell (Cells.only htc hS.ex (fun h => h) 0 _ rfl) (fun hF => by rcases hF with hF | hF <;> first | exact hF | exact (fun e => absurd (hqlo _ e) (by omega)) hF); exact SG.n (o_ld TI9 rfl h175 hc ⟨rfl, Only.refl No _⟩)) (WDS.p rfl (by decide) (fun e w hR hh => by obtain ⟨h15, -⟩ := hh; exact SG.n (o_mvh h15 ⟨rfl, Only.refl No _⟩)) (WDS.p rfl (by decide) (fun e w hR hh => by obtain ⟨h177, -⟩ := hh; exact SG.n (o_nil h177 ⟨rfl, Only.refl No _⟩)) (WDS.p rfl (by decide) (fun e w hR hh => by obtain ⟨h178, -⟩ := hh; exact SG.n (o_fa 1 TI97 rfl TI79 rfl h178 ⟨rfl, Only.refl No _⟩)) (WDS.p rfl (by decide) (fun e w hR hh => by obtain ⟨h179, -⟩ := hh; rw [← hwd2] at hR; have hc := hR.blk hS.cell (fun hF => by rcases hF with hF | hF <;> first | exact hF | exact own_off hqv hS.cell (by decide) hF); exact SG.n (o_ld TI79 rfl h179 (show World.cell? _ ⟨b114, 0 + 1, none⟩ = some (.slice (some ⟨rb, 0, none⟩) D.length rc) from by rw [← hrvE]; exact cell_of hc rfl) ⟨rfl, Only.refl No _⟩)) (WDS.p rfl (by decide) (fun e w hR hh => by obtain ⟨h19, -⟩ := hh; exact SG.n (o_mvh h19 ⟨rfl, Only.refl No _⟩)) (WDS.p rfl (by decide) (fun e w hR hh => by obtain ⟨h181, h180, -⟩ := hh; exact SG.n (o_ixB (i := q) TI79 TI3 h180 h181 (by omega) ⟨rfl, Only.refl No _⟩)) (WDS.p rfl (by decide) (fun e w hR hh => by obtain ⟨h182, -⟩ := hh; rw [← hwd2] at hR; have hro := own_only hS.ro hR (fun b hb => fun hF => by rcases hF with hF | hF <;> first | exact hF | exact own_row_off hqv hS.ro (by decide) b hb hF); rw [hrvE] at hro; exact SG.n (o_ld TI3 rfl h182 (show World.cell? _ ⟨rb, 0 + q * 1, none⟩ = some (.int .i64 (F q)) from by rw [Nat.zero_add, Nat.mul_one]; exact own_cell hro (zvs_at hq1)) ⟨rfl, Only.refl No _⟩)) (WDS.p rfl (by decide) (fun e w hR hh => by obtain ⟨h183, h176, -⟩ := hh; exact SG.n (o_bldC (cs := [_, _]) TI47 (Sizes.cons TI9 (Sizes.cons TI3 Sizes.nil)) rfl (lcp h176 (lcp h183 lnp)) rfl rfl ⟨rfl, Only.refl No _⟩)) (WDS.q 0 (fun v w => w.ownsRow wd2.heap.size 47 2 v 1 (roV RR)) (fun v w w2 hR hh => own_only hh hR (fun k hk hF => by rcases hF with hF | hF <;> first | exact hF | (have := hlt k hF; have := (hh.lt k hk).1; omega))) (by kernel_rfl) rfl (by decide) (fun e w hR hh => by obtain ⟨h184, -⟩ := hh; rw [← hwd2] at hR; exact SG.n (o_bs1 TI32 TI47 (show _ = Value.agg (roV RR).toArray from by rw [hRR]; exact h184) (by decide) (by decide) rfl ⟨own_mono (own_new1 rfl) hR.size, Only.alloc w _⟩)) (WDS.mf 0 1 (fun v w => w.ownsRow w0.heap.size 47 2 v (q + 1) (ros ((rooN D F).take q) ++ roV RR)) (fun v w w2 hR hh => own_ext hh hR) (by kernel_rfl) rfl rfl rfl (fun e w hR hW hh => by obtain ⟨h185, h170, -⟩ := hh; rw [← hwd2] at hR hW; have hW2 : Ext wd2 w := hW.mono (fun _ _ h => h); have hw2 := hR.size; exact SGX.n (OP.x (o_apO w0.heap.size TI32 TI47 h170 rfl (own_ext hqv hW2) (Sl.own h185) rfl (by decide) (roV_all RR) (by rw [maxLen_eq]; omega) (by omega) (by omega) (fun v' w' h1 h2 h3 _ => ⟨h1, h2⟩)))) ?_))))))))))))))))))
  rintro e w hR ⟨h186, h185, h184, h183, h182, h181, h180, h179, h178, h177, h176, h175, h174, h173, h172, h171, h170, h169, h1, h2, h3, h15, h18, h19, -⟩
  rw [← hwd2] at hR
  obtain ⟨v186, hv186⟩ : ∃ v, v = e 186 := ⟨_, rfl⟩
  rw [← hv186] at h186
  replace hC1 := hR.blk hC1 (fun hF => by rcases hF with hF | hF <;> first | exact hF | exact own_off hqv hC1 (by decide) hF)
  replace hC18 := hR.blk hC18 (fun hF => by rcases hF with hF | hF <;> first | exact hF | exact own_off hqv hC18 (by decide) hF)
  replace hC2 := hR.blk hC2 (fun hF => by rcases hF with hF | hF <;> first | exact hF | exact own_off hqv hC2 (by decide) hF)
  replace hC3 := hR.blk hC3 (fun hF => by rcases hF with hF | hF <;> first | exact hF | exact own_off hqv hC3 (by decide) hF)
  replace hS := hS.only hR (fun hF => by rcases hF with hF | hF <;> first | exact hF | exact own_off hqv hS.cell (by decide) hF) (fun b hb => fun hF => by rcases hF with hF | hF <;> first | exact hF | exact own_row_off hqv hS.ty.row (by decide) b hb hF) (fun j hj b hb => fun hF => by rcases hF with hF | hF <;> first | exact hF | exact own_row_off hqv (hS.ty.tys.row j hj) (by decide) b hb hF) (fun b hb => fun hF => by rcases hF with hF | hF <;> first | exact hF | exact own_row_off hqv hS.ro (by decide) b hb hF) (fun b hF => by rcases hF with hF | hF <;> first | exact (hqv.lt b hF).1 | exact hF.elim)
  refine WL.c rfl (o_fa 1 TI34 rfl TI32 rfl h18 (WL.u (o_stB TI32 rfl (show _ = v186 from hv186.symm) (own_one h186) hC18 (show 1 < 2 by decide) ?_)))
  intro w9 hC18n ho9 hs9
  replace hC18n : w9.heap[b18]? = some (.cells #[tv, v186] 34 (0, 0)) := hC18n
  have hof := hS.off hC18 (by decide) (by decide) (by decide)
  have hnt : ∀ b, tv.ownBlock = some b → ¬ b = b18 := fun b hb e => by subst e; exact own_off hS.ty.row hC18 (by decide) hb
  replace hS := hS.only ho9 hof.1 hnt hof.2.1 hof.2.2 (fun b e => by omega)
  have hqv2 := own_only h186 ho9 (fun b hb e => by subst e; exact own_off h186 hC18 (by decide) hb)
  replace hC2 := ho9.blk hC2 hc218
  replace hC1 := ho9.blk hC1 (blk_ne3 hC1 hC18 (by decide))
  replace hC3 := ho9.blk hC3 (blk_ne3 hC3 hC18 (by decide))
  refine WL.nil (W.region (WL.c rfl (o_mvh h19 (WL.c rfl (o_addi rfl rfl (by omega) (WL.c rfl (o_ash vI (WL.nil (⟨⟨q + 1, v186, by omega, h1, h2, h3, h15, h18, rfl, hS, hC18n, by rw [rooN_take hq1, ros_snoc, ← hRR]; exact hqv2, hC1, hC2, hC3⟩, ?_⟩)))))))))
  show D.length - ((q : Int) + 1).toNat < _
  rw [hm19]; simp [intOf]; omega
 try simp only [cs8] at c166
 have hq1 : q = D.length := by omega
 refine W.exit (W.seq ?_)
 skip
 skip
 refine W.region (WL.c rfl (o_ldA TI34 rfl h18 (show Cells _ b18 0 [tv, qv] from Cells.of hC18 0 _ (by simp)) rfl (WL.c rfl (o_bldC (cs := [(.int .i64 0), (.int .i64 0)]) TI28 (Sizes.cons TI26 (Sizes.cons TI3 Sizes.nil)) rfl lnp rfl rfl (WL.u (o_stA TI34 h2 (show _ = Value.agg #[tv, qv] from rfl) rfl (by simp [own_one hqv, own_one hS.ty.row]) hC2 rfl ?_))))))
 intro wy hC2y hoy hsy
 replace hC2y : wy.heap[c2]? = some (.cells #[tv, qv] 34 (0, 0)) := hC2y
 have hTy := hS.ty.only hoy (fun b hb e => by
  subst e
  rcases hb with hb | ⟨j, hj, hb⟩
  ·exact own_off hS.ty.row hC2 (by decide) hb
  exact own_off (hS.ty.tys.row j hj) hC2 (by decide) hb)
 replace hqv := own_only hqv hoy (fun b hb e => by subst e; exact own_off hqv hC2 (by decide) hb)
 have hx := hS.ex.trans' hoy (fun _ h => h) (fun b hb e => by omega)
 replace hC3 := hoy.blk hC3 (blk_ne3 hC3 hC2 (by decide))
 refine WL.u (o_stA TI28 h3 (show _ = Value.agg #[.int .i64 0, .int .i64 0] from rfl) rfl rfl hC3 rfl ?_)
 intro wz hC3z hoz hsz
 replace hC2y := hoz.blk hC2y (blk_ne3 hC2y hC3 (by decide))
 replace hTy := hTy.only hoz (fun b hb e => by
  subst e
  rcases hb with hb | ⟨j, hj, hb⟩
  ·exact own_off hTy.row hC3 (by decide) hb
  exact own_off (hTy.tys.row j hj) hC3 (by decide) hb)
 replace hqv := own_only hqv hoz (fun b hb e => by subst e; exact own_off hqv hC3 (by decide) hb)
 replace hx := hx.trans' hoz (fun _ h => h) (fun b hb e => by omega)
 refine WL.nil (W.ret (retAA rfl TI34 rfl TI28 rfl h2 h3 (show Cells _ c2 0 [tv, qv] from Cells.of hC2y 0 _ (by simp)) rfl (show Cells _ c3 0 [.int .i64 0, .int .i64 0] from Cells.of hC3z 0 _ (by simp)) rfl ?_))
 obtain ⟨hv1, hv2⟩ := bldV_no hbl
 refine ⟨tv, qv, U, by rw [hv1, hv2], ?_, hx⟩
 have e1 : bldT D = L := by unfold bldT; rw [if_pos hbl, hsT]
 have e2 : bldR D = rooN D F := by unfold bldR; rw [if_pos hbl, hsR]
 have e3 : (rooN D F).length = D.length := by simp [rooN]
 rw [e1, e2, hb1]
 rw [hq1, List.take_of_length_le (by rw [e3]; exact Nat.le_refl _)] at hqv
 exact ⟨hTy, by rw [e3]; exact hqv⟩
end Go.Proofs.Ytpbflfgigfdohaa

namespace Go.Proofs.Ytpbflfgigfdohaa
open Go Go.Vc Go.RowKit Go.Proofs

theorem own_of09 {w : World} {el s b m : Nat} (h : w.heap[b]? = some (.cells #[] el (0, 0))) (hb : m ≤ b) : w.ownsRow m el s (.slice (some ⟨b, 0, none⟩) 0 0) 0 [] :=
 ⟨by simp, .inr ⟨b, 0, #[], rfl, hb, h, Nat.le_refl _, by decide, by simp, by simp⟩⟩
theorem drowsK_snoc9 (D : List Df) (V : Nat → Value) {k : Nat} (v : Value) (hk : k < D.length) : drowsK D (fun j => if j = k then v else V j) (k + 1) = drowsK D V k ++ dcell D[k] v := by
 rw [drowsK_succ, getD_at hk]

set_option maxHeartbeats 4000000 in
theorem copied9_spec (D : List Df) (dv : Value) (V : Nat → Value) (w0 : World) (hD0 : DefR w0 D dv V) (hlim : DOk D) : Ca Try.prog 11 #[.agg #[dv]] w0 (fun r w' => ∃ kv W, r = .agg #[kv] ∧ Defs w' w0.heap.size D kv W ∧ Ext w0 w') := by
 obtain ⟨BB, hBB⟩ : ∃ B, B = w0.heap.size := ⟨_, rfl⟩
 rw [← hBB]
 have hlen := hlim.len
 refine Ca.of Try.func11 Try.ntmps11 rfl rfl (W.seq (W.region (WL.c rfl (o_boxB rfl ?_))))
 intro w1 hC1 hx1 hs1
 have hx := hx1
 replace hC1 : w1.heap[w0.heap.size]? = some (.cells #[dv] 25 (0, 0)) := hC1
 obtain ⟨c1, hc1⟩ : ∃ c, c = w0.heap.size := ⟨_, rfl⟩
 rw [← hc1] at hC1 ⊢
 refine WL.c rfl (o_alB TI25 ?_)
 intro w2 hC2 hx2 hs2
 replace hC2 : w2.heap[w1.heap.size]? = some (.cells #[.slice none 0 0] 25 (0, 0)) := hC2
 obtain ⟨c2, hc2⟩ : ∃ c, c = w1.heap.size := ⟨_, rfl⟩
 rw [← hc2] at hC2 ⊢
 replace hx := hx.tr hx2
 replace hC1 := hx2.blk hC1 (fun h => h)
 refine WL.nil (W.seq (W.region (WL.c rfl (o_alB TI25 ?_))))
 intro w3 hC3 hx3 hs3
 replace hC3 : w3.heap[w2.heap.size]? = some (.cells #[.slice none 0 0] 25 (0, 0)) := hC3
 obtain ⟨c3, hc3⟩ : ∃ c, c = w2.heap.size := ⟨_, rfl⟩
 rw [← hc3] at hC3 ⊢
 replace hx := hx.tr hx3
 replace hC1 := hx3.blk hC1 (fun h => h)
 replace hC2 := hx3.blk hC2 (fun h => h)
 have hb1 : BB ≤ c1 ∧ c1 < c2 ∧ c2 < c3 := by omega
 clear hs1 hs2 hs3 hc1 hc2 hc3 hx1 hx2 hx3
 refine WL.nil (W.seq (W.seq (W.region (WL.c rfl (o_ash vI (WL.nil (W.block (W.loop (fun e w => ∃ (k : Nat) (kv : Value) (KW : Nat → Value), k ≤ D.length ∧ e 1 = .pointer (some ⟨c1, 0, none⟩) ∧ e 2 = .pointer (some ⟨c2, 0, none⟩) ∧ e 3 = .pointer (some ⟨c3, 0, none⟩) ∧ e 4 = .int .i64 (k : Int) ∧ w.heap[c1]? = some (.cells #[dv] 25 (0, 0)) ∧ w.heap[c2]? = some (.cells #[.slice none 0 0] 25 (0, 0)) ∧ w.heap[c3]? = some (.cells #[kv] 25 (0, 0)) ∧ w.ownsRow BB 39 3 kv k (drowsK D KW k) ∧ Many w BB 41 7 k KW (fun j => (tyD D j).length) (fun j => exs (tyD D j)) ∧ Ext w0 w) (fun e w => D.length - (intOf (e 4)).toNat) ?_ ?_))))))))
 ·exact ⟨0, .slice none 0 0, fun _ => undef, Nat.zero_le _, rfl, rfl, rfl, rfl, hC1, hC2, hC3, World.ownsRow_nil _ _ _ _, Many.zero, hx⟩
 rintro e w ⟨k, kv, KW, hk, h1, h2, h3, h4, hC1, hC2, hC3, krow, ktys, hx⟩
 have hm4 := h4
 refine W.seq (W.seq (W.region (WL.c rfl (o_mvh h4 (WL.c rfl (o_fa 0 TI25 rfl TI23 rfl h1 (WL.c rfl (o_ld TI23 rfl rfl (cell_of hC1 rfl) (WL.c rfl (o_lenR TI23 rfl (hD0.ext hx).row (WL.c rfl (o_lt rfl rfl (WL.nil (W.cond rfl (fun c10 => ?_) (fun c10 => ?_)))))))))))))))
 ·try simp only [cs8] at c10
  have hk1 : k < D.length := by omega
  obtain ⟨tb, to_, tc, hdv, htc, hty⟩ := (hD0.ext hx).atk hk1
  have hC1s := hC1
  rw [hdv] at hC1s
  have htl := hlim.ty _ (List.getElem_mem hk1)
  refine W.skip (W.seq (W.block (W.seq (W.region (WL.c rfl (o_fa 0 TI25 rfl TI23 rfl h1 (WL.c rfl (o_ld TI23 rfl rfl (cell_of hC1s rfl) (WL.c rfl (o_mvh h4 (WL.c rfl (o_ixB (i := k) TI23 TI39 (show _ = Value.slice (some ⟨tb, to_, none⟩) D.length tc from rfl) (show _ = Value.int .i64 (k : Int) from rfl) (by omega) (WL.c rfl (o_ldA TI39 rfl rfl htc rfl (WL.c rfl (o_alB TI39 ?_))))))))))))))))
  intro wa hCa hxa hsa
  refine WL.u (o_stA TI39 rfl (show _ = Value.agg (dcell D[k] (V k)).toArray from rfl) rfl (by simp only [dcell, List.toArray, Array.toList, List.all_cons, List.all_nil, sl_one1 hty]; rfl) hCa rfl ?_)
  intro wb5 hC5 hob hsb
  have hxb := Ext.own hxa (Nat.le_refl _) hob
  obtain ⟨b5, hb5⟩ : ∃ b, b = w.heap.size := ⟨_, rfl⟩
  rw [← hb5] at hC5 ⊢
  clear hCa hxa hsa hob hsb
  replace hx := hx.tr hxb
  replace hC1 := hxb.blk hC1 (fun h => h)
  replace hC2 := hxb.blk hC2 (fun h => h)
  replace hC3 := hxb.blk hC3 (fun h => h)
  replace krow := own_ext krow hxb
  replace ktys := ktys.ext hxb
  replace hty := hty.ext hxb
  clear hxb
  refine WL.nil ?_
  obtain ⟨we, hwe⟩ : ∃ we, we = wb5.drew := ⟨_, rfl⟩
  have hxe : Ext wb5 we := hwe ▸ Only.drew wb5
  replace hx := hx.tr hxe
  replace hC1 := hxe.blk hC1 (fun h => h)
  replace hC2 := hxe.blk hC2 (fun h => h)
  replace hC3 := hxe.blk hC3 (fun h => h)
  replace krow := own_ext krow hxe
  replace ktys := ktys.ext hxe
  replace hty := hty.ext hxe
  replace hC5 := hxe.blk hC5 (fun h => h)
  have ktl2 : ∀ j, j < k → ∀ b, (KW j).ownBlock = some b → b < we.heap.size := fun j hj b hb => (ktys.lt hj hb).2
  have hzwe : BB ≤ we.heap.size := by rw [hBB]; exact hx.size
  refine W.drawT 12 (Ext) [(1, fun v _ => v = _), (2, fun v _ => v = _), (3, fun v _ => v = _), (4, fun v _ => v = _), (5, fun v _ => v = _)] rfl (by kernel_rfl) (Only.refl No) (fun _ _ _ h k => h.trans k) ⟨Mono.eq, Mono.eq, Mono.eq, Mono.eq, Mono.eq, trivial⟩ ⟨h1, h2, h3, h4, rfl, trivial⟩ (WD.p rfl (fun e w hR hh => by obtain ⟨h3, -⟩ := hh; exact SG.n (o_fa 0 TI25 rfl TI23 rfl h3 ⟨rfl, Only.refl No _⟩)) (WD.p rfl (fun e w hR hh => by obtain ⟨h18, -⟩ := hh; rw [← hwe] at hR; exact SG.n (o_ld TI23 rfl h18 (cell_of (hR.blk hC3 (fun h => h)) rfl) ⟨rfl, Only.refl No _⟩)) (WD.p rfl (fun e w hR hh => by obtain ⟨h5, -⟩ := hh; exact SG.n (o_fa 0 TI39 rfl TI9 rfl h5 ⟨rfl, Only.refl No _⟩)) (WD.p rfl (fun e w hR hh => by obtain ⟨h20, -⟩ := hh; rw [← hwe] at hR; exact SG.n (o_ld TI9 rfl h20 (cell_of (hR.blk hC5 (fun h => h)) rfl) ⟨rfl, Only.refl No _⟩)) (WD.p rfl (fun e w hR hh => by obtain ⟨h5, -⟩ := hh; exact SG.n (o_fa 1 TI39 rfl TI3 rfl h5 ⟨rfl, Only.refl No _⟩)) (WD.p rfl (fun e w hR hh => by obtain ⟨h22, -⟩ := hh; rw [← hwe] at hR; exact SG.n (o_ld TI3 rfl h22 (cell_of (hR.blk hC5 (fun h => h)) rfl) ⟨rfl, Only.refl No _⟩)) (WD.q (fun u w => ∃ b, we.heap.size ≤ b ∧ u = .slice (some ⟨b, 0, none⟩) 0 0 ∧ w.heap[b]? = some (.cells #[] 41 (0, 0))) (fun u w w2 hR hh => by obtain ⟨b, a1, a2, a3⟩ := hh; exact ⟨b, a1, a2, hR.blk a3 (fun h => h)⟩) rfl (fun e w hR hh => by skip; rw [← hwe] at hR; exact SG.n (o_bs0 TI37 TI41 ⟨⟨_, hR.size, rfl, heap_alloc_new _ _⟩, Only.alloc _ _⟩)) (WD.p rfl (fun e w hR hh => by obtain ⟨h5, -⟩ := hh; exact SG.n (o_fa 2 TI39 rfl TI37 rfl h5 ⟨rfl, Only.refl No _⟩)) (WD.p rfl (fun e w hR hh => by obtain ⟨h25, -⟩ := hh; rw [← hwe] at hR; exact SG.n (o_ld TI37 rfl h25 (cell_of (hR.blk hC5 (fun h => h)) rfl) ⟨rfl, Only.refl No _⟩)) (WD.q (fun u w => w.ownsRow we.heap.size 41 7 u D[k].ty.length (exs D[k].ty)) (fun u w w2 hR hh => own_ext hh hR) rfl (fun e w hR hh => by obtain ⟨h26, h24, -⟩ := hh; rw [← hwe] at hR; obtain ⟨b5, q1, q2, q3⟩ := h24; exact SG.n (o_apO (we.heap.size) TI37 TI41 q2 h26 (own_of09 q3 q1) (hty.ext hR) rfl (by decide) (one_exs _) (by rw [maxLen_eq]; omega) (by omega) hR.size (fun v1 w1 a1 a2 a3 a4 => ⟨by rw [Nat.zero_add, List.nil_append] at a1; exact a1, ext_of09 (by decide) q3 a2 a4.1⟩))) (WD.q (fun u w => ∃ kk, u = .agg (dcell D[k] kk).toArray ∧ w.ownsRow we.heap.size 41 7 kk D[k].ty.length (exs D[k].ty)) (fun u w w2 hR hh => by obtain ⟨kk, a1, a2⟩ := hh; exact ⟨kk, a1, own_ext a2 hR⟩) rfl (fun e w hR hh => by obtain ⟨h27, h23, h21, -⟩ := hh; exact SG.n (o_bldC (cs := [_, _, _]) TI39 (Sizes.cons TI9 (Sizes.cons TI3 (Sizes.cons TI37 Sizes.nil))) rfl (lcp h21 (lcp h23 (lcp rfl lnp))) (by simp only [List.all_cons, List.all_nil]; rw [show ev e (.tmp 27) = e 27 from rfl, own_one h27]; rfl) rfl ⟨⟨_, rfl, h27⟩, Only.refl No _⟩)) (WD.q (fun u w => ∃ kk, w.ownsRow we.heap.size 39 3 u 1 (dcell D[k] kk) ∧ w.ownsRow we.heap.size 41 7 kk D[k].ty.length (exs D[k].ty)) (fun u w w2 hR hh => by obtain ⟨kk, a1, a2⟩ := hh; exact ⟨kk, own_ext a1 hR, own_ext a2 hR⟩) rfl (fun e w hR hh => by obtain ⟨h28, -⟩ := hh; rw [← hwe] at hR; obtain ⟨kk, q1, q2⟩ := h28; exact SG.n (o_bs1 TI23 TI39 q1 (by decide) (by decide) rfl ⟨⟨kk, own_mono (own_new1 rfl) hR.size, own_ext q2 (Only.alloc _ _)⟩, Only.alloc w _⟩)) ?_))))))))))))
  rintro e w hR ⟨h29, h28, h27, h26, h25, h24, h23, h22, h21, h20, h19, h18, h1, h2, h3, h4, h5, -⟩
  rw [← hwe] at hR
  replace hx := hx.tr hR
  replace hC1 := hR.blk hC1 (fun h => h)
  replace hC2 := hR.blk hC2 (fun h => h)
  replace hC3 := hR.blk hC3 (fun h => h)
  replace krow := own_ext krow hR
  replace ktys := ktys.ext hR
  replace hty := hty.ext hR
  replace hC5 := hR.blk hC5 (fun h => h)
  obtain ⟨kk, hr29, hkk⟩ := h29
  have hzR := hR.size
  refine WL.c rfl (o_apO (BB) TI23 TI39 h19 rfl krow (Sl.own hr29) rfl (by decide) (by intro a ha; simp only [dcell, List.mem_cons, List.not_mem_nil, or_false] at ha; rcases ha with rfl | rfl | rfl; rfl; rfl; exact own_one hkk) (by rw [maxLen_eq]; omega) (by omega) (by rw [hBB]; exact hx.size) ?_)
  intro v30 w30 krow30 ho30 hb30 _
  have hrl : ∀ b, kv.ownBlock = some b → BB ≤ b := fun b hb => (krow.lt b hb).1
  replace hC1 := ho30.blk hC1 (fun he => own_off krow hC1 (by decide) he)
  replace hC2 := ho30.blk hC2 (fun he => own_off krow hC2 (by decide) he)
  replace hC3 := ho30.blk hC3 (fun he => own_off krow hC3 (by decide) he)
  replace ktys := ktys.other krow (by decide) ho30
  replace hkk := own_only hkk ho30 (fun b hb hF => own_row_off krow hkk (by decide) b hb hF)
  replace hx := hx.trans' ho30 (fun _ h => h) (fun b hb he => by have := hrl b he; omega)
  clear krow ho30 hb30
  refine WL.c rfl (o_fa 0 TI25 rfl TI23 rfl h3 (WL.u (o_stB TI23 rfl (show _ = v30 from rfl) (own_one krow30) hC3 (show 0 < 1 by decide) ?_)))
  intro w31 hC3n ho31 hs31
  replace krow30 := own_only krow30 ho31 (fun b hb he => by subst he; exact own_off krow30 hC3 (by decide) hb)
  replace ktys := ktys.only ho31 (fun j hj b hb he => by subst he; exact own_off (ktys.row j hj) hC3 (by decide) hb)
  replace hkk := own_only hkk ho31 (fun b hb he => by subst he; exact own_off hkk hC3 (by decide) hb)
  replace hC1 := ho31.blk hC1 (by omega)
  replace hC2 := ho31.blk hC2 (by omega)
  replace hC3 : w31.heap[c3]? = some (.cells #[v30] 25 (0, 0)) := hC3n
  replace hx := hx.trans' ho31 (fun _ h => h) (fun b hb he => by omega)
  have ktys3 := Many.snocG (X := fun j => exs (tyD D j)) (n := fun j => (tyD D j).length) ktys hkk (by omega) (fun j hj b hb => by have := ktl2 j hj b hb; omega) (by simp only [tyD_at hk1]) (by simp only [tyD_at hk1])
  clear ktys
  have ktys := ktys3
  have krow := krow30
  clear ktys3 krow30
  refine WL.nil (W.region (WL.c rfl (o_mvh h4 (WL.c rfl (o_addi rfl rfl (by omega) (WL.c rfl (o_ash vI (WL.nil (⟨⟨k + 1, v30, fun j => if j = k then kk else KW j, by omega, h1, h2, h3, rfl, hC1, hC2, hC3, ?_, ktys, hx⟩, ?_⟩)))))))))
  ·rw [drowsK_snoc9 _ _ _ hk1]; exact krow
  show D.length - ((k : Int) + 1).toNat < _
  rw [hm4]; simp [intOf]; omega
 try simp only [cs8] at c10
 have hk1 : k = D.length := by omega
 subst hk1
 refine W.exit (W.seq (W.region (WL.c rfl (o_ldA TI25 rfl h3 (show Cells _ c3 0 [kv] from Cells.of hC3 0 _ (by simp)) rfl (WL.u (o_stA TI25 h2 (show _ = Value.agg #[kv] from rfl) rfl (by simp [own_one krow]) hC2 rfl ?_))))))
 intro wz hC2z ho hsz
 replace krow := own_only krow ho (fun b hb he => by subst he; exact own_off krow hC2 (by decide) hb)
 replace ktys := ktys.only ho (fun j hj b hb he => by subst he; exact own_off (ktys.row j hj) hC2 (by decide) hb)
 replace hx := hx.trans' ho (fun _ h => h) (fun b hb he => by omega)
 refine WL.nil (W.ret (retC rfl TI25 rfl h2 ((show Cells _ c2 0 [kv] from Cells.of hC2z 0 _ (by simp))) rfl ?_))
 exact ⟨kv, KW, rfl, ⟨krow, ktys⟩, hx⟩
set_option maxHeartbeats 4000000 in
theorem samesrc_spec (D : List Df) (dv1 dv2 : Value) (V1 V2 : Nat → Value) (w0 : World) (h1D : DefR w0 D dv1 V1) (h2D : DefR w0 D dv2 V2) (hlim : DOk D) : Ca Try.prog 14 #[.agg #[dv1], .agg #[dv2]] w0 (fun v w' => v = .bool true ∧ Ext w0 w') := by
 have hlen := hlim.len
 refine Ca.of Try.func14 Try.ntmps14 rfl rfl (W.seq (W.region (WL.c rfl (o_boxB rfl ?_))))
 intro w2 hC2 hx2 hs2
 obtain ⟨b2, hb2⟩ : ∃ b, b = w0.heap.size := ⟨_, rfl⟩
 rw [← hb2] at hC2 ⊢
 replace hC2 : w2.heap[b2]? = some (.cells ([dv1]).toArray 25 (0, 0)) := hC2
 have hx := hx2
 refine WL.c rfl (o_boxB rfl ?_)
 intro w3 hC3 hx3 hs3
 obtain ⟨b3, hb3⟩ : ∃ b, b = w2.heap.size := ⟨_, rfl⟩
 rw [← hb3] at hC3 ⊢
 replace hC3 : w3.heap[b3]? = some (.cells ([dv2]).toArray 25 (0, 0)) := hC3
 replace hx := hx.tr hx3
 replace hC2 := hx3.blk hC2 (fun h => h)
 refine WL.c rfl (o_ash vB (WL.nil (W.seq (W.seq (W.region (WL.c rfl (o_fa 0 TI25 rfl TI23 rfl rfl (WL.c rfl (o_ld TI23 rfl rfl (cell_of hC2 rfl) (WL.c rfl (o_lenR TI23 rfl (h1D.ext hx).row (WL.c rfl (o_fa 0 TI25 rfl TI23 rfl rfl (WL.c rfl (o_ld TI23 rfl rfl (cell_of hC3 rfl) (WL.c rfl (o_lenR TI23 rfl (h2D.ext hx).row (WL.c rfl (o_ne rfl rfl (WL.nil (W.condF' rfl (by simp) (W.skip (W.seq (W.seq (W.region (WL.c rfl (o_ash vI (WL.nil (W.block (W.loop (fun e w => ∃ k : Nat, k ≤ D.length ∧ e 2 = .pointer (some ⟨b2, 0, none⟩) ∧ e 3 = .pointer (some ⟨b3, 0, none⟩) ∧ e 5 = .int .i64 (k : Int) ∧ w.heap[b2]? = some (.cells #[dv1] 25 (0, 0)) ∧ w.heap[b3]? = some (.cells #[dv2] 25 (0, 0)) ∧ Ext w0 w) (fun e w => D.length - (intOf (e 5)).toNat) ?_ ?_))))))))))))))))))))))))))))))
 ·exact ⟨0, Nat.zero_le _, rfl, rfl, rfl, hC2, hC3, hx⟩
 rintro e w ⟨k, hk, h2, h3, h5, hC2, hC3, hx⟩
 have hm5 := h5
 refine W.seq (W.seq (W.region (WL.c rfl (o_mvh h5 (WL.c rfl (o_fa 0 TI25 rfl TI23 rfl h2 (WL.c rfl (o_ld TI23 rfl rfl (cell_of hC2 rfl) (WL.c rfl (o_lenR TI23 rfl (h1D.ext hx).row (WL.c rfl (o_lt rfl rfl (WL.nil (W.cond rfl (fun c20 => ?_) (fun c20 => ?_)))))))))))))))
 ·try simp only [cs8] at c20
  have hk1 : k < D.length := by omega
  obtain ⟨ab, ao, ac, hdv1, hac, haty⟩ := h1D.atk hk1
  obtain ⟨tb, to_, tc, hdv2, htc, hty⟩ := h2D.atk hk1
  have htl := hlim.ty _ (List.getElem_mem hk1)
  have hC2s := hC2
  rw [hdv1] at hC2s
  have hC3s := hC3
  rw [hdv2] at hC3s
  refine W.skip (W.seq (W.block (W.seq (W.region (WL.c rfl (o_fa 0 TI25 rfl TI23 rfl h2 (WL.c rfl (o_ld TI23 rfl rfl (cell_of hC2s rfl) (WL.c rfl (o_mvh h5 (WL.c rfl (o_ixB (i := k) TI23 TI39 (show _ = Value.slice (some ⟨ab, ao, none⟩) D.length ac from rfl) (show _ = Value.int .i64 (k : Int) from rfl) (by omega) (WL.c rfl (o_ldA TI39 rfl rfl (Cells.only hac hx (fun h => h)) rfl (WL.c rfl (o_alB TI39 ?_))))))))))))))))
  intro wa hCa hxa hsa
  refine WL.u (o_stA TI39 rfl (show _ = Value.agg (dcell D[k] (V1 k)).toArray from rfl) rfl (by simp only [dcell, List.toArray, Array.toList, List.all_cons, List.all_nil, sl_one1 (haty.ext hx)]; rfl) hCa rfl ?_)
  intro wb6 hC6 hob hsb
  have hxb := Ext.own hxa (Nat.le_refl _) hob
  obtain ⟨b6, hb6⟩ : ∃ b, b = w.heap.size := ⟨_, rfl⟩
  rw [← hb6] at hC6 ⊢
  clear hCa hxa hsa hob hsb
  have hxb6 := hxb
  replace hx := hx.tr hxb
  replace hC2 := hxb.blk hC2 (fun h => h)
  replace hC3 := hxb.blk hC3 (fun h => h)
  clear hxb
  refine WL.nil (W.seq (W.region (WL.c rfl (o_fa 0 TI25 rfl TI23 rfl h3 (WL.c rfl (o_ld TI23 rfl rfl (cell_of (hxb6.blk hC3s (fun h => h)) rfl) (WL.c rfl (o_mvh h5 (WL.c rfl (o_ixB (i := k) TI23 TI39 (show _ = Value.slice (some ⟨tb, to_, none⟩) D.length tc from rfl) (show _ = Value.int .i64 (k : Int) from rfl) (by omega) (WL.c rfl (o_ldA TI39 rfl rfl (Cells.only htc hx (fun h => h)) rfl (WL.c rfl (o_alB TI39 ?_))))))))))))))
  intro wa hCa hxa hsa
  refine WL.u (o_stA TI39 rfl (show _ = Value.agg (dcell D[k] (V2 k)).toArray from rfl) rfl (by simp only [dcell, List.toArray, Array.toList, List.all_cons, List.all_nil, sl_one1 (hty.ext hx)]; rfl) hCa rfl ?_)
  intro wb7 hC7 hob hsb
  have hxb := Ext.own hxa (Nat.le_refl _) hob
  obtain ⟨b7, hb7⟩ : ∃ b, b = wb6.heap.size := ⟨_, rfl⟩
  rw [← hb7] at hC7 ⊢
  clear hCa hxa hsa hob hsb
  replace hx := hx.tr hxb
  replace hC2 := hxb.blk hC2 (fun h => h)
  replace hC3 := hxb.blk hC3 (fun h => h)
  replace hC6 := hxb.blk hC6 (fun h => h)
  clear hxb
  refine WL.nil (W.seq (W.seq (W.region (WL.c rfl (o_fa 0 TI39 rfl TI9 rfl rfl (WL.c rfl (o_ld TI9 rfl rfl (cell_of hC6 rfl) (WL.c rfl (o_fa 0 TI39 rfl TI9 rfl rfl (WL.c rfl (o_ld TI9 rfl rfl (cell_of hC7 rfl) (WL.c rfl (o_neT rfl rfl (WL.c rfl (o_mvh vB (WL.g rfl (by simp) rfl (o_fa 1 TI39 rfl TI3 rfl rfl (WL.g rfl (by simp) rfl (o_ld TI3 rfl rfl (cell_of hC6 rfl) (WL.g rfl (by simp) rfl (o_fa 1 TI39 rfl TI3 rfl rfl (WL.g rfl (by simp) rfl (o_ld TI3 rfl rfl (cell_of hC7 rfl) (WL.g rfl (by simp) rfl (o_ne rfl rfl (WL.c rfl (o_pickO rfl rfl (WL.c rfl (o_mvh vB (WL.g rfl (by simp) rfl (o_fa 2 TI39 rfl TI37 rfl rfl (WL.g rfl (by simp) rfl (o_ld TI37 rfl rfl (cell_of hC6 rfl) (WL.g rfl (by simp) rfl (o_lenR TI37 rfl (haty.ext hx) (WL.g rfl (by simp) rfl (o_fa 2 TI39 rfl TI37 rfl rfl (WL.g rfl (by simp) rfl (o_ld TI37 rfl rfl (cell_of hC7 rfl) (WL.g rfl (by simp) rfl (o_lenR TI37 rfl (hty.ext hx) (WL.g rfl (by simp) rfl (o_ne rfl rfl (WL.c rfl (o_pickO rfl rfl (WL.nil (W.condF' rfl (by simp) (W.skip (W.seq (W.region (WL.c rfl (o_ash vI (WL.nil (W.block (W.loop (fun e w => ∃ q : Nat, q ≤ D[k].ty.length ∧ e 2 = .pointer (some ⟨b2, 0, none⟩) ∧ e 3 = .pointer (some ⟨b3, 0, none⟩) ∧ e 5 = .int .i64 (k : Int) ∧ e 6 = .pointer (some ⟨b6, 0, none⟩) ∧ e 7 = .pointer (some ⟨b7, 0, none⟩) ∧ e 8 = .int .i64 (q : Int) ∧ w.heap[b2]? = some (.cells #[dv1] 25 (0, 0)) ∧ w.heap[b3]? = some (.cells #[dv2] 25 (0, 0)) ∧ w.heap[b6]? = some (.cells (dcell D[k] (V1 k)).toArray 39 (0, 0)) ∧ w.heap[b7]? = some (.cells (dcell D[k] (V2 k)).toArray 39 (0, 0)) ∧ Ext w0 w) (fun e w => D[k].ty.length - (intOf (e 8)).toNat) ?_ ?_)))))))))))))))))))))))))))))))))))))))))))))))))))))))
  ·exact ⟨0, Nat.zero_le _, h2, h3, h5, rfl, rfl, rfl, hC2, hC3, hC6, hC7, hx⟩
  rintro e w ⟨q, hq, h2, h3, h5, h6, h7, h8, hC2, hC3, hC6, hC7, hx⟩
  have hm8 := h8
  refine W.seq (W.seq (W.region (WL.c rfl (o_mvh h8 (WL.c rfl (o_fa 2 TI39 rfl TI37 rfl h6 (WL.c rfl (o_ld TI37 rfl rfl (cell_of hC6 rfl) (WL.c rfl (o_lenR TI37 rfl (haty.ext hx) (WL.c rfl (o_lt rfl rfl (WL.nil (W.cond rfl (fun c58 => ?_) (fun c58 => ?_)))))))))))))))
  ·try simp only [cs8] at c58
   have hq1 : q < D[k].ty.length := by omega
   obtain ⟨ub, uo, uc, hV1, huc⟩ := Sl.exq haty hq1
   obtain ⟨vb, vo, vc, hV2, hvc⟩ := Sl.exq hty hq1
   have hC6s := hC6
   rw [hV1] at hC6s
   have hC7s := hC7
   rw [hV2] at hC7s
   refine W.skip (W.seq (W.block (W.seq (W.quiet rfl (by kernel_rfl) (WQ.c rfl ((QO.o rfl fun _ => o_fa 2 TI39 rfl TI37 rfl h6 ⟨rfl, rfl⟩)) (WQ.c rfl ((QO.o rfl fun _ => o_ld TI37 rfl rfl (cell_of hC6s rfl) ⟨rfl, rfl⟩)) (WQ.c rfl ((QO.o rfl fun _ => o_mvh h8 ⟨rfl, rfl⟩)) (WQ.c rfl ((QO.o rfl fun _ => o_ixB (i := q) TI37 TI41 (show _ = Value.slice (some ⟨ub, uo, none⟩) D[k].ty.length uc from rfl) (show _ = Value.int .i64 (q : Int) from rfl) (by omega) ⟨rfl, rfl⟩)) (WQ.c rfl ((QO.o rfl fun _ => o_ldA TI41 rfl rfl (Cells.only (F := No) huc (hx.tr (Only.drewN _ _)) (fun h => h)) rfl ⟨rfl, rfl⟩)) (WQ.c rfl ((QO.o rfl fun _ => o_fa 2 TI39 rfl TI37 rfl h7 ⟨rfl, rfl⟩)) (WQ.c rfl ((QO.o rfl fun _ => o_ld TI37 rfl rfl (cell_of hC7s rfl) ⟨rfl, rfl⟩)) (WQ.c rfl ((QO.o rfl fun _ => o_mvh h8 ⟨rfl, rfl⟩)) (WQ.c rfl ((QO.o rfl fun _ => o_ixB (i := q) TI37 TI41 (show _ = Value.slice (some ⟨vb, vo, none⟩) D[k].ty.length vc from rfl) (show _ = Value.int .i64 (q : Int) from rfl) (by omega) ⟨rfl, rfl⟩)) (WQ.c rfl ((QO.o rfl fun _ => o_ldA TI41 rfl rfl (Cells.only (F := No) hvc (hx.tr (Only.drewN _ _)) (fun h => h)) rfl ⟨rfl, rfl⟩)) (WQ.c rfl ((QO.o rfl fun _ => o_neR TI41 (by kernel_rfl) (by kernel_rfl) rfl rfl (.int TI3 (by decide) rfl rfl (.int TI3 (by decide) rfl rfl (.str TI9 (by decide) rfl rfl (.str TI9 (by decide) rfl rfl (.int TI3 (by decide) rfl rfl (.int TI3 (by decide) rfl rfl (.int TI3 (by decide) rfl rfl .nil))))))) ⟨rfl, rfl⟩)) (WQ.nil ?_))))))))))))))))
   intro nq
   refine W.condF' rfl (by simp) (W.skip (W.region (WL.c rfl (o_mvh h8 (WL.c rfl (o_addi rfl rfl (by omega) (WL.c rfl (o_ash vI (WL.nil ?_)))))))))
   have hxd := Only.drewN w nq
   refine ⟨⟨q + 1, by omega, h2, h3, h5, h6, h7, rfl, hxd.blk hC2 (fun h => h), hxd.blk hC3 (fun h => h), hxd.blk hC6 (fun h => h), hxd.blk hC7 (fun h => h), hx.tr hxd⟩, ?_⟩
   show D[k].ty.length - ((q : Int) + 1).toNat < _
   rw [hm8]; simp [intOf]; omega
  try simp only [cs8] at c58
  have hq1 : q = D[k].ty.length := by omega
  refine W.exit (W.region (WL.c rfl (o_mvh h5 (WL.c rfl (o_addi rfl rfl (by omega) (WL.c rfl (o_ash vI (WL.nil (⟨⟨k + 1, by omega, h2, h3, rfl, hC2, hC3, hx⟩, ?_⟩)))))))))
  show D.length - ((k : Int) + 1).toNat < _
  rw [hm5]; simp [intOf]; omega
 try simp only [cs8] at c20
 have hk1 : k = D.length := by omega
 refine W.exit (W.seq (W.region (WL.c rfl (o_ash vB (WL.nil (W.ret (ret1v rfl vB ?_)))))))
 exact ⟨rfl, hx⟩
end Go.Proofs.Ytpbflfgigfdohaa

namespace Go.Proofs.Ytpbflfgigfdohaa
open Go Go.Vc Go.RowKit Go.Proofs

theorem build_x (D : List Df) (dv : Value) (V : Nat → Value) (w0 : World) (hD : DefR w0 D dv V) (hlim : DOk D) (hnb : ∀ d ∈ D, d.ty.length ≤ 11453246122) {L : List Tp} {R : List Ro} {er ea : Int} (hL : L = bldT D) (hR : R = bldR D) (he : er = (bldV D).1) (ha : ea = (bldV D).2) : Ca Try.prog 8 #[.agg #[dv]] w0 (fun v w' => ∃ tv rv U, v = .tuple #[.agg #[tv, rv], .agg #[.int .i64 er, .int .i64 ea]] ∧ Schs w' w0.heap.size L R tv rv U ∧ Ext w0 w') := by
 subst hL hR he ha
 exact build_spec D dv V w0 hD hlim hnb
theorem rbuild_x (D : List Df) (dv : Value) (V : Nat → Value) (w0 : World) (hD : DefR w0 D dv V) (hlim : DOk D) (hnb : ∀ d ∈ D, d.ty.length ≤ 11453246122) {L : List Tp} {R : List Ro} {er ea : Int} (hL : L = bldT D) (hR : R = bldR D) (he : er = (bldV D).1) (ha : ea = (bldV D).2) : Ca Try.prog 12 #[.agg #[dv]] w0 (fun v w' => ∃ tv rv U, v = .tuple #[.agg #[tv, rv], .agg #[.int .i64 er, .int .i64 ea]] ∧ Schs w' w0.heap.size L R tv rv U ∧ Ext w0 w') := by
 subst hL hR he ha
 exact rbuild_spec D dv V w0 hD hlim hnb
theorem nameB_len {l : List UInt8} (h : nameB l = true) : l.length ≤ 32 := by
 simp only [nameB, Bool.and_eq_true, decide_eq_true_eq] at h; exact h.1.1.1.2
theorem tp_lim {t : Tp} {at_ : Int} (h : tpOk t at_) : TLim t := by
 have hp : t.parts = [] ∨ partsOk t at_ := by
  obtain ⟨-, h2⟩ := h
  split at h2
  ·exact .inl h2.2
  split at h2
  ·exact .inl h2.2.2
  exact .inr h2.2.2
 rcases hp with hp | ⟨-, h2, h3⟩
 ·exact ⟨by rw [hp]; decide, fun p hp' => (by rw [hp] at hp'; cases hp'), fun p hp' => (by rw [hp] at hp'; cases hp')⟩
 refine ⟨by omega, fun p hp => ?_, fun p hp => ?_⟩
 ·obtain ⟨k, hk, rfl⟩ := List.getElem_of_mem hp
  obtain ⟨_, h4, -⟩ := h3 k hk
  split at h4
  ·have := nameB_len h4.1; omega
  rw [h4.1]; decide
 obtain ⟨k, hk, rfl⟩ := List.getElem_of_mem hp
 obtain ⟨_, h4, -⟩ := h3 k hk
 split at h4
 ·rw [h4.2]; decide
 omega
theorem sum_le {l : List Nat} {f : Nat → Nat} {B : Nat} (h : ∀ i ∈ l, f i ≤ B) : (l.map f).sum ≤ l.length * B := by
 induction l with
 | nil => simp
 | cons a l ih =>
  have h1 := h a (List.mem_cons_self ..)
  have h2 := ih (fun i hi => h i (List.mem_cons_of_mem _ hi))
  rw [List.map_cons, List.sum_cons, List.length_cons, Nat.succ_mul]
  omega
theorem bld_lim {D : List Df} (hlim : DOk D) (hnb : ∀ d ∈ D, d.ty.length ≤ 11453246122) : LLim (bldT D) ∧ RLim (bldR D) := by
 by_cases hb : bldF D = none
 ·obtain ⟨hck, hfn, hbn⟩ := bldF_none.1 hb
  have hG := good_of hfn
  have hT : bldT D = schT D := if_pos hb
  have hR : bldR D = schR D := if_pos hb
  have hok := bld_ok hG hbn
  have h256 := hG.trd.n
  rw [hT, hR]
  refine ⟨⟨?_, fun t ht => ?_⟩, ⟨by rw [schR_len]; omega, fun r hr => ?_⟩⟩
  ·have h1 := bld_len hG hbn
   have h2 : ((List.range D.length).map fun i => cntN (tyD D i)).sum ≤ (List.range D.length).length * 11453246122 := sum_le fun i hi => by
    have hi := List.mem_range.1 hi
    have h3 : cntN (tyD D i) ≤ (tyD D i).length := List.length_filter_le _ _
    rw [tyD_at hi] at h3 ⊢
    have := hnb _ (List.getElem_mem hi)
    omega
   rw [List.length_range] at h2
   omega
  ·obtain ⟨i, hi, rfl⟩ := List.getElem_of_mem ht
   exact tp_lim (hok.ok i hi)
  obtain ⟨i, hi, rfl⟩ := List.getElem_of_mem hr
  have hi' : i < D.length := by rw [schR_len] at hi; exact hi
  have h3 := (schR_at hG hbn hi').1
  rw [List.getD_eq_getElem?_getD, List.getElem?_eq_getElem hi, getD_at hi'] at h3
  simp only [Option.getD_some] at h3
  rw [h3]
  exact hlim.nm _ (List.getElem_mem hi')
 have hT : bldT D = [] := if_neg hb
 have hR : bldR D = [] := if_neg hb
 rw [hT, hR]
 exact ⟨⟨by decide, fun t ht => (by cases ht)⟩, ⟨by decide, fun r hr => (by cases hr)⟩⟩
/-- all that stays, asx it stands -/
structure XW (w0 w : World) (D : List Df) (L : List Tp) (R : List Ro) (H1 H2 H3 b3 b4 b6 b8 b9 b10 : Nat) (kv tva rva tvb rvb tvw rvw : Value) (KW Ub Uw : Nat → Value) (er ea : Int) : Prop where
 c3 : w.heap[b3]? = some (.cells #[kv] 25 (0, 0))
 c4 : w.heap[b4]? = some (.cells #[tva, rva] 34 (0, 0))
 c6 : w.heap[b6]? = some (.cells #[tvb, rvb] 34 (0, 0))
 c8 : w.heap[b8]? = some (.cells #[tvw, rvw] 34 (0, 0))
 c9 : w.heap[b9]? = some (.cells #[.int .i64 er, .int .i64 ea] 28 (0, 0))
 c10 : w.heap[b10]? = some (.cells (paV ⟨[111, 118, 101, 114], 9, 0⟩).toArray 52 (0, 0))
 din : DefR w D kv KW
 sb : SchR w L R tvb rvb Ub
 sw : SchR w L R tvw rvw Uw
 ex : Ext w0 w
 o0 : w0.heap.size ≤ H1
 o12 : H1 ≤ H2 ∧ H2 ≤ H3
 ow : H3 ≤ w.heap.size
 o3 : b3 < H1
 o4 : (H2 ≤ b4 ∧ b4 < H3) ∧ (H2 ≤ b6 ∧ b6 < H3) ∧ (H2 ≤ b8 ∧ b8 < H3) ∧ (H2 ≤ b9 ∧ b9 < H3) ∧ (H2 ≤ b10 ∧ b10 < H3)
 od : ∀ k, DF kv KW D.length k → k < H1
 ob : ∀ k, DF tvb Ub L.length k → H2 ≤ k ∧ k < H3
 obr : ∀ k, rvb.ownBlock = some k → H2 ≤ k ∧ k < H3
 oc : ∀ k, DF tvw Uw L.length k → H2 ≤ k ∧ k < H3
 ocr : ∀ k, rvw.ownBlock = some k → H2 ≤ k ∧ k < H3
theorem SchR.only9 {w w' : World} {L : List Tp} {R : List Ro} {tv rv : Value} {U : Nat → Value} {F : Nat → Prop} (h : SchR w L R tv rv U) (ho : Only F w w') (h1 : ∀ k, DF tv U L.length k → ¬ F k) (h2 : ∀ k, rv.ownBlock = some k → ¬ F k) : SchR w' L R tv rv U :=
 ⟨h.ty.only ho h1, h.ro.only ho h2⟩
theorem XW.only {w0 w w' : World} {D : List Df} {L : List Tp} {R : List Ro} {H1 H2 H3 b3 b4 b6 b8 b9 b10 : Nat} {kv tva rva tvb rvb tvw rvw : Value} {KW Ub Uw : Nat → Value} {er ea : Int} {F : Nat → Prop} (h : XW w0 w D L R H1 H2 H3 b3 b4 b6 b8 b9 b10 kv tva rva tvb rvb tvw rvw KW Ub Uw er ea) (ho : Only F w w') (hF : ∀ k, F k → (H1 ≤ k ∧ k < H2) ∨ H3 ≤ k) : XW w0 w' D L R H1 H2 H3 b3 b4 b6 b8 b9 b10 kv tva rva tvb rvb tvw rvw KW Ub Uw er ea := by
 have o12 := h.o12
 have n1 : ∀ k, k < H1 → ¬ F k := fun k hk hf => by have := hF k hf; omega
 have n2 : ∀ k, H2 ≤ k ∧ k < H3 → ¬ F k := fun k hk hf => by have := hF k hf; omega
 obtain ⟨q4, q6, q8, q9, q10⟩ := h.o4
 exact ⟨ho.blk h.c3 (n1 _ h.o3), ho.blk h.c4 (n2 _ q4), ho.blk h.c6 (n2 _ q6), ho.blk h.c8 (n2 _ q8), ho.blk h.c9 (n2 _ q9), ho.blk h.c10 (n2 _ q10), h.din.only ho (fun k hk => n1 _ (h.od k hk)), h.sb.only9 ho (fun k hk => n2 _ (h.ob k hk)) (fun k hk => n2 _ (h.obr k hk)), h.sw.only9 ho (fun k hk => n2 _ (h.oc k hk)) (fun k hk => n2 _ (h.ocr k hk)),
  h.ex.trans' ho (fun _ h => h) (fun k hk hf => by have := hF k hf; have := h.o0; omega), h.o0, h.o12, Nat.le_trans h.ow ho.size, h.o3, h.o4, h.od, h.ob, h.obr, h.oc, h.ocr⟩
theorem XW.ext {w0 w w' : World} {D : List Df} {L : List Tp} {R : List Ro} {H1 H2 H3 b3 b4 b6 b8 b9 b10 : Nat} {kv tva rva tvb rvb tvw rvw : Value} {KW Ub Uw : Nat → Value} {er ea : Int} (h : XW w0 w D L R H1 H2 H3 b3 b4 b6 b8 b9 b10 kv tva rva tvb rvb tvw rvw KW Ub Uw er ea) (ho : Ext w w') : XW w0 w' D L R H1 H2 H3 b3 b4 b6 b8 b9 b10 kv tva rva tvb rvb tvw rvw KW Ub Uw er ea := h.only ho (fun k hf => hf.elim)
def paO : Pa := ⟨[111, 118, 101, 114], 9, 0⟩
def paM (i : Nat) : Pa := ⟨[109, 111, 114, 101], (i : Int), 0⟩
def roO : Ro := ⟨[111, 118, 101, 114], 0⟩
def roM : Ro := ⟨[109, 111, 114, 101], 0⟩
abbrev mlen (L : List Tp) (j : Nat) : Nat := (pasT L j).length
def ovK (L : List Tp) (i k j : Nat) : List Pa := if j < i then List.replicate (mlen L j) paO else if j = i then List.replicate k paO ++ (pasT L i).drop k else pasT L j
theorem ovK_zero {L : List Tp} (j : Nat) : ovK L 0 0 j = pasT L j := by
 unfold ovK
 rw [if_neg (by omega)]
 split
 ·rename_i h; subst h; simp
 rfl
theorem ovK_next {L : List Tp} (i j : Nat) : ovK L i (mlen L i) j = ovK L (i + 1) 0 j := by
 unfold ovK
 by_cases h : j < i
 ·rw [if_pos h, if_pos (by omega)]
 rw [if_neg h]
 by_cases e : j = i
 ·subst e; rw [if_pos rfl, if_pos (by omega)]; simp
 rw [if_neg e, if_neg (by omega)]
 by_cases e2 : j = i + 1
 ·subst e2; rw [if_pos rfl]; simp
 rw [if_neg e2]
theorem ovK_at {L : List Tp} (i k : Nat) : ovK L i k i = List.replicate k paO ++ (pasT L i).drop k := by unfold ovK; rw [if_neg (by omega), if_pos rfl]
theorem ovK_all {L : List Tp} {j : Nat} (hj : j < L.length) : ovK L L.length 0 j = List.replicate (mlen L j) paO := by unfold ovK; rw [if_pos hj]
theorem pas_app (a b : List Pa) : pas (a ++ b) = pas a ++ pas b := by unfold pas; rw [List.flatMap_append]
theorem ros_app (a b : List Ro) : ros (a ++ b) = ros a ++ ros b := by unfold ros; rw [List.flatMap_append]
theorem over_step {l : List Pa} {k : Nat} (hk : k < l.length) : (pas (List.replicate k paO ++ l.drop k)).take (k * 3) ++ (paV paO) ++ (pas (List.replicate k paO ++ l.drop k)).drop (k * 3 + 3) = pas (List.replicate (k + 1) paO ++ l.drop (k + 1)) := by
 have hl : (pas (List.replicate k paO)).length = k * 3 := by rw [pas_len, List.length_replicate]
 rw [pas_app, List.take_left' hl, ← List.drop_drop, List.drop_left' hl, List.drop_eq_getElem_cons hk, show pas (l[k] :: l.drop (k + 1)) = paV l[k] ++ pas (l.drop (k + 1)) from rfl, List.drop_left' (show (paV l[k]).length = 3 from rfl), pas_app, List.replicate_succ', pas_app]
 rfl
theorem overR_step {l : List Ro} {k : Nat} (hk : k < l.length) : (ros (List.replicate k roO ++ l.drop k)).take (k * 2) ++ (roV roO) ++ (ros (List.replicate k roO ++ l.drop k)).drop (k * 2 + 2) = ros (List.replicate (k + 1) roO ++ l.drop (k + 1)) := by
 have hl : (ros (List.replicate k roO)).length = k * 2 := by rw [ros_len, List.length_replicate]
 rw [ros_app, List.take_left' hl, ← List.drop_drop, List.drop_left' hl, List.drop_eq_getElem_cons hk, show ros (l[k] :: l.drop (k + 1)) = roV l[k] ++ ros (l.drop (k + 1)) from rfl, List.drop_left' (show (roV l[k]).length = 2 from rfl), ros_app, List.replicate_succ', ros_app]
 rfl
theorem row_skip {xs zs : List Value} {i j c : Nat} (has : zs.length = 4) (hl : i * 4 + 4 ≤ xs.length) (hij : i < j) (hc : c < 4) : (xs.take (i * 4) ++ zs ++ xs.drop (i * 4 + 4))[j * 4 + c]? = xs[j * 4 + c]? := by
 have h1 : (xs.take (i * 4) ++ zs).length = i * 4 + 4 := by rw [List.length_append, List.length_take, has]; omega
 rw [List.getElem?_append_right (by omega), h1, List.getElem?_drop]
 congr 1
 omega

set_option maxHeartbeats 16000000 in
theorem texact_walk (w0 : World) (D : List Df) (dv : Value) (V : Nat → Value) (hD : DefR w0 D dv V) (hlim : DOk D) (hnb : ∀ d ∈ D, d.ty.length ≤ 1048576) (hn : D.length ≤ 1048576) : Ca Try.prog 4 #[.agg #[dv]] w0 (fun v w' => v = .bool true ∧ Ext w0 w') := by
 have hnb2 : ∀ d ∈ D, d.ty.length ≤ 11453246122 := fun d hd => by have := hnb d hd; omega
 obtain ⟨hlL, hlR⟩ := bld_lim hlim hnb2
 obtain ⟨L, hL⟩ : ∃ x, x = bldT D := ⟨_, rfl⟩
 obtain ⟨R, hR⟩ : ∃ x, x = bldR D := ⟨_, rfl⟩
 obtain ⟨er, her⟩ : ∃ x, x = (bldV D).1 := ⟨_, rfl⟩
 obtain ⟨ea, hea⟩ : ∃ x, x = (bldV D).2 := ⟨_, rfl⟩
 rw [← hL] at hlL
 rw [← hR] at hlR
 have hok := sok_of hlL hlR
 have hLn := hlL.len
 have hRn := hlR.len
 refine Ca.of Try.func4 Try.ntmps4 rfl rfl (W.seq (W.region (WL.c rfl (o_boxB rfl ?_))))
 intro w1 hC1 hx1 hs1
 obtain ⟨b1, hb1⟩ : ∃ b, b = w0.heap.size := ⟨_, rfl⟩
 rw [← hb1] at hC1 ⊢
 replace hC1 : w1.heap[b1]? = some (.cells ([dv]).toArray 25 (0, 0)) := hC1
 have hx := hx1
 refine WL.c rfl (o_ash vB (WL.nil (W.seq (W.seq (W.region (WL.c rfl (o_call Try.call6 ln ((awake9_spec _).mono ?_))))))))
 rintro v23 w23 ⟨rfl, hx23⟩
 replace hx := hx.tr hx23
 replace hC1 := hx23.blk hC1 (fun h => h)
 refine WL.c rfl (o_not' rfl (WL.nil (W.condF' rfl (by simp) (W.skip (W.seq (W.region (WL.c rfl (o_ldA TI25 rfl rfl (show Cells _ b1 0 [dv] from Cells.of hC1 0 _ (by simp)) rfl (WL.c rfl (o_call Try.call11 (lc rfl ln) ((copied9_spec D dv V _ (hD.ext hx) hlim).mono ?_)))))))))))
 rintro v26 w26 ⟨kv, KW, rfl, hIn, hx26⟩
 have hInl := hIn.lt
 have h1kv := own_one hIn.row
 replace hIn := hIn.rd
 replace hx := hx.tr hx26
 replace hC1 := hx26.blk hC1 (fun h => h)
 refine WL.c rfl (o_alB TI25 ?_)
 intro wa hCa hxa hsa
 refine WL.u (o_stA TI25 rfl (show _ = Value.agg ([kv]).toArray from rfl) rfl (by simp [h1kv]) hCa rfl ?_)
 intro wb3 hC3 hob hsb
 have hxb := Ext.own hxa (Nat.le_refl _) hob
 obtain ⟨b3, hb3⟩ : ∃ b, b = w26.heap.size := ⟨_, rfl⟩
 rw [← hb3] at hC3 ⊢
 clear hCa hxa hsa hob hsb
 have hq26 := hx.size
 have hInl2 : ∀ k, DF kv KW D.length k → k < w26.heap.size := fun k hk => (hInl k hk).2
 have hq3 := (hxb).size
 replace hx := hx.tr hxb
 replace hC1 := hxb.blk hC1 (fun h => h)
 replace hIn := hIn.ext hxb
 have hb3l := blk_lt3 hC3
 obtain ⟨H1, hH1⟩ : ∃ x, x = wb3.heap.size := ⟨_, rfl⟩
 rw [← hH1] at hb3l hq3
 clear hxb
 refine WL.nil (W.seq (W.region (WL.c rfl (o_ldA TI25 rfl rfl (show Cells _ b3 0 [kv] from Cells.of hC3 0 _ (by simp)) rfl (WL.c rfl (o_call Try.call8 (lc rfl ln) ((build_x D kv KW _ hIn hlim hnb2 hL hR her hea).mono ?_)))))))
 rintro v29 w29 ⟨tva, rva, Ua, rfl, hA, hx29⟩
 replace hx := hx.tr hx29
 replace hC1 := hx29.blk hC1 (fun h => h)
 replace hC3 := hx29.blk hC3 (fun h => h)
 replace hIn := hIn.ext hx29
 obtain ⟨H2, hH2⟩ : ∃ x, x = w29.heap.size := ⟨_, rfl⟩
 rw [← hH1] at hA
 have h12 : H1 ≤ H2 := by rw [hH1, hH2]; exact hx29.size
 have hTa : ∀ b, tva.ownBlock = some b → H1 ≤ b ∧ b < H2 := fun b hb => by rw [hH2]; exact hA.ty.row.lt b hb
 have hUa : ∀ j, j < L.length → ∀ b, (Ua j).ownBlock = some b → H1 ≤ b ∧ b < H2 := fun j hj b hb => by rw [hH2]; exact hA.ty.tys.lt hj hb
 have hRa : ∀ b, rva.ownBlock = some b → H1 ≤ b ∧ b < H2 := fun b hb => by rw [hH2]; exact hA.ro.lt b hb
 have h1ta := own_one hA.ty.row
 have h1ra := own_one hA.ro
 refine WL.c rfl (o_mvh (by first | exact (show _ = Value.tuple _ from rfl) | exact rfl) (WL.c rfl (o_ext rfl rfl (WL.c rfl (o_ext rfl rfl (WL.c rfl (o_alB TI34 ?_)))))))
 intro wa hC4 hxa hsa
 obtain ⟨b4, hb4⟩ : ∃ b, b = w29.heap.size := ⟨_, rfl⟩
 rw [← hb4] at hC4 ⊢
 replace hC4 : wa.heap[b4]? = some (.cells #[.slice none 0 0, .slice none 0 0] 34 (0, 0)) := hC4
 have hE : Ext w29 wa := hxa
 refine WL.c rfl (o_alB TI28 ?_)
 intro wb hC5 hxb hsb
 have hsE := hE.size
 obtain ⟨b5, hb5⟩ : ∃ b, b = wa.heap.size := ⟨_, rfl⟩
 rw [← hb5] at hC5 ⊢
 replace hC5 : wb.heap[b5]? = some (.cells #[.int .i64 0, .int .i64 0] 28 (0, 0)) := hC5
 replace hE := hE.tr hxb
 replace hC4 := hxb.blk hC4 (fun h => h)
 refine WL.u (o_stA TI34 rfl (show _ = Value.agg #[tva, rva] from rfl) rfl (by simp [h1ta, h1ra]) hC4 rfl ?_)
 intro wc hC4n ho hs
 replace hC5 := ho.blk hC5 (blk_ne3 hC5 hC4 (by decide))
 replace hE := hE.trans' ho (fun _ h => h) (fun b hb e => by omega)
 replace hC4 : wc.heap[b4]? = some (.cells #[tva, rva] 34 (0, 0)) := hC4n
 refine WL.u (o_stA TI28 rfl (show _ = Value.agg #[.int .i64 er, .int .i64 ea] from rfl) rfl rfl hC5 rfl ?_)
 intro wz5 hC5n ho hs
 replace hC4 := ho.blk hC4 (blk_ne3 hC4 hC5 (by decide))
 replace hE := hE.trans' ho (fun _ h => h) (fun b hb e => by omega)
 replace hC5 : wz5.heap[b5]? = some (.cells #[.int .i64 er, .int .i64 ea] 28 (0, 0)) := hC5n
 have hqE5 := hE.size
 replace hx := hx.tr hE
 replace hC1 := hE.blk hC1 (fun h => h)
 replace hC3 := hE.blk hC3 (fun h => h)
 replace hIn := hIn.ext hE
 replace hA := hA.ext hE
 have hl45 := blk_lt3 hC5
 clear hE
 refine WL.nil (W.seq (W.region (WL.c rfl (o_ldA TI25 rfl rfl (show Cells _ b3 0 [kv] from Cells.of hC3 0 _ (by simp)) rfl (WL.c rfl (o_call Try.call8 (lc rfl ln) ((build_x D kv KW _ hIn hlim hnb2 hL hR her hea).mono ?_)))))))
 rintro v34 w34 ⟨tvb, rvb, Ub, rfl, hB, hx34⟩
 have hBl : ∀ b, DF tvb Ub L.length b → H2 ≤ b ∧ b < w34.heap.size := fun b hb => ⟨by have := (hB.ty.lt b hb).1; omega, (hB.ty.lt b hb).2⟩
 have hBr : ∀ b, rvb.ownBlock = some b → H2 ≤ b ∧ b < w34.heap.size := fun b hb => ⟨by have := (hB.ro.lt b hb).1; omega, (hB.ro.lt b hb).2⟩
 have h1tb := own_one hB.ty.row
 have h1rb := own_one hB.ro
 replace hB := hB.rd
 have hq34 := hx34.size
 replace hx := hx.tr hx34
 replace hC1 := hx34.blk hC1 (fun h => h)
 replace hC3 := hx34.blk hC3 (fun h => h)
 replace hC4 := hx34.blk hC4 (fun h => h)
 replace hC5 := hx34.blk hC5 (fun h => h)
 replace hIn := hIn.ext hx34
 replace hA := hA.ext hx34
 refine WL.c rfl (o_mvh (by first | exact (show _ = Value.tuple _ from rfl) | exact rfl) (WL.c rfl (o_ext rfl rfl (WL.c rfl (o_ext rfl rfl (WL.c rfl (o_alB TI34 ?_)))))))
 intro wa hC6 hxa hsa
 obtain ⟨b6, hb6⟩ : ∃ b, b = w34.heap.size := ⟨_, rfl⟩
 rw [← hb6] at hC6 ⊢
 replace hC6 : wa.heap[b6]? = some (.cells #[.slice none 0 0, .slice none 0 0] 34 (0, 0)) := hC6
 have hE : Ext w34 wa := hxa
 refine WL.c rfl (o_alB TI28 ?_)
 intro wb hC7 hxb hsb
 have hsE := hE.size
 obtain ⟨b7, hb7⟩ : ∃ b, b = wa.heap.size := ⟨_, rfl⟩
 rw [← hb7] at hC7 ⊢
 replace hC7 : wb.heap[b7]? = some (.cells #[.int .i64 0, .int .i64 0] 28 (0, 0)) := hC7
 replace hE := hE.tr hxb
 replace hC6 := hxb.blk hC6 (fun h => h)
 refine WL.u (o_stA TI34 rfl (show _ = Value.agg #[tvb, rvb] from rfl) rfl (by simp [h1tb, h1rb]) hC6 rfl ?_)
 intro wc hC6n ho hs
 replace hC7 := ho.blk hC7 (blk_ne3 hC7 hC6 (by decide))
 replace hE := hE.trans' ho (fun _ h => h) (fun b hb e => by omega)
 replace hC6 : wc.heap[b6]? = some (.cells #[tvb, rvb] 34 (0, 0)) := hC6n
 refine WL.u (o_stA TI28 rfl (show _ = Value.agg #[.int .i64 er, .int .i64 ea] from rfl) rfl rfl hC7 rfl ?_)
 intro wz7 hC7n ho hs
 replace hC6 := ho.blk hC6 (blk_ne3 hC6 hC7 (by decide))
 replace hE := hE.trans' ho (fun _ h => h) (fun b hb e => by omega)
 replace hC7 : wz7.heap[b7]? = some (.cells #[.int .i64 er, .int .i64 ea] 28 (0, 0)) := hC7n
 have hqE7 := hE.size
 replace hx := hx.tr hE
 replace hC1 := hE.blk hC1 (fun h => h)
 replace hC3 := hE.blk hC3 (fun h => h)
 replace hC4 := hE.blk hC4 (fun h => h)
 replace hC5 := hE.blk hC5 (fun h => h)
 replace hIn := hIn.ext hE
 replace hA := hA.ext hE
 replace hB := hB.ext hE
 clear hE
 refine WL.nil (W.seq (W.region (WL.c rfl (o_ldA TI25 rfl rfl (show Cells _ b1 0 [dv] from Cells.of hC1 0 _ (by simp)) rfl (WL.c rfl (o_call Try.call11 (lc rfl ln) ((copied9_spec D dv V _ (hD.ext hx) hlim).mono ?_)))))))
 rintro v39 w39 ⟨lv, LW, rfl, hIn2, hx39⟩
 have hq39 := hx39.size
 replace hx := hx.tr hx39
 replace hC1 := hx39.blk hC1 (fun h => h)
 replace hC3 := hx39.blk hC3 (fun h => h)
 replace hC4 := hx39.blk hC4 (fun h => h)
 replace hC5 := hx39.blk hC5 (fun h => h)
 replace hC6 := hx39.blk hC6 (fun h => h)
 replace hC7 := hx39.blk hC7 (fun h => h)
 replace hIn := hIn.ext hx39
 replace hA := hA.ext hx39
 replace hB := hB.ext hx39
 refine WL.c rfl (o_call Try.call12 (lc rfl ln) ((rbuild_x D lv LW _ hIn2.rd hlim hnb2 hL hR her hea).mono ?_))
 rintro v40 w40 ⟨tvw, rvw, Uw, rfl, hWt, hx40⟩
 have hWl : ∀ b, DF tvw Uw L.length b → H2 ≤ b ∧ b < w40.heap.size := fun b hb => ⟨by have := (hWt.ty.lt b hb).1; omega, (hWt.ty.lt b hb).2⟩
 have hWr : ∀ b, rvw.ownBlock = some b → H2 ≤ b ∧ b < w40.heap.size := fun b hb => ⟨by have := (hWt.ro.lt b hb).1; omega, (hWt.ro.lt b hb).2⟩
 have h1tw := own_one hWt.ty.row
 have h1rw := own_one hWt.ro
 replace hWt := hWt.rd
 have hq40 := hx40.size
 replace hx := hx.tr hx40
 replace hC1 := hx40.blk hC1 (fun h => h)
 replace hC3 := hx40.blk hC3 (fun h => h)
 replace hC4 := hx40.blk hC4 (fun h => h)
 replace hC5 := hx40.blk hC5 (fun h => h)
 replace hC6 := hx40.blk hC6 (fun h => h)
 replace hC7 := hx40.blk hC7 (fun h => h)
 replace hIn := hIn.ext hx40
 replace hA := hA.ext hx40
 replace hB := hB.ext hx40
 refine WL.c rfl (o_mvh (by first | exact (show _ = Value.tuple _ from rfl) | exact rfl) (WL.c rfl (o_ext rfl rfl (WL.c rfl (o_ext rfl rfl (WL.c rfl (o_alB TI34 ?_)))))))
 intro wa hC8 hxa hsa
 obtain ⟨b8, hb8⟩ : ∃ b, b = w40.heap.size := ⟨_, rfl⟩
 rw [← hb8] at hC8 ⊢
 replace hC8 : wa.heap[b8]? = some (.cells #[.slice none 0 0, .slice none 0 0] 34 (0, 0)) := hC8
 have hE : Ext w40 wa := hxa
 refine WL.c rfl (o_alB TI28 ?_)
 intro wb hC9 hxb hsb
 have hsE := hE.size
 obtain ⟨b9, hb9⟩ : ∃ b, b = wa.heap.size := ⟨_, rfl⟩
 rw [← hb9] at hC9 ⊢
 replace hC9 : wb.heap[b9]? = some (.cells #[.int .i64 0, .int .i64 0] 28 (0, 0)) := hC9
 replace hE := hE.tr hxb
 replace hC8 := hxb.blk hC8 (fun h => h)
 refine WL.u (o_stA TI34 rfl (show _ = Value.agg #[tvw, rvw] from rfl) rfl (by simp [h1tw, h1rw]) hC8 rfl ?_)
 intro wc hC8n ho hs
 replace hC9 := ho.blk hC9 (blk_ne3 hC9 hC8 (by decide))
 replace hE := hE.trans' ho (fun _ h => h) (fun b hb e => by omega)
 replace hC8 : wc.heap[b8]? = some (.cells #[tvw, rvw] 34 (0, 0)) := hC8n
 refine WL.u (o_stA TI28 rfl (show _ = Value.agg #[.int .i64 er, .int .i64 ea] from rfl) rfl rfl hC9 rfl ?_)
 intro wz9 hC9n ho hs
 replace hC8 := ho.blk hC8 (blk_ne3 hC8 hC9 (by decide))
 replace hE := hE.trans' ho (fun _ h => h) (fun b hb e => by omega)
 replace hC9 : wz9.heap[b9]? = some (.cells #[.int .i64 er, .int .i64 ea] 28 (0, 0)) := hC9n
 have hqE9 := hE.size
 replace hx := hx.tr hE
 replace hC1 := hE.blk hC1 (fun h => h)
 replace hC3 := hE.blk hC3 (fun h => h)
 replace hC4 := hE.blk hC4 (fun h => h)
 replace hC5 := hE.blk hC5 (fun h => h)
 replace hC6 := hE.blk hC6 (fun h => h)
 replace hC7 := hE.blk hC7 (fun h => h)
 replace hIn := hIn.ext hE
 replace hA := hA.ext hE
 replace hB := hB.ext hE
 replace hWt := hWt.ext hE
 clear hE
 refine WL.nil (W.seq (W.seq (W.region (WL.c rfl (o_ldA TI28 rfl rfl (show Cells _ b5 0 [.int .i64 er, .int .i64 ea] from Cells.of hC5 0 _ (by simp)) rfl (WL.c rfl (o_ldA TI28 rfl rfl (show Cells _ b9 0 [.int .i64 er, .int .i64 ea] from Cells.of hC9 0 _ (by simp)) rfl (WL.c rfl (o_neR TI28 (by kernel_rfl) (by kernel_rfl) rfl rfl (.int TI26 (by decide) rfl rfl (.int TI3 (by decide) rfl rfl .nil)) (WL.c rfl (o_mvh vB (WL.g rfl (by simp) rfl (o_ldA TI28 rfl rfl (show Cells _ b7 0 [.int .i64 er, .int .i64 ea] from Cells.of hC7 0 _ (by simp)) rfl (WL.g rfl (by simp) rfl (o_ldA TI28 rfl rfl (show Cells _ b9 0 [.int .i64 er, .int .i64 ea] from Cells.of hC9 0 _ (by simp)) rfl (WL.g rfl (by simp) rfl (o_neR TI28 (by kernel_rfl) (by kernel_rfl) rfl rfl (.int TI26 (by decide) rfl rfl (.int TI3 (by decide) rfl rfl .nil)) (WL.c rfl (o_pickO rfl rfl (WL.c rfl (o_mvh vB (WL.g rfl (by simp) rfl (o_ldA TI34 rfl rfl (show Cells _ b4 0 [tva, rva] from Cells.of hC4 0 _ (by simp)) rfl (WL.g rfl (by simp) rfl (o_ldA TI34 rfl rfl (show Cells _ b8 0 [tvw, rvw] from Cells.of hC8 0 _ (by simp)) rfl (WL.g rfl (by simp) rfl (o_call Try.call13 (lc rfl (lc rfl ln)) ((same_A9 L R _ _ _ L R _ _ _ _ hA.rd hWt hok hok ⟨rfl, rfl⟩).mono ?_))))))))))))))))))))))))))))
 rintro v54 w54 ⟨rfl, hx54⟩
 replace hx := hx.tr hx54
 replace hC1 := hx54.blk hC1 (fun h => h)
 replace hC3 := hx54.blk hC3 (fun h => h)
 replace hC4 := hx54.blk hC4 (fun h => h)
 replace hC5 := hx54.blk hC5 (fun h => h)
 replace hC6 := hx54.blk hC6 (fun h => h)
 replace hC7 := hx54.blk hC7 (fun h => h)
 replace hC8 := hx54.blk hC8 (fun h => h)
 replace hC9 := hx54.blk hC9 (fun h => h)
 replace hIn := hIn.ext hx54
 replace hA := hA.ext hx54
 replace hB := hB.ext hx54
 replace hWt := hWt.ext hx54
 refine WL.g rfl (by simp) rfl (o_not' rfl (WL.c rfl (o_pickO rfl rfl (WL.c rfl (o_mvh vB (WL.g rfl (by simp) rfl (o_ldA TI34 rfl rfl (show Cells _ b6 0 [tvb, rvb] from Cells.of hC6 0 _ (by simp)) rfl (WL.g rfl (by simp) rfl (o_ldA TI34 rfl rfl (show Cells _ b8 0 [tvw, rvw] from Cells.of hC8 0 _ (by simp)) rfl (WL.g rfl (by simp) rfl (o_call Try.call13 (lc rfl (lc rfl ln)) ((same_A9 L R _ _ _ L R _ _ _ _ hB hWt hok hok ⟨rfl, rfl⟩).mono ?_))))))))))))
 rintro v60 w60 ⟨rfl, hx60⟩
 replace hx := hx.tr hx60
 replace hC1 := hx60.blk hC1 (fun h => h)
 replace hC3 := hx60.blk hC3 (fun h => h)
 replace hC4 := hx60.blk hC4 (fun h => h)
 replace hC5 := hx60.blk hC5 (fun h => h)
 replace hC6 := hx60.blk hC6 (fun h => h)
 replace hC7 := hx60.blk hC7 (fun h => h)
 replace hC8 := hx60.blk hC8 (fun h => h)
 replace hC9 := hx60.blk hC9 (fun h => h)
 replace hIn := hIn.ext hx60
 replace hA := hA.ext hx60
 replace hB := hB.ext hx60
 replace hWt := hWt.ext hx60
 refine WL.g rfl (by simp) rfl (o_not' rfl (WL.c rfl (o_pickO rfl rfl (WL.c rfl (o_mvh vB (WL.g rfl (by simp) rfl (o_ldA TI25 rfl rfl (show Cells _ b3 0 [kv] from Cells.of hC3 0 _ (by simp)) rfl (WL.g rfl (by simp) rfl (o_ldA TI25 rfl rfl (show Cells _ b1 0 [dv] from Cells.of hC1 0 _ (by simp)) rfl (WL.g rfl (by simp) rfl (o_call Try.call14 (lc rfl (lc rfl ln)) ((samesrc_spec D kv dv KW V _ hIn (hD.ext hx) hlim).mono ?_))))))))))))
 rintro v66 w66 ⟨rfl, hx66⟩
 have hq66 := hx.size
 replace hx := hx.tr hx66
 replace hC1 := hx66.blk hC1 (fun h => h)
 replace hC3 := hx66.blk hC3 (fun h => h)
 replace hC4 := hx66.blk hC4 (fun h => h)
 replace hC5 := hx66.blk hC5 (fun h => h)
 replace hC6 := hx66.blk hC6 (fun h => h)
 replace hC7 := hx66.blk hC7 (fun h => h)
 replace hC8 := hx66.blk hC8 (fun h => h)
 replace hC9 := hx66.blk hC9 (fun h => h)
 replace hIn := hIn.ext hx66
 replace hA := hA.ext hx66
 replace hB := hB.ext hx66
 replace hWt := hWt.ext hx66
 refine WL.g rfl (by simp) rfl (o_not' rfl (WL.c rfl (o_pickO rfl rfl (WL.nil (W.condF' rfl (by simp) (W.skip (W.seq (W.region (WL.c rfl (o_bldC (cs := [(st [111, 118, 101, 114]), (.int .i64 9), (.int .i64 0)]) TI52 (Sizes.cons TI9 (Sizes.cons TI3 (Sizes.cons TI3 Sizes.nil))) rfl (lcp (show _ = Value.string _ from rfl) (lcp vI lnp)) rfl rfl (WL.c rfl (o_alB TI52 ?_))))))))))))
 intro wa hCa hxa hsa
 refine WL.u (o_stA TI52 rfl (show _ = Value.agg ((paV paO)).toArray from rfl) rfl rfl hCa rfl ?_)
 intro wb10 hC10 hob hsb
 have hxb := Ext.own hxa (Nat.le_refl _) hob
 obtain ⟨b10, hb10⟩ : ∃ b, b = w66.heap.size := ⟨_, rfl⟩
 rw [← hb10] at hC10 ⊢
 clear hCa hxa hsa hob hsb
 have hl4 := blk_lt3 hC4
 have hl6 := blk_lt3 hC6
 have hl8 := blk_lt3 hC8
 have hl9 := blk_lt3 hC9
 have hs66 := hx66.size
 have hs60 := hx60.size
 have hs54 := hx54.size
 replace hx := hx.tr hxb
 replace hC1 := hxb.blk hC1 (fun h => h)
 replace hC3 := hxb.blk hC3 (fun h => h)
 replace hC4 := hxb.blk hC4 (fun h => h)
 replace hC6 := hxb.blk hC6 (fun h => h)
 replace hC8 := hxb.blk hC8 (fun h => h)
 replace hC9 := hxb.blk hC9 (fun h => h)
 replace hIn := hIn.ext hxb
 replace hA := hA.ext hxb
 replace hB := hB.ext hxb
 replace hWt := hWt.ext hxb
 have hl10 := blk_lt3 hC10
 obtain ⟨H3, hH3⟩ : ∃ x, x = wb10.heap.size := ⟨_, rfl⟩
 have hX : XW w0 wb10 D L R H1 H2 H3 b3 b4 b6 b8 b9 b10 kv tva rva tvb rvb tvw rvw KW Ub Uw er ea := ⟨hC3, hC4, hC6, hC8, hC9, hC10, hIn, hB, hWt, hx, by omega, ⟨h12, by omega⟩, by omega, hb3l, ⟨⟨by omega, by omega⟩, ⟨by omega, by omega⟩, ⟨by omega, by omega⟩, ⟨by omega, by omega⟩, ⟨by omega, by omega⟩⟩, fun k hk => by have := hInl2 k hk; omega, fun k hk => by have := hBl k hk; omega, fun k hk => by have := hBr k hk; omega, fun k hk => by have := hWl k hk; omega, fun k hk => by have := hWr k hk; omega⟩
 obtain ⟨aT, cT, hTv, -⟩ := own_form hA.ty.row
 obtain ⟨aR, cR, hRv, -⟩ := own_form hA.ro
 have hrow := hA.ty.row
 have htys := hA.ty.tys
 have hra : wb10.ownsRow H1 47 2 rva R.length (ros (List.replicate 0 roO ++ R.drop 0)) := hA.ro
 clear hC1 hC3 hC4 hC6 hC8 hC9 hC10 hIn hB hWt
 clear hxb
 refine WL.nil (W.seq (W.seq (W.region (WL.c rfl (o_ash vI (WL.nil (W.block (W.loop (fun e w => ∃ i : Nat, i ≤ L.length ∧ e 3 = .pointer (some ⟨b3, 0, none⟩) ∧ e 4 = .pointer (some ⟨b4, 0, none⟩) ∧ e 6 = .pointer (some ⟨b6, 0, none⟩) ∧ e 8 = .pointer (some ⟨b8, 0, none⟩) ∧ e 9 = .pointer (some ⟨b9, 0, none⟩) ∧ e 10 = .pointer (some ⟨b10, 0, none⟩) ∧ e 11 = .int .i64 (i : Int) ∧ XW w0 w D L R H1 H2 H3 b3 b4 b6 b8 b9 b10 kv tva rva tvb rvb tvw rvw KW Ub Uw er ea ∧ w.ownsRow H1 50 4 tva L.length (trows L Ua) ∧ Many w H1 52 3 L.length Ua (mlen L) (fun j => pas (ovK L i 0 j)) ∧ w.ownsRow H1 47 2 rva R.length (ros (List.replicate 0 roO ++ R.drop 0))) (fun e w => L.length - (intOf (e 11)).toNat) ?_ ?_))))))))
 ·exact ⟨0, Nat.zero_le _, rfl, rfl, rfl, rfl, rfl, rfl, rfl, hX, hrow, htys.congr (fun _ _ => rfl) (fun _ _ => rfl) (fun j _ => by rw [ovK_zero]), hra⟩
 rintro e w ⟨i, hi, h3, h4, h6, h8, h9, h10, h11, hX, hrow, htys, hra⟩
 have hm11 := h11
 refine W.seq (W.seq (W.region (WL.c rfl (o_mvh h11 (WL.c rfl (o_fa 0 TI34 rfl TI31 rfl h4 (WL.c rfl (o_ld TI31 rfl rfl (cell_of hX.c4 rfl) (WL.c rfl (o_lenR TI31 rfl (Sl.own hrow) (WL.c rfl (o_lt rfl rfl (WL.nil (W.cond rfl (fun c74 => ?_) (fun c74 => ?_)))))))))))))))
 ·try simp only [cs8] at c74
  have hi1 : i < L.length := by omega
  obtain ⟨ga, ca, htva, hga⟩ := own_some hrow (by omega)
  have htl := (hlL.ty _ (List.getElem_mem hi1)).len
  rw [← pasT_at hi1] at htl
  replace htl : mlen L i * 32 ≤ 140737488351232 := htl
  refine W.skip (W.seq (W.block (W.seq (W.region (WL.c rfl (o_ash vI (WL.nil (W.block (W.loop (fun e w => ∃ q : Nat, q ≤ mlen L i ∧ e 3 = .pointer (some ⟨b3, 0, none⟩) ∧ e 4 = .pointer (some ⟨b4, 0, none⟩) ∧ e 6 = .pointer (some ⟨b6, 0, none⟩) ∧ e 8 = .pointer (some ⟨b8, 0, none⟩) ∧ e 9 = .pointer (some ⟨b9, 0, none⟩) ∧ e 10 = .pointer (some ⟨b10, 0, none⟩) ∧ e 11 = .int .i64 (i : Int) ∧ e 12 = .int .i64 (q : Int) ∧ XW w0 w D L R H1 H2 H3 b3 b4 b6 b8 b9 b10 kv tva rva tvb rvb tvw rvw KW Ub Uw er ea ∧ w.ownsRow H1 50 4 tva L.length (trows L Ua) ∧ Many w H1 52 3 L.length Ua (mlen L) (fun j => pas (ovK L i q j)) ∧ w.ownsRow H1 47 2 rva R.length (ros (List.replicate 0 roO ++ R.drop 0))) (fun e w => mlen L i - (intOf (e 12)).toNat) ?_ ?_)))))))))
  ·exact ⟨0, Nat.zero_le _, h3, h4, h6, h8, h9, h10, h11, rfl, hX, hrow, htys, hra⟩
  rintro e w ⟨q, hq, h3, h4, h6, h8, h9, h10, h11, h12, hX, hrow, htys, hra⟩
  have hm12 := h12
  refine W.seq (W.seq (W.region (WL.c rfl (o_mvh h12 (WL.c rfl (o_fa 0 TI34 rfl TI31 rfl h4 (WL.c rfl (o_ld TI31 rfl rfl (cell_of hX.c4 rfl) (WL.c rfl (o_mvh h11 (WL.c rfl (o_ixB (i := i) TI31 TI50 (show _ = Value.slice (some ⟨ga, 0, none⟩) L.length ca from htva) (show _ = Value.int .i64 (i : Int) from by first | rfl | assumption) (by omega) (WL.c rfl (o_fa 3 TI50 rfl TI48 rfl rfl (WL.c rfl (o_ld TI48 rfl rfl (own_cell (j := 0 + i * 4 + 3) (htva ▸ hrow) (by rw [Nat.zero_add]; exact (trows_get hi1 (by decide)).trans rfl)) (WL.c rfl (o_lenR TI48 (show _ = Ua i from rfl) (Sl.own (htys.row i hi1)) (WL.c rfl (o_lt rfl rfl (WL.nil (W.cond rfl (fun c85 => ?_) (fun c85 => ?_)))))))))))))))))))))))
  ·try simp only [cs8] at c85
   have hq1 : q < mlen L i := by omega
   obtain ⟨gu, cu, hU, hgu⟩ := own_some (htys.row i hi1) (by omega)
   refine W.skip (W.seq (W.block ?_))
   have hxd := Only.drew w
   replace hX := hX.ext hxd
   replace hrow := own_ext hrow hxd
   replace htys := htys.ext hxd
   replace hra := own_ext hra hxd
   refine W.tail 9 rfl (by kernel_rfl) (WS.c rfl ((SO.o rfl (o_fa 0 TI34 rfl TI31 rfl h4 ⟨rfl, rfl⟩))) (WS.c rfl ((SO.o rfl (o_ld TI31 rfl rfl (cell_of hX.c4 rfl) ⟨rfl, rfl⟩))) (WS.c rfl ((SO.o rfl (o_mvh h11 ⟨rfl, rfl⟩))) (WS.c rfl ((SO.o rfl (o_ixB (i := i) TI31 TI50 (show _ = Value.slice (some ⟨ga, 0, none⟩) L.length ca from htva) (show _ = Value.int .i64 (i : Int) from by first | rfl | assumption) (by omega) ⟨rfl, rfl⟩))) (WS.c rfl ((SO.o rfl (o_fa 3 TI50 rfl TI48 rfl rfl ⟨rfl, rfl⟩))) (WS.c rfl ((SO.o rfl (o_ld TI48 rfl rfl (own_cell (j := 0 + i * 4 + 3) (htva ▸ hrow) (by rw [Nat.zero_add]; exact (trows_get hi1 (by decide)).trans rfl)) ⟨rfl, rfl⟩))) (WS.c rfl ((SO.o rfl (o_mvh h12 ⟨rfl, rfl⟩))) (WS.c rfl ((SO.o rfl (o_ldA TI52 rfl h10 (show Cells _ b10 0 (paV paO) from Cells.of hX.c10 0 _ (by simp [paO])) rfl ⟨rfl, rfl⟩))) (WS.c rfl ((SO.o rfl (o_ixB (i := q) TI48 TI52 (show _ = Value.slice (some ⟨gu, 0, none⟩) (mlen L i) cu from hU) (show _ = Value.int .i64 (q : Int) from by first | rfl | assumption) (by omega) ⟨rfl, rfl⟩))) (WS.nil (WL.u (o_stRA TI52 rfl (show 0 + q * 3 = q * 3 by omega) (show _ = Value.agg (paV paO).toArray from rfl) rfl rfl (htys.row i hi1) hgu (by omega) ?_))))))))))))
   intro w9 hr9 ho9 hs9
   have hr9' : w9.ownsRow H1 52 3 (Ua i) (mlen L i) (pas (ovK L i (q + 1) i)) := by rw [ovK_at, ← over_step hq1, ← ovK_at]; exact hr9
   replace hX := hX.only ho9 (fun b hb => .inl (hUa i hi1 b hb))
   replace hrow := own_only hrow ho9 (fun b hb e => own_row_off hrow (htys.row i hi1) (by decide) b e hb)
   replace hra := own_only hra ho9 (fun b hb e => own_row_off hra (htys.row i hi1) (by decide) b e hb)
   replace htys := (htys.set hi1 ho9 hr9').congr (V' := Ua) (n' := mlen L) (X' := fun j => pas (ovK L i (q + 1) j)) (fun _ _ => rfl) (fun j _ => by by_cases e : j = i <;> simp [e]) (fun j _ => by
    by_cases e : j = i
    ·rw [if_pos e, e]
    rw [if_neg e]; unfold ovK; rw [if_neg e, if_neg e])
   refine WL.nil (W.region (WL.c rfl (o_mvh h12 (WL.c rfl (o_addi rfl rfl (by omega) (WL.c rfl (o_ash vI (WL.nil (⟨⟨q + 1, by omega, h3, h4, h6, h8, h9, h10, h11, rfl, hX, hrow, htys, hra⟩, ?_⟩)))))))))
   show mlen L i - ((q : Int) + 1).toNat < _
   rw [hm12]; simp [intOf]; omega
  try simp only [cs8] at c85
  have hq1 : q = mlen L i := by omega
  refine W.exit (W.region (WL.c rfl (o_mvh h11 (WL.c rfl (o_addi rfl rfl (by omega) (WL.c rfl (o_ash vI (WL.nil (⟨⟨i + 1, by omega, h3, h4, h6, h8, h9, h10, rfl, hX, hrow, htys.congr (fun _ _ => rfl) (fun _ _ => rfl) (fun j _ => by rw [hq1, ovK_next]), hra⟩, ?_⟩)))))))))
  show L.length - ((i : Int) + 1).toNat < _
  rw [hm11]; simp [intOf]; omega
 try simp only [cs8] at c74
 have hi1 : i = L.length := by omega
 replace htys := htys.congr (V' := Ua) (n' := mlen L) (X' := fun j => pas (List.replicate (mlen L j) paO)) (fun _ _ => rfl) (fun _ _ => rfl) (fun j hj => by rw [hi1, ovK_all hj])
 refine W.exit (W.seq (W.seq (W.region (WL.c rfl (o_ash vI (WL.nil (W.block (W.loop (fun e w => ∃ i : Nat, i ≤ R.length ∧ e 3 = .pointer (some ⟨b3, 0, none⟩) ∧ e 4 = .pointer (some ⟨b4, 0, none⟩) ∧ e 6 = .pointer (some ⟨b6, 0, none⟩) ∧ e 8 = .pointer (some ⟨b8, 0, none⟩) ∧ e 9 = .pointer (some ⟨b9, 0, none⟩) ∧ e 10 = .pointer (some ⟨b10, 0, none⟩) ∧ e 13 = .int .i64 (i : Int) ∧ XW w0 w D L R H1 H2 H3 b3 b4 b6 b8 b9 b10 kv tva rva tvb rvb tvw rvw KW Ub Uw er ea ∧ w.ownsRow H1 50 4 tva L.length (trows L Ua) ∧ Many w H1 52 3 L.length Ua (mlen L) (fun j => pas (List.replicate (mlen L j) paO)) ∧ w.ownsRow H1 47 2 rva R.length (ros (List.replicate i roO ++ R.drop i))) (fun e w => R.length - (intOf (e 13)).toNat) ?_ ?_))))))))
 ·exact ⟨0, Nat.zero_le _, h3, h4, h6, h8, h9, h10, rfl, hX, hrow, htys, hra⟩
 rintro e w ⟨i, hi, h3, h4, h6, h8, h9, h10, h13, hX, hrow, htys, hra⟩
 have hm13 := h13
 refine W.seq (W.seq (W.region (WL.c rfl (o_mvh h13 (WL.c rfl (o_fa 1 TI34 rfl TI32 rfl h4 (WL.c rfl (o_ld TI32 rfl rfl (cell_of hX.c4 rfl) (WL.c rfl (o_lenR TI32 rfl (Sl.own hra) (WL.c rfl (o_lt rfl rfl (WL.nil (W.cond rfl (fun c101 => ?_) (fun c101 => ?_)))))))))))))))
 ·try simp only [cs8] at c101
  have hi1 : i < R.length := by omega
  obtain ⟨gr, cr, hrva, hgr⟩ := own_some hra (by omega)
  refine W.skip (W.seq (W.block (W.region (WL.c rfl (o_fa 1 TI34 rfl TI32 rfl h4 (WL.c rfl (o_ld TI32 rfl rfl (cell_of hX.c4 rfl) (WL.c rfl (o_mvh h13 (WL.c rfl (o_bldC (cs := [(st [111, 118, 101, 114]), (.int .i64 0)]) TI47 (Sizes.cons TI9 (Sizes.cons TI3 Sizes.nil)) rfl (lcp (show _ = Value.string _ from rfl) lnp) rfl rfl (WL.c rfl (o_ixB (i := i) TI32 TI47 (show _ = Value.slice (some ⟨gr, 0, none⟩) R.length cr from hrva) (show _ = Value.int .i64 (i : Int) from by first | rfl | assumption) (by omega) (WL.u (o_stRA TI47 rfl (show 0 + i * 2 = i * 2 by omega) (show _ = Value.agg (roV roO).toArray from rfl) rfl rfl hra hgr (by omega) ?_)))))))))))))))
  intro w9 hr9 ho9 hs9
  replace hX := hX.only ho9 (fun b hb => .inl (hRa b hb))
  replace hrow := own_only hrow ho9 (fun b hb e => own_row_off hrow hra (by decide) b e hb)
  replace htys := htys.other hra (by decide) ho9
  replace hra : w9.ownsRow H1 47 2 rva R.length (ros (List.replicate (i + 1) roO ++ R.drop (i + 1))) := by rw [← overR_step hi1]; exact hr9
  refine WL.nil (W.region (WL.c rfl (o_mvh h13 (WL.c rfl (o_addi rfl rfl (by omega) (WL.c rfl (o_ash vI (WL.nil (⟨⟨i + 1, by omega, h3, h4, h6, h8, h9, h10, rfl, hX, hrow, htys, hra⟩, ?_⟩)))))))))
  show R.length - ((i : Int) + 1).toNat < _
  rw [hm13]; simp [intOf]; omega
 try simp only [cs8] at c101
 have hi1 : i = R.length := by omega
 refine W.exit (W.seq (W.region (WL.c rfl (o_ash (by first | exact vS | exact rfl) (WL.nil ?_)))))
 obtain ⟨H4, hH4⟩ : ∃ x, x = w.heap.size := ⟨_, rfl⟩
 have h34 : H3 ≤ H4 := by rw [hH4]; exact hX.ow
 have h124 := hX.o12
 refine W.seq (W.seq (W.region (WL.c rfl (o_ash vI (WL.nil (W.block (W.loop (fun e w => ∃ (i : Nat) (gv : Value) (G : Nat → Value), i ≤ L.length ∧ e 3 = .pointer (some ⟨b3, 0, none⟩) ∧ e 4 = .pointer (some ⟨b4, 0, none⟩) ∧ e 6 = .pointer (some ⟨b6, 0, none⟩) ∧ e 8 = .pointer (some ⟨b8, 0, none⟩) ∧ e 9 = .pointer (some ⟨b9, 0, none⟩) ∧ e 10 = .pointer (some ⟨b10, 0, none⟩) ∧ e 14 = gv ∧ e 15 = .int .i64 (i : Int) ∧ XW w0 w D L R H1 H2 H3 b3 b4 b6 b8 b9 b10 kv tva rva tvb rvb tvw rvw KW Ub Uw er ea ∧ w.ownsRow H1 50 4 tva L.length (trows L Ua) ∧ Many w H1 52 3 L.length Ua (mlen L) (fun j => pas (List.replicate (mlen L j) paO)) ∧ w.ownsRow H1 47 2 rva R.length (ros (List.replicate R.length roO ++ R.drop R.length)) ∧ (∀ j, j < i → w.ownsRow H1 52 3 (G j) (mlen L j + 1) (pas (List.replicate (mlen L j) paO ++ [paM j]))) ∧ (∀ j, j < i → ∀ b, (G j).ownBlock = some b → (Ua j).ownBlock = some b ∨ H4 ≤ b) ∧ w.ownsRow H4 48 1 gv i ((List.range i).map G) ∧ H4 ≤ w.heap.size) (fun e w => L.length - (intOf (e 15)).toNat) ?_ ?_)))))))
 ·exact ⟨0, .slice none 0 0, fun _ => undef, Nat.zero_le _, h3, h4, h6, h8, h9, h10, rfl, rfl, hX, hrow, htys, (by rw [hi1] at hra; exact hra), fun j hj => by omega, fun j hj => by omega, World.ownsRow_nil _ _ _ _, by omega⟩
 rintro e w ⟨i, gv, G, hi, h3, h4, h6, h8, h9, h10, h14, h15, hX, hrow, htys, hra, hG, hGb, hgv, hw4⟩
 have hm15 := h15
 refine W.seq (W.seq (W.region (WL.c rfl (o_mvh h15 (WL.c rfl (o_fa 0 TI34 rfl TI31 rfl h4 (WL.c rfl (o_ld TI31 rfl rfl (cell_of hX.c4 rfl) (WL.c rfl (o_lenR TI31 rfl (Sl.own hrow) (WL.c rfl (o_lt rfl rfl (WL.nil (W.cond rfl (fun c113 => ?_) (fun c113 => ?_)))))))))))))))
 ·try simp only [cs8] at c113
  have hi1 : i < L.length := by omega
  obtain ⟨ga, ca, htva, hga⟩ := own_some hrow (by omega)
  have htl := (hlL.ty _ (List.getElem_mem hi1)).len
  rw [← pasT_at hi1] at htl
  replace htl : mlen L i * 32 ≤ 140737488351232 := htl
  refine W.skip (W.seq (W.block (W.region (WL.c rfl (o_mvh h14 (WL.c rfl (o_fa 0 TI34 rfl TI31 rfl h4 (WL.c rfl (o_ld TI31 rfl rfl (cell_of hX.c4 rfl) (WL.c rfl (o_mvh h15 (WL.c rfl (o_ixB (i := i) TI31 TI50 (show _ = Value.slice (some ⟨ga, 0, none⟩) L.length ca from htva) (show _ = Value.int .i64 (i : Int) from by first | rfl | assumption) (by omega) (WL.c rfl (o_fa 3 TI50 rfl TI48 rfl rfl (WL.c rfl (o_ld TI48 rfl rfl (own_cell (j := 0 + i * 4 + 3) (htva ▸ hrow) (by rw [Nat.zero_add]; exact (trows_get hi1 (by decide)).trans rfl)) (WL.c rfl (o_mvh h15 (WL.c rfl (o_bldC (cs := [(st [109, 111, 114, 101]), _, (.int .i64 0)]) TI52 (Sizes.cons TI9 (Sizes.cons TI3 (Sizes.cons TI3 Sizes.nil))) rfl (lcp (show _ = Value.string _ from rfl) (lcp vI lnp)) rfl rfl (WL.apO (H1) rfl rfl TI48 TI52 (show _ = Value.agg (paV (paM i)).toArray from rfl) rfl (htys.row i hi1) (by decide) (by decide) rfl (fun a ha => List.all_eq_true.1 (show List.all _ (fun a => a.oneCell') = true from rfl) a ha) rfl (by rw [maxLen_eq]; omega) (by omega) (by have := hX.ow; omega) ?_))))))))))))))))))))))
  intro v126 w126 hown126 ho126 hb126 hk126
  have hUb := hUa i hi1
  replace hk126 : w126.ownsRow H1 52 3 (Ua i) (mlen L i) (pas (List.replicate (mlen L i) paO)) := hk126
  replace hown126 : w126.ownsRow H1 52 3 v126 (mlen L i + 1) (pas (List.replicate (mlen L i) paO ++ [paM i])) := by rw [pas_snoc]; exact hown126
  replace ho126 : Only (fun k => (Ua i).ownBlock = some k) w w126 := ho126
  have hs126 := ho126.size
  have hGi : ∀ b, v126.ownBlock = some b → (Ua i).ownBlock = some b ∨ H4 ≤ b := fun b hb => by
   rcases hb126 with h | h
   ·exact .inl (h.symm.trans hb)
   right; have h5 := h.symm.trans hb; rw [Option.some.injEq] at h5; omega
  replace hX := hX.only ho126 (fun b hb => .inl (hUb b hb))
  replace hrow := own_only hrow ho126 (fun b hb e => own_row_off hrow (htys.row i hi1) (by decide) b e hb)
  replace hra := own_only hra ho126 (fun b hb e => own_row_off hra (htys.row i hi1) (by decide) b e hb)
  replace hgv := own_only hgv ho126 (fun b hb e => by have h1 := (hgv.lt b hb).1; have h2 := hUb b e; omega)
  replace hG := fun j (hj : j < i) => own_only (hG j hj) ho126 (fun b hb e => by
   rcases hGb j hj b hb with h | h
   ·exact htys.off i j hi1 (by omega) (by omega) b e h
   have h2 := hUb b e; omega)
  replace htys := (htys.set hi1 ho126 hk126).congr (V' := Ua) (n' := mlen L) (X' := fun j => pas (List.replicate (mlen L j) paO)) (fun _ _ => rfl) (fun j _ => by by_cases e : j = i <;> simp [e]) (fun j _ => by
   by_cases e : j = i
   ·rw [if_pos e, e]
   rw [if_neg e])
  refine WL.apO (H4) rfl rfl TI57 TI48 (show _ = v126 from rfl) rfl hgv (by decide) (by decide) (by rw [own_cells hown126]; rfl) (by rw [own_cells hown126]; intro a ha; simp at ha; subst ha; exact own_one hown126) rfl (by rw [maxLen_eq]; omega) (by omega) (by omega) ?_
  intro v128 w128 hgv2 ho128 hb128 _
  have hgl : ∀ b, gv.ownBlock = some b → H4 ≤ b := fun b hb => (hgv.lt b hb).1
  replace ho128 : Only (fun k => gv.ownBlock = some k) w126 w128 := ho128
  have hs128 := ho128.size
  replace hX := hX.only ho128 (fun b hb => .inr (by have := hgl b hb; omega))
  replace hrow := own_only hrow ho128 (fun b hb e => own_row_off hrow hgv (by decide) b e hb)
  replace hra := own_only hra ho128 (fun b hb e => own_row_off hra hgv (by decide) b e hb)
  replace htys := htys.other hgv (by decide) ho128
  replace hown126 := own_only hown126 ho128 (fun b hb e => own_row_off hown126 hgv (by decide) b e hb)
  replace hG := fun j (hj : j < i) => own_only (hG j hj) ho128 (fun b hb e => own_row_off (hG j hj) hgv (by decide) b e hb)
  replace hgv : w128.ownsRow H4 48 1 v128 (i + 1) ((List.range (i + 1)).map (fun j => if j = i then v126 else G j)) := by
   rw [List.range_succ, List.map_append]
   have e1 : (List.range i).map (fun j => if j = i then v126 else G j) = (List.range i).map G := List.map_congr_left fun j hj => if_neg (by have := List.mem_range.1 hj; omega)
   rw [e1]
   have e2 : [i].map (fun j => if j = i then v126 else G j) = v126.cells.toList := by rw [own_cells hown126]; simp
   rw [e2]; exact hgv2
  replace hG : ∀ j, j < i + 1 → w128.ownsRow H1 52 3 (if j = i then v126 else G j) (mlen L j + 1) (pas (List.replicate (mlen L j) paO ++ [paM j])) := fun j hj => by
   by_cases e : j = i
   ·rw [if_pos e, e]; exact hown126
   rw [if_neg e]; exact hG j (by omega)
  replace hGb : ∀ j, j < i + 1 → ∀ b, (if j = i then v126 else G j).ownBlock = some b → (Ua j).ownBlock = some b ∨ H4 ≤ b := fun j hj b hb => by
   by_cases e : j = i
   ·rw [if_pos e] at hb; rw [e]; exact hGi b hb
   rw [if_neg e] at hb; exact hGb j (by omega) b hb
  replace hw4 : H4 ≤ w128.heap.size := by omega
  refine WL.c rfl (o_ash (by first | exact vS | exact rfl) (WL.nil (W.region (WL.c rfl (o_mvh h15 (WL.c rfl (o_addi rfl rfl (by omega) (WL.c rfl (o_ash vI (WL.nil (⟨⟨i + 1, v128, fun j => if j = i then v126 else G j, by omega, h3, h4, h6, h8, h9, h10, rfl, rfl, hX, hrow, htys, hra, hG, hGb, hgv, hw4⟩, ?_⟩)))))))))))
  show L.length - ((i : Int) + 1).toNat < _
  rw [hm15]; simp [intOf]; omega
 try simp only [cs8] at c113
 have hi1 : i = L.length := by omega
 rw [hi1] at hG hGb hgv
 refine W.exit (W.seq (W.seq (W.region (WL.c rfl (o_ash vI (WL.nil (W.block (W.loop (fun e w => ∃ (i : Nat) (xs : List Value), i ≤ L.length ∧ e 3 = .pointer (some ⟨b3, 0, none⟩) ∧ e 4 = .pointer (some ⟨b4, 0, none⟩) ∧ e 6 = .pointer (some ⟨b6, 0, none⟩) ∧ e 8 = .pointer (some ⟨b8, 0, none⟩) ∧ e 9 = .pointer (some ⟨b9, 0, none⟩) ∧ e 10 = .pointer (some ⟨b10, 0, none⟩) ∧ e 14 = gv ∧ e 16 = .int .i64 (i : Int) ∧ XW w0 w D L R H1 H2 H3 b3 b4 b6 b8 b9 b10 kv tva rva tvb rvb tvw rvw KW Ub Uw er ea ∧ w.ownsRow H1 50 4 tva L.length xs ∧ (∀ j, i ≤ j → j < L.length → xs[j * 4 + 3]? = some (Ua j)) ∧ Many w H1 52 3 L.length Ua (mlen L) (fun j => pas (List.replicate (mlen L j) paO)) ∧ w.ownsRow H1 47 2 rva R.length (ros (List.replicate R.length roO ++ R.drop R.length)) ∧ (∀ j, j < L.length → w.ownsRow H1 52 3 (G j) (mlen L j + 1) (pas (List.replicate (mlen L j) paO ++ [paM j]))) ∧ (∀ j, j < L.length → ∀ b, (G j).ownBlock = some b → (Ua j).ownBlock = some b ∨ H4 ≤ b) ∧ w.ownsRow H4 48 1 gv L.length ((List.range L.length).map G)) (fun e w => L.length - (intOf (e 16)).toNat) ?_ ?_))))))))
 ·exact ⟨0, trows L Ua, Nat.zero_le _, h3, h4, h6, h8, h9, h10, h14, rfl, hX, hrow, fun j _ hj => (trows_get hj (by decide)).trans rfl, htys, hra, hG, hGb, hgv⟩
 rintro e w ⟨i, xs, hi, h3, h4, h6, h8, h9, h10, h14, h16, hX, hrow, hxs, htys, hra, hG, hGb, hgv⟩
 have hm16 := h16
 refine W.seq (W.seq (W.region (WL.c rfl (o_mvh h16 (WL.c rfl (o_fa 0 TI34 rfl TI31 rfl h4 (WL.c rfl (o_ld TI31 rfl rfl (cell_of hX.c4 rfl) (WL.c rfl (o_lenR TI31 rfl (Sl.own hrow) (WL.c rfl (o_lt rfl rfl (WL.nil (W.cond rfl (fun c133 => ?_) (fun c133 => ?_)))))))))))))))
 ·try simp only [cs8] at c133
  have hi1 : i < L.length := by omega
  obtain ⟨ga, ca, htva, hga⟩ := own_some hrow (by omega)
  obtain ⟨gg, cg, hgvE, hgg⟩ := own_some hgv (by omega)
  rw [hgvE] at h14
  have htl := (hlL.ty _ (List.getElem_mem hi1)).len
  rw [← pasT_at hi1] at htl
  replace htl : mlen L i * 32 ≤ 140737488351232 := htl
  have hxi := hxs i (Nat.le_refl _) hi1
  obtain ⟨gG, cG, hGE, hGg⟩ := own_some (hG i hi1) (by omega)
  refine W.skip (W.seq (W.block (W.seq (W.region (WL.c rfl (o_fa 0 TI34 rfl TI31 rfl h4 (WL.c rfl (o_ld TI31 rfl rfl (cell_of hX.c4 rfl) (WL.c rfl (o_mvh h16 (WL.c rfl (o_ixB (i := i) TI31 TI50 (show _ = Value.slice (some ⟨ga, 0, none⟩) L.length ca from htva) (show _ = Value.int .i64 (i : Int) from by first | rfl | assumption) (by omega) (WL.c rfl (o_fa 3 TI50 rfl TI48 rfl rfl (WL.c rfl (o_ld TI48 rfl rfl (own_cell (j := 0 + i * 4 + 3) (htva ▸ hrow) (by rw [Nat.zero_add]; exact hxi)) (WL.c rfl (o_lenR TI48 (show _ = Ua i from rfl) (Sl.own (htys.row i hi1)) (WL.c rfl (o_ash vI (WL.nil (W.seq (W.seq (W.region (WL.c rfl (o_ash vI (WL.nil (W.block (W.loop (fun e w => ∃ q : Nat, q ≤ mlen L i ∧ e 3 = .pointer (some ⟨b3, 0, none⟩) ∧ e 4 = .pointer (some ⟨b4, 0, none⟩) ∧ e 6 = .pointer (some ⟨b6, 0, none⟩) ∧ e 8 = .pointer (some ⟨b8, 0, none⟩) ∧ e 9 = .pointer (some ⟨b9, 0, none⟩) ∧ e 10 = .pointer (some ⟨b10, 0, none⟩) ∧ e 14 = (.slice (some ⟨gg, 0, none⟩) L.length cg) ∧ e 16 = .int .i64 (i : Int) ∧ e 17 = .int .i64 ((mlen L i : Nat) : Int) ∧ e 18 = .int .i64 (q : Int) ∧ XW w0 w D L R H1 H2 H3 b3 b4 b6 b8 b9 b10 kv tva rva tvb rvb tvw rvw KW Ub Uw er ea ∧ w.ownsRow H1 50 4 tva L.length xs ∧ Many w H1 52 3 L.length Ua (mlen L) (fun j => pas (List.replicate (mlen L j) paO)) ∧ w.ownsRow H1 47 2 rva R.length (ros (List.replicate R.length roO ++ R.drop R.length)) ∧ (∀ j, j < L.length → w.ownsRow H1 52 3 (G j) (mlen L j + 1) (pas (List.replicate (mlen L j) paO ++ [paM j]))) ∧ (∀ j, j < L.length → ∀ b, (G j).ownBlock = some b → (Ua j).ownBlock = some b ∨ H4 ≤ b) ∧ w.ownsRow H4 48 1 gv L.length ((List.range L.length).map G)) (fun e w => mlen L i - (intOf (e 18)).toNat) ?_ ?_)))))))))))))))))))))))))))))
  ·exact ⟨0, Nat.zero_le _, h3, h4, h6, h8, h9, h10, h14, h16, rfl, rfl, hX, hrow, htys, hra, hG, hGb, hgv⟩
  rintro e w ⟨q, hq, h3, h4, h6, h8, h9, h10, h14, h16, h17, h18, hX, hrow, htys, hra, hG, hGb, hgv⟩
  have hm18 := h18
  refine W.seq (W.seq (W.region (WL.c rfl (o_mvh h18 (WL.c rfl (o_mvh h17 (WL.c rfl (o_lt rfl rfl (WL.nil (W.cond rfl (fun c145 => ?_) (fun c145 => ?_)))))))))))
  ·try simp only [cs8] at c145
   have hq1 : q < mlen L i := by omega
   obtain ⟨gu, cu, hU, hgu⟩ := own_some (htys.row i hi1) (by omega)
   have hUs : Sl w 3 (.slice (some ⟨gu, 0, none⟩) (List.replicate (mlen L i) paO).length cu) (List.replicate (mlen L i) paO).length (pas (List.replicate (mlen L i) paO)) := by rw [List.length_replicate, ← hU]; exact Sl.own (htys.row i hi1)
   have hUc := Sl.paw hUs (k := q) (by rw [List.length_replicate]; omega)
   rw [List.getElem_replicate] at hUc
   have hGl : (List.replicate (mlen L i) paO ++ [paM i]).length = mlen L i + 1 := by simp
   have hGs : Sl w 3 (.slice (some ⟨gG, 0, none⟩) (List.replicate (mlen L i) paO ++ [paM i]).length cG) (List.replicate (mlen L i) paO ++ [paM i]).length (pas (List.replicate (mlen L i) paO ++ [paM i])) := by rw [hGl, ← hGE]; exact Sl.own (hG i hi1)
   have hGc := Sl.paw hGs (k := q) (by rw [hGl]; omega)
   rw [List.getElem_append_left (by rw [List.length_replicate]; omega), List.getElem_replicate] at hGc
   have hgi : w.cell? ⟨gg, 0 + i * 1, none⟩ = some (.slice (some ⟨gG, 0, none⟩) (mlen L i + 1) cG) := by
    rw [Nat.zero_add, Nat.mul_one, ← hGE]
    exact own_cell (hgvE ▸ hgv) (by rw [List.getElem?_map, List.getElem?_range hi1]; rfl)
   refine W.skip (W.seq (W.block (W.seq (W.quiet rfl (by kernel_rfl) (WQ.c rfl ((QO.o rfl fun _ => o_fa 0 TI34 rfl TI31 rfl h4 ⟨rfl, rfl⟩)) (WQ.c rfl ((QO.o rfl fun _ => o_ld TI31 rfl rfl (cell_of hX.c4 rfl) ⟨rfl, rfl⟩)) (WQ.c rfl ((QO.o rfl fun _ => o_mvh h16 ⟨rfl, rfl⟩)) (WQ.c rfl ((QO.o rfl fun _ => o_ixB (i := i) TI31 TI50 (show _ = Value.slice (some ⟨ga, 0, none⟩) L.length ca from htva) (show _ = Value.int .i64 (i : Int) from by first | rfl | assumption) (by omega) ⟨rfl, rfl⟩)) (WQ.c rfl ((QO.o rfl fun _ => o_fa 3 TI50 rfl TI48 rfl rfl ⟨rfl, rfl⟩)) (WQ.c rfl ((QO.o rfl fun _ => o_ld TI48 rfl rfl (own_cell (j := 0 + i * 4 + 3) (htva ▸ hrow) (by rw [Nat.zero_add]; exact hxi)) ⟨rfl, rfl⟩)) (WQ.c rfl ((QO.o rfl fun _ => o_mvh h18 ⟨rfl, rfl⟩)) (WQ.c rfl ((QO.o rfl fun _ => o_ixB (i := q) TI48 TI52 (show _ = Value.slice (some ⟨gu, 0, none⟩) (mlen L i) cu from hU) (show _ = Value.int .i64 (q : Int) from by first | rfl | assumption) (by omega) ⟨rfl, rfl⟩)) (WQ.c rfl ((QO.o rfl fun _ => o_ldA TI52 rfl rfl (Cells.only (F := No) hUc (Only.drewN _ _) (fun h => h)) rfl ⟨rfl, rfl⟩)) (WQ.c rfl ((QO.o rfl fun _ => o_ldA TI52 rfl h10 (show Cells _ b10 0 (paV paO) from Cells.only (F := No) (Cells.of hX.c10 0 _ (by simp [paO])) (Only.drewN _ _) (fun h => h)) rfl ⟨rfl, rfl⟩)) (WQ.c rfl ((QO.o rfl fun _ => o_neR TI52 (by kernel_rfl) (by kernel_rfl) rfl rfl (.str TI9 (by decide) rfl rfl (.int TI3 (by decide) rfl rfl (.int TI3 (by decide) rfl rfl .nil))) ⟨rfl, rfl⟩)) (WQ.c rfl ((QO.o rfl fun _ => o_mvh vB ⟨rfl, rfl⟩)) (WQ.g rfl (by simp) rfl ((QO.o rfl fun _ => o_mvh h14 ⟨rfl, rfl⟩)) (WQ.g rfl (by simp) rfl ((QO.o rfl fun _ => o_mvh h16 ⟨rfl, rfl⟩)) (WQ.g rfl (by simp) rfl ((QO.o rfl fun _ => o_ixB (i := i) TI57 TI48 (show _ = Value.slice (some ⟨gg, 0, none⟩) L.length cg from by first | rfl | assumption) (show _ = Value.int .i64 (i : Int) from by first | rfl | assumption) (by omega) ⟨rfl, rfl⟩)) (WQ.g rfl (by simp) rfl ((QO.o rfl fun _ => o_ld TI48 rfl rfl hgi ⟨rfl, rfl⟩)) (WQ.g rfl (by simp) rfl ((QO.o rfl fun _ => o_mvh h18 ⟨rfl, rfl⟩)) (WQ.g rfl (by simp) rfl ((QO.o rfl fun _ => o_ixB (i := q) TI48 TI52 (show _ = Value.slice (some ⟨gG, 0, none⟩) (mlen L i + 1) cG from rfl) (show _ = Value.int .i64 (q : Int) from by first | rfl | assumption) (by omega) ⟨rfl, rfl⟩)) (WQ.g rfl (by simp) rfl ((QO.o rfl fun _ => o_ldA TI52 rfl rfl (Cells.only (F := No) hGc (Only.drewN _ _) (fun h => h)) rfl ⟨rfl, rfl⟩)) (WQ.g rfl (by simp) rfl ((QO.o rfl fun _ => o_ldA TI52 rfl h10 (show Cells _ b10 0 (paV paO) from Cells.only (F := No) (Cells.of hX.c10 0 _ (by simp [paO])) (Only.drewN _ _) (fun h => h)) rfl ⟨rfl, rfl⟩)) (WQ.g rfl (by simp) rfl ((QO.o rfl fun _ => o_neR TI52 (by kernel_rfl) (by kernel_rfl) rfl rfl (.str TI9 (by decide) rfl rfl (.int TI3 (by decide) rfl rfl (.int TI3 (by decide) rfl rfl .nil))) ⟨rfl, rfl⟩)) (WQ.c rfl ((QO.r fun _ => r_pickO rfl rfl)) (WQ.nil ?_)))))))))))))))))))))))))))
   intro nq
   refine W.condF' rfl (by simp) (W.skip (W.region (WL.c rfl (o_mvh h18 (WL.c rfl (o_addi rfl rfl (by omega) (WL.c rfl (o_ash vI (WL.nil ?_)))))))))
   have hxd := Only.drewN w nq
   refine ⟨⟨q + 1, by omega, h3, h4, h6, h8, h9, h10, h14, h16, h17, rfl, hX.ext hxd, own_ext hrow hxd, htys.ext hxd, own_ext hra hxd, fun j hj => own_ext (hG j hj) hxd, hGb, own_ext hgv hxd⟩, ?_⟩
   show mlen L i - ((q : Int) + 1).toNat < _
   rw [hm18]; simp [intOf]; omega
  try simp only [cs8] at c145
  have hq1 : q = mlen L i := by omega
  refine W.exit (W.seq (W.seq ?_))
  have hGl : (List.replicate (mlen L i) paO ++ [paM i]).length = mlen L i + 1 := by simp
  have hGs : Sl w 3 (.slice (some ⟨gG, 0, none⟩) (List.replicate (mlen L i) paO ++ [paM i]).length cG) (List.replicate (mlen L i) paO ++ [paM i]).length (pas (List.replicate (mlen L i) paO ++ [paM i])) := by rw [hGl, ← hGE]; exact Sl.own (hG i hi1)
  have hGc := Sl.paw hGs (k := mlen L i) (by rw [hGl]; omega)
  rw [List.getElem_append_right (by rw [List.length_replicate]; omega)] at hGc
  simp only [List.length_replicate, Nat.sub_self, List.getElem_cons_zero] at hGc
  have hgi : w.cell? ⟨gg, 0 + i * 1, none⟩ = some (.slice (some ⟨gG, 0, none⟩) (mlen L i + 1) cG) := by
   rw [Nat.zero_add, Nat.mul_one, ← hGE]
   exact own_cell (hgvE ▸ hgv) (by rw [List.getElem?_map, List.getElem?_range hi1]; rfl)
  refine W.region (WL.c rfl (o_mvh h14 (WL.c rfl (o_mvh h16 (WL.c rfl (o_ixB (i := i) TI57 TI48 (show _ = Value.slice (some ⟨gg, 0, none⟩) L.length cg from by first | rfl | assumption) (show _ = Value.int .i64 (i : Int) from by first | rfl | assumption) (by omega) (WL.c rfl (o_ld TI48 rfl rfl hgi (WL.c rfl (o_mvh h17 (WL.c rfl (o_ixB (i := mlen L i) TI48 TI52 (show _ = Value.slice (some ⟨gG, 0, none⟩) (mlen L i + 1) cG from rfl) (show _ = Value.int .i64 ((mlen L i : Nat) : Int) from by first | rfl | assumption) (by omega) (WL.c rfl (o_ldA TI52 rfl rfl hGc rfl (WL.c rfl (o_mvh h16 (WL.c rfl (o_bldC (cs := [(st [109, 111, 114, 101]), _, (.int .i64 0)]) TI52 (Sizes.cons TI9 (Sizes.cons TI3 (Sizes.cons TI3 Sizes.nil))) rfl (lcp (show _ = Value.string _ from rfl) (lcp vI lnp)) rfl rfl (WL.c rfl (o_neR TI52 (by kernel_rfl) (by kernel_rfl) rfl rfl (.str TI9 (by decide) rfl rfl (.int TI3 (by decide) rfl rfl (.int TI3 (by decide) rfl rfl .nil))) (WL.nil (W.condF' rfl (by simp [paM]) (W.skip (W.region (WL.c rfl (o_fa 0 TI34 rfl TI31 rfl h4 (WL.c rfl (o_ld TI31 rfl rfl (cell_of hX.c4 rfl) (WL.c rfl (o_mvh h16 (WL.c rfl (o_bldC (cs := [(.int .i64 55), (.int .i64 0), (.int .i64 0), (.slice none 0 0)]) TI50 (Sizes.cons TI3 (Sizes.cons TI3 (Sizes.cons TI3 (Sizes.cons TI48 Sizes.nil)))) rfl (lcp vI lnp) rfl rfl (WL.c rfl (o_ixB (i := i) TI31 TI50 (show _ = Value.slice (some ⟨ga, 0, none⟩) L.length ca from htva) (show _ = Value.int .i64 (i : Int) from by first | rfl | assumption) (by omega) (WL.u (o_stRA TI50 rfl (show 0 + i * 4 = i * 4 by omega) (show _ = Value.agg (tcell ⟨55, 0, 0, []⟩ (.slice none 0 0)).toArray from rfl) rfl rfl hrow hga (by omega) ?_))))))))))))))))))))))))))))))))))))
  intro w9 hr9 ho9 hs9
  have hxl := hrow.1
  replace hX := hX.only ho9 (fun b hb => .inl (hTa b hb))
  replace hra := own_only hra ho9 (fun b hb e => own_row_off hra hrow (by decide) b e hb)
  replace htys := htys.other hrow (by decide) ho9
  replace hG := fun j (hj : j < L.length) => own_only (hG j hj) ho9 (fun b hb e => own_row_off (hG j hj) hrow (by decide) b e hb)
  replace hgv := own_only hgv ho9 (fun b hb e => own_row_off hgv hrow (by decide) b e hb)
  replace hrow := hr9
  replace hxs : ∀ j, i + 1 ≤ j → j < L.length → (xs.take (i * 4) ++ (tcell ⟨55, 0, 0, []⟩ (.slice none 0 0)) ++ xs.drop (i * 4 + 4))[j * 4 + 3]? = some (Ua j) := fun j h1 h2 => by rw [row_skip rfl (by omega) (by omega) (by decide)]; exact hxs j (by omega) h2
  refine WL.nil (W.region (WL.c rfl (o_mvh h16 (WL.c rfl (o_addi rfl rfl (by omega) (WL.c rfl (o_ash vI (WL.nil (⟨⟨i + 1, _, by omega, h3, h4, h6, h8, h9, h10, h14.trans hgvE.symm, rfl, hX, hrow, hxs, htys, hra, hG, hGb, hgv⟩, ?_⟩)))))))))
  show L.length - ((i : Int) + 1).toNat < _
  rw [hm16]; simp [intOf]; omega
 try simp only [cs8] at c133
 have hi1 : i = L.length := by omega
 clear hxs
 refine W.exit (W.seq (W.region (WL.c rfl (o_fa 0 TI34 rfl TI31 rfl h4 (WL.c rfl (o_ld TI31 rfl rfl (cell_of hX.c4 rfl) (WL.c rfl (o_bldC (cs := [(.int .i64 56), (.int .i64 0), (.int .i64 0), (.slice none 0 0)]) TI50 (Sizes.cons TI3 (Sizes.cons TI3 (Sizes.cons TI3 (Sizes.cons TI48 Sizes.nil)))) rfl (lcp vI lnp) rfl rfl (WL.apO (H1) rfl rfl TI31 TI50 (show _ = Value.agg (tcell ⟨56, 0, 0, []⟩ (.slice none 0 0)).toArray from rfl) rfl hrow (by decide) (by decide) rfl (fun a ha => List.all_eq_true.1 (show List.all _ (fun a => a.oneCell') = true from rfl) a ha) rfl (by rw [maxLen_eq]; omega) (by omega) (by have h1 := hX.ow; have h2 := hX.o12; omega) ?_)))))))))
 intro v189 w189 hown189 ho189 hb189 _
 replace hown189 : w189.ownsRow H1 50 4 v189 (L.length + 1) (xs ++ tcell ⟨56, 0, 0, []⟩ (.slice none 0 0)) := hown189
 replace ho189 : Only (fun k => tva.ownBlock = some k) w w189 := ho189
 have hxl := hrow.1
 replace hX := hX.only ho189 (fun b hb => .inl (hTa b hb))
 replace hra := own_only hra ho189 (fun b hb e => own_row_off hra hrow (by decide) b e hb)
 clear hG hGb hgv htys
 refine WL.c rfl (o_ash (by first | exact vS | exact rfl) (WL.nil (W.seq (W.region (WL.c rfl (o_fa 1 TI34 rfl TI32 rfl h4 (WL.c rfl (o_ld TI32 rfl rfl (cell_of hX.c4 rfl) (WL.c rfl (o_bldC (cs := [(st [109, 111, 114, 101]), (.int .i64 0)]) TI47 (Sizes.cons TI9 (Sizes.cons TI3 Sizes.nil)) rfl (lcp (show _ = Value.string _ from rfl) lnp) rfl rfl (WL.apO (H1) rfl rfl TI32 TI47 (show _ = Value.agg (roV roM).toArray from rfl) rfl hra (by decide) (by decide) rfl (fun a ha => List.all_eq_true.1 (show List.all _ (fun a => a.oneCell') = true from rfl) a ha) rfl (by rw [maxLen_eq]; omega) (by omega) (by have h1 := hX.ow; have h2 := hX.o12; omega) ?_)))))))))))
 intro v194 w194 hown194 ho194 hb194 _
 replace ho194 : Only (fun k => rva.ownBlock = some k) w189 w194 := ho194
 replace hown194 : w194.ownsRow H1 47 2 v194 (R.length + 1) (ros (List.replicate R.length roO ++ R.drop R.length) ++ roV roM) := hown194
 have hrl := hra.1
 replace hX := hX.only ho194 (fun b hb => .inl (hRa b hb))
 replace hown189 := own_only hown189 ho194 (fun b hb e => own_row_off hown189 hra (by decide) b e hb)
 clear hra
 refine WL.c rfl (o_ash (by first | exact vS | exact rfl) (WL.nil (W.seq (W.region (WL.c rfl (o_ldA TI25 rfl h3 (show Cells _ b3 0 [kv] from Cells.of hX.c3 0 _ (by simp)) rfl (WL.c rfl (o_call Try.call8 (lc rfl ln) ((build_x D kv KW _ hX.din hlim hnb2 hL hR her hea).mono ?_)))))))))
 rintro v197 w197 ⟨tvc, rvc, Uc, rfl, hSc, hx197⟩
 have h1tc := own_one hSc.ty.row
 have h1rc := own_one hSc.ro
 replace hSc := hSc.rd
 replace hX := hX.ext hx197
 replace hown189 := own_ext hown189 hx197
 replace hown194 := own_ext hown194 hx197
 refine WL.c rfl (o_mvh (by first | exact (show _ = Value.tuple _ from rfl) | exact rfl) (WL.c rfl (o_ext rfl rfl (WL.c rfl (o_ext rfl rfl (WL.c rfl (o_alB TI34 ?_)))))))
 intro wa hC21 hxa hsa
 obtain ⟨b21, hb21⟩ : ∃ b, b = w197.heap.size := ⟨_, rfl⟩
 rw [← hb21] at hC21 ⊢
 replace hC21 : wa.heap[b21]? = some (.cells #[.slice none 0 0, .slice none 0 0] 34 (0, 0)) := hC21
 have hE : Ext w197 wa := hxa
 refine WL.c rfl (o_alB TI28 ?_)
 intro wb hC22 hxb hsb
 have hsE := hE.size
 obtain ⟨b22, hb22⟩ : ∃ b, b = wa.heap.size := ⟨_, rfl⟩
 rw [← hb22] at hC22 ⊢
 replace hC22 : wb.heap[b22]? = some (.cells #[.int .i64 0, .int .i64 0] 28 (0, 0)) := hC22
 replace hE := hE.tr hxb
 replace hC21 := hxb.blk hC21 (fun h => h)
 refine WL.u (o_stA TI34 rfl (show _ = Value.agg #[tvc, rvc] from rfl) rfl (by simp [h1tc, h1rc]) hC21 rfl ?_)
 intro wc hC21n ho hs
 replace hC22 := ho.blk hC22 (blk_ne3 hC22 hC21 (by decide))
 replace hE := hE.trans' ho (fun _ h => h) (fun b hb e => by omega)
 replace hC21 : wc.heap[b21]? = some (.cells #[tvc, rvc] 34 (0, 0)) := hC21n
 refine WL.u (o_stA TI28 rfl (show _ = Value.agg #[.int .i64 er, .int .i64 ea] from rfl) rfl rfl hC22 rfl ?_)
 intro wz22 hC22n ho hs
 replace hC21 := ho.blk hC21 (blk_ne3 hC21 hC22 (by decide))
 replace hE := hE.trans' ho (fun _ h => h) (fun b hb e => by omega)
 replace hC22 : wz22.heap[b22]? = some (.cells #[.int .i64 er, .int .i64 ea] 28 (0, 0)) := hC22n
 replace hX := hX.ext hE
 replace hSc := hSc.ext hE
 replace hown189 := own_ext hown189 hE
 replace hown194 := own_ext hown194 hE
 clear hE
 refine WL.nil (W.seq (W.region (WL.c rfl (o_ldA TI28 rfl rfl (show Cells _ b22 0 [.int .i64 er, .int .i64 ea] from Cells.of hC22 0 _ (by simp)) rfl (WL.c rfl (o_ldA TI28 rfl h9 (show Cells _ b9 0 [.int .i64 er, .int .i64 ea] from Cells.of hX.c9 0 _ (by simp)) rfl (WL.c rfl (o_eqR TI28 (by kernel_rfl) (by kernel_rfl) rfl rfl (.int TI26 (by decide) rfl rfl (.int TI3 (by decide) rfl rfl .nil)) (WL.c rfl (o_mvh vB (WL.g rfl (by simp) rfl (o_ldA TI34 rfl h6 (show Cells _ b6 0 [tvb, rvb] from Cells.of hX.c6 0 _ (by simp)) rfl (WL.g rfl (by simp) rfl (o_ldA TI34 rfl h8 (show Cells _ b8 0 [tvw, rvw] from Cells.of hX.c8 0 _ (by simp)) rfl (WL.g rfl (by simp) rfl (o_call Try.call13 (lc rfl (lc rfl ln)) ((same_A9 L R _ _ _ L R _ _ _ _ hX.sb hX.sw hok hok ⟨rfl, rfl⟩).mono ?_)))))))))))))))))
 rintro v206 w206 ⟨rfl, hx206⟩
 replace hX := hX.ext hx206
 replace hSc := hSc.ext hx206
 replace hC21 := hx206.blk hC21 (fun h => h)
 replace hown189 := own_ext hown189 hx206
 replace hown194 := own_ext hown194 hx206
 refine WL.c rfl (o_pickA rfl rfl (WL.c rfl (o_mvh vB (WL.g rfl (by simp) rfl (o_ldA TI34 rfl rfl (show Cells _ b21 0 [tvc, rvc] from Cells.of hC21 0 _ (by simp)) rfl (WL.g rfl (by simp) rfl (o_ldA TI34 rfl h8 (show Cells _ b8 0 [tvw, rvw] from Cells.of hX.c8 0 _ (by simp)) rfl (WL.g rfl (by simp) rfl (o_call Try.call13 (lc rfl (lc rfl ln)) ((same_A9 L R _ _ _ L R _ _ _ _ hSc hX.sw hok hok ⟨rfl, rfl⟩).mono ?_))))))))))
 rintro v211 w211 ⟨rfl, hx211⟩
 replace hX := hX.ext hx211
 replace hown189 := own_ext hown189 hx211
 replace hown194 := own_ext hown194 hx211
 obtain ⟨gx, cx, hvx, hgx⟩ := own_some hown189 (by omega)
 obtain ⟨gy, cy, hvy, hgy⟩ := own_some hown194 (by omega)
 refine WL.c rfl (o_pickA rfl rfl (WL.c rfl (o_mvh vB (WL.g rfl (by simp) rfl (o_mvh (by first | exact vS | exact rfl) (WL.g rfl (by simp) rfl (o_fa 0 TI34 rfl TI31 rfl h4 (WL.g rfl (by simp) rfl (o_ld TI31 rfl rfl (cell_of hX.c4 rfl) (WL.g rfl (by simp) rfl (o_len TI31 (show _ = Value.slice aT L.length cT from hTv) (WL.g rfl (by simp) rfl (o_ixB (i := L.length) TI31 TI50 (show _ = Value.slice (some ⟨gx, 0, none⟩) (L.length + 1) cx from hvx) rfl (by omega) (WL.g rfl (by simp) rfl (o_fa 0 TI50 rfl TI3 rfl rfl (WL.g rfl (by simp) rfl (o_ld TI3 rfl rfl (own_cell (j := 0 + L.length * 4 + 0) (hvx ▸ hown189) (by rw [Nat.zero_add]; exact mark_get hxl rfl)) (WL.g rfl (by simp) rfl (o_eq rfl rfl (WL.c rfl (o_pickA rfl rfl (WL.c rfl (o_mvh vB (WL.g rfl (by simp) rfl (o_mvh (by first | exact vS | exact rfl) (WL.g rfl (by simp) rfl (o_fa 1 TI34 rfl TI32 rfl h4 (WL.g rfl (by simp) rfl (o_ld TI32 rfl rfl (cell_of hX.c4 rfl) (WL.g rfl (by simp) rfl (o_len TI32 (show _ = Value.slice aR R.length cR from hRv) (WL.g rfl (by simp) rfl (o_ixB (i := R.length) TI32 TI47 (show _ = Value.slice (some ⟨gy, 0, none⟩) (R.length + 1) cy from hvy) rfl (by omega) (WL.g rfl (by simp) rfl (o_fa 0 TI47 rfl TI9 rfl rfl (WL.g rfl (by simp) rfl (o_ld TI9 rfl rfl (own_cell (j := 0 + R.length * 2 + 0) (hvy ▸ hown194) (by rw [Nat.zero_add]; exact mark_get hrl rfl)) (WL.g rfl (by simp) rfl (o_eqT rfl rfl (WL.c rfl (o_pickA rfl rfl (WL.c rfl (o_ash vB (WL.nil (W.ret (ret1v rfl vB ?_))))))))))))))))))))))))))))))))))))))))))))))
 exact ⟨congrArg Value.bool (by simp [roM]), hX.ex⟩
end Go.Proofs.Ytpbflfgigfdohaa

namespace Go.Proofs.Ytpbflfgigfdohaa
open Go Go.Vc Go.RowKit Go.Proofs

/-- its bulk is bounded -/
def Blk {H : Type} (d : DataW H) : Prop := Rows.uptoBulk d ≤ 1048576
theorem bulk_mem {H : Type} : ∀ {l : List (DataW H)} {d : DataW H}, d ∈ l → Rows.uptoBulk d ≤ Rows.uptoBulkAll l
 | d0 :: l, d, h => by
  rw [Rows.uptoBulkAll]
  rcases List.mem_cons.1 h with rfl | h
  ·omega
  have := bulk_mem h; omega
theorem bulk_pos {H : Type} (d : DataW H) : 1 ≤ Rows.uptoBulk d := by
 cases d with
 | lit x => cases x <;> simp [Rows.uptoBulk]
 | _ => simp [Rows.uptoBulk]
theorem bulk_len {H : Type} : ∀ l : List (DataW H), l.length ≤ Rows.uptoBulkAll l
 | [] => Nat.zero_le _
 | d :: l => by rw [Rows.uptoBulkAll, List.length_cons]; have := bulk_len l; have := bulk_pos d; omega
theorem Blk.elem {H : Type} {elems spare : List (DataW H)} {d : DataW H} (h : Blk (.slice elems spare)) (hd : d ∈ elems) : Blk d := by
 have := bulk_mem hd; unfold Blk at h ⊢; rw [Rows.uptoBulk] at h; omega
theorem Blk.part {H : Type} {parts : List (DataW H)} {i : Nat} {d : DataW H} (h : Blk (.agg parts)) (hd : parts[i]? = some d) : Blk d := by
 have := bulk_mem (List.mem_of_getElem? hd); unfold Blk at h ⊢; rw [Rows.uptoBulk] at h; omega
theorem Blk.size {H : Type} {elems spare : List (DataW H)} (h : Blk (.slice elems spare)) : elems.length ≤ 1048576 := by
 have := bulk_len elems; unfold Blk at h; rw [Rows.uptoBulk] at h; omega
section
variable {H : Type} {enc : TypeId × Value → H} {P : Program} {W : World} {held : Bool}
/-- a slice of what is opened by 'hc' -/
theorem open_rowsQ {α : Type} {t e : TypeId} (s : Nat) (cells : α → List Value) (p : α → Prop) (hu : P.underlying t = some (.slice e)) (hs : P.cellsOf e = s) (hs0 : 0 < s) (hlen : ∀ o, (cells o).length = s)
  (hc : ∀ (n : Nat) (cs : List Value) (y : DataW H × List MemPlace), DataW.trod enc P W 0 (fun _ => true) held n e cs = some y → Blk y.1 → ∃ o, cs = cells o ∧ p o)
  {fuel : Nat} {v : Value} {x : DataW H × List MemPlace} (h : DataW.trod enc P W 0 (fun _ => true) held fuel t [v] = some x) (hz : Blk x.1) :
  ∃ os : List α, os.length ≤ maxLen ∧ Sl W s v os.length (os.flatMap cells) ∧ ∀ o ∈ os, p o := by
 rcases DataW.trod_slice hu h with ⟨hcs, hd⟩ | ⟨a, len, cap, elems, rest, n, -, hcs, hx, -, hl, hm, hle, hel, -, -⟩
 ·simp only [List.cons.injEq, and_true] at hcs
  subst hcs
  exact ⟨[], Nat.zero_le _, Sl.nil W s, fun o h => by cases h⟩
 simp only [List.cons.injEq, and_true] at hcs
 subst hcs
 subst hx
 have key : ∀ i, i < len → ∃ o : α, (∀ j v, (cells o)[j]? = some v → W.cell? (a.add (i * s + j)) = some v) ∧ p o := by
  intro i hi
  have he := hel i hi
  rw [List.getElem?_eq_getElem (by omega), hs, Option.bind_eq_some_iff] at he
  obtain ⟨cs, h1, h2⟩ := he
  obtain ⟨-, h4, h5⟩ := World.cells?_some h1
  obtain ⟨o, ho, hp⟩ := hc n cs _ h2 (hz.elem (List.mem_map.2 ⟨_, List.getElem_mem (by omega), rfl⟩))
  subst ho
  refine ⟨o, fun j v hj => ?_, hp⟩
  have hjs : j < s := by have := (List.getElem?_eq_some_iff.1 hj).1; rw [hlen] at this; exact this
  have := h5 j hjs
  rw [← hj, ← this, addr_add]
 obtain ⟨os, ho1, ho2⟩ := list_of _ len key
 refine ⟨os, by omega, ⟨?_, ?_⟩, fun o ho => ?_⟩
 ·clear ho2 ho1
  induction os with
  | nil => simp
  | cons o os ih => rw [List.flatMap_cons, List.length_append, hlen, ih, List.length_cons, Nat.add_mul]; omega
 ·by_cases h0 : len = 0
  ·subst h0; exact .inl ⟨ho1, _, _, rfl⟩
  obtain ⟨b, off, spot⟩ := a
  have h00 := (ho2 0 (by omega)).1 0 ((cells (os[0]'(by omega)))[0]'(by rw [hlen]; exact hs0)) (List.getElem?_eq_getElem _)
  have hsp : spot = none := by simpa [Addr.add] using World.cell?_spot h00
  subst hsp
  refine .inr ⟨b, off, cap, by rw [ho1], by omega, fun idx u hu => ?_⟩
  obtain ⟨i, j, hi, h1, h2⟩ := flatMap_get hlen os idx u hu
  have h3 := (ho2 i hi).1 j u h2
  rw [h1, ← h3, add_none]
 obtain ⟨i, hi, rfl⟩ := List.getElem_of_mem ho
 exact (ho2 i hi).2
/-- a struct's field -/
theorem open_fieldQ {t u : TypeId} {fs : Array Field} {f : Field} (i off s : Nat) (hu : P.underlying t = some (.struct fs)) (hf : fs[i]? = some f) (ht : f.type = u) (ho : f.offset = off) (hs : P.cellsOf u = s) {fuel : Nat} {cs : List Value} {x : DataW H × List MemPlace}
  (h : DataW.trod enc P W 0 (fun _ => true) held fuel t cs = some x) (hz : Blk x.1) : ∃ n y, DataW.trod enc P W 0 (fun _ => true) held n u ((cs.drop off).take s) = some y ∧ Blk y.1 := by
 subst ht ho hs
 obtain ⟨xs, n, -, hx, -, hl, hall⟩ := DataW.trod_struct hu h
 have hi : i < fs.size := (Array.getElem?_eq_some_iff.1 hf).1
 have h1 := hall i f hf
 rw [List.getElem?_eq_getElem (by omega)] at h1
 refine ⟨n, _, h1, ?_⟩
 subst hx
 refine hz.part (i := i) ?_
 rw [List.getElem?_map, List.getElem?_eq_getElem (by omega)]; rfl

theorem rows_lenQ {t e : TypeId} (hu : P.underlying t = some (.slice e)) {fuel : Nat} {a : Option Addr} {n c : Nat} {x : DataW H × List MemPlace}
  (h : DataW.trod enc P W 0 (fun _ => true) held fuel t [.slice a n c] = some x) (hz : Blk x.1) : n ≤ 1048576 := by
 rcases DataW.trod_slice hu h with ⟨hcs, hd⟩ | ⟨a', len, cap, elems, rest, k, -, hcs, hx, -, hl, hm, hle, hel, -, -⟩
 ·simp only [List.cons.injEq, and_true, Value.slice.injEq] at hcs
  omega
 simp only [List.cons.injEq, and_true, Value.slice.injEq] at hcs
 subst hx
 have h1 := hz.size
 simp only [List.length_map, List.length_take] at h1
 omega
theorem open_exprQ {n : Nat} {cs : List Value} {y : DataW H × List MemPlace} (h : DataW.trod enc Try.prog W 0 (fun _ => true) held n 41 cs = some y) (hz : Blk y.1) : ∃ x : Ex, cs = exV x ∧ ExOk x := by
 have hl := open_struct_len (s := 7) Try.underlying41 (by kernel_rfl) h
 obtain ⟨a, b, c, d, e, f, g, rfl⟩ := seven_cells hl
 obtain ⟨n0, y0, h0, -⟩ := open_fieldQ 0 0 1 Try.underlying41 rfl rfl rfl (by kernel_rfl) h hz
 obtain ⟨n1, y1, h1, -⟩ := open_fieldQ 1 1 1 Try.underlying41 rfl rfl rfl (by kernel_rfl) h hz
 obtain ⟨n2, y2, h2, -⟩ := open_fieldQ 2 2 1 Try.underlying41 rfl rfl rfl (by kernel_rfl) h hz
 obtain ⟨n3, y3, h3, -⟩ := open_fieldQ 3 3 1 Try.underlying41 rfl rfl rfl (by kernel_rfl) h hz
 obtain ⟨n4, y4, h4, -⟩ := open_fieldQ 4 4 1 Try.underlying41 rfl rfl rfl (by kernel_rfl) h hz
 obtain ⟨n5, y5, h5, -⟩ := open_fieldQ 5 5 1 Try.underlying41 rfl rfl rfl (by kernel_rfl) h hz
 obtain ⟨n6, y6, h6, -⟩ := open_fieldQ 6 6 1 Try.underlying41 rfl rfl rfl (by kernel_rfl) h hz
 obtain ⟨k0, e0, -, -⟩ := DataW.trod_int Try.underlying3 h0
 obtain ⟨k1, e1, -, -⟩ := DataW.trod_int Try.underlying3 h1
 obtain ⟨k2, e2, -, l2⟩ := DataW.trod_string Try.underlying9 h2
 obtain ⟨k3, e3, -, l3⟩ := DataW.trod_string Try.underlying9 h3
 obtain ⟨k4, e4, -, -⟩ := DataW.trod_int Try.underlying3 h4
 obtain ⟨k5, e5, -, -⟩ := DataW.trod_int Try.underlying3 h5
 obtain ⟨k6, e6, -, -⟩ := DataW.trod_int Try.underlying3 h6
 simp only [List.drop_zero, List.drop_succ_cons, List.take_succ_cons, List.take_zero, List.cons.injEq, and_true] at e0 e1 e2 e3 e4 e5 e6
 refine ⟨⟨k0, k1, k2.data.toList, k3.data.toList, k4, k5, k6⟩, ?_, size_list l2, size_list l3⟩
 rw [e0, e1, e2, e3, e4, e5, e6, str_list, str_list]
 rfl

theorem open_exprsQ {n : Nat} {v : Value} {y : DataW H × List MemPlace} (h : DataW.trod enc Try.prog W 0 (fun _ => true) held n 37 [v] = some y) (hz : Blk y.1) :
  ∃ l : List Ex, Sl W 7 v l.length (exs l) ∧ l.length ≤ 1048576 ∧ ∀ x ∈ l, ExOk x := by
 obtain ⟨l, -, h1, h2⟩ := open_rowsQ 7 exV ExOk Try.underlying37 (by kernel_rfl) (by decide) (fun _ => rfl) (fun n cs y hy hz => open_exprQ hy hz) (v := v) h hz
 refine ⟨l, h1, ?_, h2⟩
 obtain ⟨a, c, rfl⟩ := h1.isSlice
 exact rows_lenQ Try.underlying37 h hz
def DfOkQ (W : World) (o : DfV) : Prop := Sl W 7 o.2 o.1.ty.length (exs o.1.ty) ∧ o.1.name.length ≤ 9223372036854775807 ∧ o.1.ty.length ≤ 1048576 ∧ ∀ x ∈ o.1.ty, ExOk x
theorem open_defQ {n : Nat} {cs : List Value} {y : DataW H × List MemPlace} (h : DataW.trod enc Try.prog W 0 (fun _ => true) held n 39 cs = some y) (hz : Blk y.1) : ∃ o : DfV, cs = dfV o ∧ DfOkQ W o := by
 have hl := open_struct_len (s := 3) Try.underlying39 (by kernel_rfl) h
 obtain ⟨a, b, c, rfl⟩ := three_cells hl
 obtain ⟨n0, y0, h0, -⟩ := open_fieldQ 0 0 1 Try.underlying39 rfl rfl rfl (by kernel_rfl) h hz
 obtain ⟨n1, y1, h1, -⟩ := open_fieldQ 1 1 1 Try.underlying39 rfl rfl rfl (by kernel_rfl) h hz
 obtain ⟨n2, y2, h2, z2⟩ := open_fieldQ 2 2 1 Try.underlying39 rfl rfl rfl (by kernel_rfl) h hz
 obtain ⟨k0, e0, -, l0⟩ := DataW.trod_string Try.underlying9 h0
 obtain ⟨k1, e1, -, -⟩ := DataW.trod_int Try.underlying3 h1
 obtain ⟨l, hS, hb, hok⟩ := open_exprsQ h2 z2
 simp only [List.drop_zero, List.drop_succ_cons, List.take_succ_cons, List.take_zero, List.cons.injEq, and_true] at e0 e1
 refine ⟨(⟨k0.data.toList, k1, l⟩, c), ?_, hS, size_list l0, hb, hok⟩
 rw [e0, e1, str_list]
 rfl
theorem open_sourceQ {n : Nat} {cs : List Value} {y : DataW H × List MemPlace} (h : DataW.trod enc Try.prog W 0 (fun _ => true) held n 25 cs = some y) (hz : Blk y.1) : ∃ D dv V, cs = [dv] ∧ DefR W D dv V ∧ DOk D ∧ (∀ d ∈ D, d.ty.length ≤ 1048576) ∧ D.length ≤ 1048576 := by
 have hl := open_struct_len (s := 1) Try.underlying25 (by kernel_rfl) h
 obtain ⟨a, rfl⟩ := List.length_eq_one_iff.1 hl
 obtain ⟨n0, y0, h0, z0⟩ := open_fieldQ 0 0 1 Try.underlying25 rfl rfl rfl (by kernel_rfl) h hz
 simp only [List.drop_zero, List.take_succ_cons, List.take_zero] at h0
 obtain ⟨os, -, h1, h2⟩ := open_rowsQ 3 dfV (DfOkQ W) Try.underlying23 (by kernel_rfl) (by decide) (fun _ => rfl) (fun n cs y hy hz => open_defQ hy hz) (v := a) h0 z0
 have hb : os.length * 48 ≤ 140737488351232 := by
  obtain ⟨b, c, rfl⟩ := h1.isSlice
  have := rows_lenQ Try.underlying23 h0 z0
  omega
 have hb2 : os.length ≤ 1048576 := by
  obtain ⟨b, c, rfl⟩ := h1.isSlice
  exact rows_lenQ Try.underlying23 h0 z0
 have hg : ∀ j (hj : j < os.length), (os.map Prod.fst).getD j df0 = os[j].1 := fun j hj => by simp [List.getD_eq_getElem?_getD, hj]
 have hr : drows (os.map Prod.fst) (fun j => (os.getD j (df0, undef)).2) = os.flatMap dfV := by
  rw [drows, List.length_map]
  have : ∀ (n : Nat), n ≤ os.length → ((List.range n).flatMap fun j => dcell ((os.map Prod.fst).getD j df0) ((os.getD j (df0, undef)).2)) = (os.take n).flatMap dfV := by
   intro n
   induction n with
   | zero => intro _; rfl
   | succ n ih =>
    intro hn
    rw [List.range_succ, List.flatMap_append, ih (by omega), List.flatMap_singleton, hg n hn, List.take_add_one, List.flatMap_append]
    simp [List.getD_eq_getElem?_getD, List.getElem?_eq_getElem (show n < os.length by omega), dfV]
  rw [this _ (Nat.le_refl _), List.take_length]
 refine ⟨os.map Prod.fst, a, fun j => (os.getD j (df0, undef)).2, rfl, ⟨?_, fun j hj => ?_⟩, ⟨by rw [List.length_map]; exact hb, ?_, ?_, ?_⟩, ?_, by rw [List.length_map]; exact hb2⟩
 ·rw [hr, List.length_map]; exact h1
 ·have hj' : j < os.length := by simpa using hj
  have := h2 os[j] (List.getElem_mem hj')
  rw [tyD, hg j hj']
  have e : (os.getD j (df0, undef)) = os[j] := by simp [List.getD_eq_getElem?_getD, hj']
  rw [e]
  exact this.1
 all_goals
  intro d hd
  obtain ⟨o, ho, rfl⟩ := List.mem_map.1 hd
  obtain ⟨-, g1, g2, g3⟩ := h2 o ho
  first | omega | exact g1 | exact g3
end

end Go.Proofs.Ytpbflfgigfdohaa
