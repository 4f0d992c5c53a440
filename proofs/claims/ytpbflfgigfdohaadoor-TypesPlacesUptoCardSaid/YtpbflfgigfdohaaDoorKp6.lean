/-
  Walks and lemmas. Written by program out of specs of mine.
-/
import Derived.WalkKit
import Derived.WalkSpells
import Derived.WalkLawsBesides
import Derived.Deep.Quiet
import Derived.StillTail
import Derived.StringKeys
import Derived.Laws.StructEq
import Derived.Laws.Externs
import Derived.Laws.Tables
import Derived.Scope
import Derived.Test.YtpbflfgigfdohaaDoorProg
import Derived.Laws.AppendOwn
import Derived.Maps.AppendAt
import Derived.Recover
import Derived.Lib.Bytealg
import Derived.SizedLaws
import Derived.ChangeArms
import Derived.ChangeSlices
import Derived.Maps.OwnSet
import Derived.Lib.Builder
import Derived.Lib.UnsafeStr
import Derived.Shelf.Strconv.Itoa0
import Derived.Shelf.Strconv.Itoa1
import Derived.Shelf.LaysM
import Derived.Shelf.Strconv.Itoa2
import Derived.Shelf.Strconv.Itoa3
import Derived.Test.YtpbflfgigfdohaaDoorRows
import Derived.ProofKit
import Derived.OpenShut
import Derived.ShutString
import Derived.ChangeOld
import Derived.Below
import Derived.JoinedCond
import Derived.SliceStrings
import Derived.Test.YtpbflfgigfdohaaDoorCards
import Derived.Test.YtpbflfgigfdohaaDoorTie
import Derived.Deep.DeepHandedRow
import Derived.Lib.LaidTab
import Derived.Test.YtpbflfgigfdohaaDoorKp5
set_option linter.unusedSimpArgs false
set_option linter.unusedVariables false
set_option maxRecDepth 100000
namespace Go.Proofs.YtpbflfgigfdohaaDoor
open Go Go.Vc Go.RowKit Go.Proofs

noncomputable def bldV (D : List Df) : Int × Int := (bldF D).getD (0, 0)
theorem bldV_of {D : List Df} {e a : Int} (h : bldF D = some (e, a)) : (bldV D).1 = e ∧ (bldV D).2 = a := by unfold bldV; rw [h]; exact ⟨rfl, rfl⟩
theorem bldV_no {D : List Df} (h : bldF D = none) : (bldV D).1 = 0 ∧ (bldV D).2 = 0 := by unfold bldV; rw [h]; exact ⟨rfl, rfl⟩
theorem bld_bad {D : List Df} {v : Int × Int} (h : bldF D = some v) : bldT D = [] ∧ bldR D = [] := by
 have hn : ¬ bldF D = none := by rw [h]; simp
 exact ⟨if_neg hn, if_neg hn⟩
theorem Schs.nil (w : World) (H : Nat) (U : Nat → Value) : Schs w H [] [] (.slice none 0 0) (.slice none 0 0) U := ⟨Typs.nil _ _ _, World.ownsRow_nil _ _ _ _⟩
theorem bnd_nz {D : List Df} {v : Int × Int} (h : bndF D = some v) : v.1 = 90 := by
 obtain ⟨i, hi, h1⟩ := firstN_some h
 obtain ⟨j, hj, h2⟩ := firstN_some h1
 unfold bndN at h2
 split at h2
 ·cases h2; rfl
 cases h2
theorem bndV_iff {D : List Df} : (bndV D).1 = 0 ↔ bndF D = none := by
 unfold bndV
 cases h : bndF D with
 | none => simp
 | some v =>
  have := bnd_nz h
  simp [this]
theorem bndV_some {D : List Df} (h : ¬ (bndV D).1 = 0) : bndF D = some ((bndV D).1, (bndV D).2) := by
 unfold bndV at h ⊢
 cases hb : bndF D with
 | none => rw [hb] at h; simp at h
 | some v => rfl
theorem bld_ck {D : List Df} (h : ¬ (chkS D).2.2 = 0) : bldF D = some (((chkS D).2.2 : Int), 0) := by unfold bldF; rw [if_neg h]
theorem bld_fA {D : List Df} (hc : (chkS D).2.2 = 0) {v : Int × Int} (h : fA D = some v) : bldF D = some v := by unfold bldF; rw [if_pos hc, h]; rfl
theorem bld_bnd {D : List Df} (hc : (chkS D).2.2 = 0) (hn : fA D = none) {v : Int × Int} (h : bndF D = some v) : bldF D = some v := by unfold bldF; rw [if_pos hc, hn, h]; rfl
theorem bfill {dv rv : Value} (h : rv.cells = #[rv]) : Instr.fill (([(0, 1), (1, 1), (2, 1), (3, 1)] : List (Nat × Nat)).toArray[·]?) (Value.agg #[.slice none 0 0, .slice none 0 0, .slice none 0 0, .slice none 0 0]).cells [(0, .agg #[dv]), (2, rv)] = some #[dv, .slice none 0 0, rv, .slice none 0 0] := by
 have h1 : (Value.agg #[dv]).cells = #[dv] := by simp [Value.cells]
 have hz : (Value.agg #[.slice none 0 0, .slice none 0 0, .slice none 0 0, .slice none 0 0]).cells = #[.slice none 0 0, .slice none 0 0, .slice none 0 0, .slice none 0 0] := by simp [Value.cells]
 rw [hz]
 simp [Instr.fill, h, h1]
theorem zvs_zero (n : Nat) : zvs n (fun _ => 0) = List.replicate n (.int .i64 0) := by
 unfold zvs
 rw [List.eq_replicate_iff]
 refine ⟨by simp, fun b hb => ?_⟩
 obtain ⟨j, -, rfl⟩ := List.mem_map.1 hb
 rfl
theorem zvs_set {n i : Nat} {v : Int} {f : Nat → Int} : (zvs n f).set i (.int .i64 v) = zvs n (upI f i v) := by
 apply List.ext_getElem?
 intro j
 rw [List.getElem?_set]
 by_cases hj : j < n
 ·rw [zvs_at hj, zvs_at hj]
  unfold upI
  by_cases e : i = j
  ·subst e
   rw [if_pos rfl, if_pos (by simpa [zvs] using hj), if_pos rfl]
  rw [if_neg e, if_neg (fun h => e h.symm)]
 have h1 : (zvs n f)[j]? = none := List.getElem?_eq_none (by simp [zvs]; omega)
 have h2 : (zvs n (upI f i v))[j]? = none := List.getElem?_eq_none (by simp [zvs]; omega)
 rw [h1, h2]
 by_cases e : i = j
 ·subst e
  rw [if_pos rfl, if_neg (by simpa [zvs] using hj)]
 rw [if_neg e]
theorem roV_all (r : Ro) : ∀ a ∈ roV r, a.oneCell' = true := by simp [roV, Value.oneCell', st]
theorem BS.rvc {wB w : World} {pb n rb rc : Nat} {dv rv : Value} {f : Nat → Int} {L : List Tp} {tv : Value} {U : Nat → Value} {lv : Value} {left : List Ex} (h : BS wB w pb dv rv n f L tv U lv left) (hr : rv = .slice (some ⟨rb, 0, none⟩) n rc) : w.cell? ⟨pb, 0 + 2, none⟩ = some (.slice (some ⟨rb, 0, none⟩) n rc) := by
 rw [← hr]; exact Wh h.cell rfl
theorem rooN_at9 {D : List Df} {f : Nat → Int} {q : Nat} (hq : q < D.length) : (rooN D f)[q]? = some ⟨D[q].name, f q⟩ := by
 unfold rooN
 rw [List.getElem?_map, List.getElem?_range hq]
 simp [List.getD_eq_getElem?_getD, hq]
theorem rooN_take {D : List Df} {f : Nat → Int} {q : Nat} (hq : q < D.length) : (rooN D f).take (q + 1) = (rooN D f).take q ++ [⟨D[q].name, f q⟩] := by
 rw [List.take_add_one, rooN_at9 hq]; rfl
theorem fA_of_flt {D : List Df} {er at_ : Int} (h : flt D = (er, at_)) (he : ¬ er = 0) : fA D = some (er, at_) := by
 cases hf : fA D with
 | none => exact absurd hf (flt_bad h he)
 | some v => rw [flt_some hf] at h; rw [h]

set_option maxHeartbeats 8000000 in
theorem build_spec (D : List Df) (dv : Value) (V : Nat → Value) (w0 : World) (hD : DefR w0 D dv V) (hlim : DOk D) (hnb : ∀ d ∈ D, d.ty.length ≤ 11453246122) : Ca Tryd.prog 5 #[.agg #[dv]] w0 (fun v w' => ∃ tv rv U, v = .tuple #[.agg #[tv, rv], .agg #[.int .i64 (bldV D).1, .int .i64 (bldV D).2]] ∧ Schs w' w0.heap.size (bldT D) (bldR D) tv rv U ∧ Ext w0 w') := by
 have hlen := hlim.len
 have hD00 := hD
 obtain ⟨fe, fa, hf⟩ : ∃ fe fa, flt D = (fe, fa) := ⟨_, _, rfl⟩
 refine Ca.of Tryd.func5 Tryd.ntmps5 rfl rfl (We (Wb (Wa rfl (o_boxB rfl ?_))))
 intro w1 hC1 hx1 hs1
 obtain ⟨b1, hb1⟩ : ∃ b, b = w0.heap.size := ⟨_, rfl⟩
 rw [← hb1] at hC1 ⊢
 replace hC1 : w1.heap[b1]? = some (.cells ([dv]).toArray 24 (0, 0)) := hC1
 have hx := hx1
 replace hD := hD.ext hx1
 refine Wa rfl (o_alB TI29 ?_)
 have hq2 := hx.size
 intro wb hC2 hxb hsb
 replace hx := hx.tr hxb
 replace hD := hD.ext hxb
 replace hC1 := hxb.blk hC1 (fun h => h)
 obtain ⟨c2, hc2⟩ : ∃ c, c = w1.heap.size := ⟨_, rfl⟩
 rw [← hc2] at hC2 ⊢
 replace hC2 : wb.heap[c2]? = some (.cells #[.slice none 0 0, .slice none 0 0] 29 (0, 0)) := hC2
 have hz2 : w0.heap.size ≤ c2 := by rw [hc2]; exact hq2
 clear hxb
 refine Wa rfl (o_alB TI32 ?_)
 have hq3 := hx.size
 intro wc hC3 hxb hsb
 replace hx := hx.tr hxb
 replace hD := hD.ext hxb
 replace hC1 := hxb.blk hC1 (fun h => h)
 replace hC2 := hxb.blk hC2 (fun h => h)
 obtain ⟨c3, hc3⟩ : ∃ c, c = wb.heap.size := ⟨_, rfl⟩
 rw [← hc3] at hC3 ⊢
 replace hC3 : wc.heap[c3]? = some (.cells #[.int .i64 0, .int .i64 0] 32 (0, 0)) := hC3
 have hz3 : w0.heap.size ≤ c3 := by rw [hc3]; exact hq3
 clear hxb
 refine Wc (We (We (Wb (Wa rfl (o_ldA TI24 rfl rfl (show Cells _ b1 0 [dv] from Cells.of hC1 0 _ (by simp)) rfl (Wa rfl (o_call Tryd.call12 (lc rfl ln) ((check_spec D dv V _ hD hlim.lim).mono ?_))))))))
 rintro v17 w17 ⟨rfl, hx17⟩
 rw [show rs3 (chkS D) = .tuple #[.int .i64 ((chkS D).1 : Int), .int .i64 ((chkS D).2.1 : Int), .int .i64 ((chkS D).2.2 : Int)] from rfl]
 replace hx := hx.tr hx17
 replace hD := hD.ext hx17
 replace hC1 := hx17.blk hC1 (fun h => h)
 replace hC2 := hx17.blk hC2 (fun h => h)
 replace hC3 := hx17.blk hC3 (fun h => h)
 refine Wa rfl (Wf (by first | exact (show _ = Value.tuple _ from rfl) | exact rfl) (Wa rfl (o_ext rfl rfl (Wa rfl (o_ext rfl rfl (Wa rfl (o_ext rfl rfl (Wa rfl (Wg vI (Wa rfl (Wg vI (Wa rfl (Wg vI (Wc (We (Wb (Wa rfl (Wf vI (Wa rfl (o_ne rfl rfl (Wc (Wn rfl (fun c22 => ?_) (fun c22 => ?_)))))))))))))))))))))))
 ·try simp only [cs8] at c22
  have hck : ¬ (chkS D).2.2 = 0 := by intro h; simp [h] at c22
  have hb := bld_ck hck
  refine We ?_
  skip
  skip
  refine Wb (Wa rfl (o_bldC (cs := [(.slice none 0 0), (.slice none 0 0)]) TI29 (Sizes.cons TI26 (Sizes.cons TI27 Sizes.nil)) rfl lnp rfl rfl (Wa rfl (Wf vI (Wa rfl (o_bldC (cs := [_, (.int .i64 0)]) TI32 (Sizes.cons TI30 (Sizes.cons TI3 Sizes.nil)) rfl (lcp vI lnp) rfl rfl (WL.u (o_stA TI29 rfl (show _ = Value.agg #[.slice none 0 0, .slice none 0 0] from rfl) rfl rfl hC2 rfl ?_))))))))
  intro wy hC2y hoy hsy
  replace hC3 := hoy.blk hC3 (blk_ne3 hC3 hC2 (by decide))
  replace hx := hx.trans' hoy (fun _ h => h) (fun b hb he => by omega)
  refine WL.u (o_stA TI32 rfl (show _ = Value.agg #[.int .i64 ((chkS D).2.2 : Int), .int .i64 0] from rfl) rfl rfl hC3 rfl ?_)
  intro wz hC3z hoz hsz
  replace hC2y := hoz.blk hC2y (blk_ne3 hC2y hC3 (by decide))
  replace hx := hx.trans' hoz (fun _ h => h) (fun b hb he => by omega)
  refine Wc (Wm (retAA rfl TI29 rfl TI32 rfl rfl rfl (show Cells _ c2 0 [.slice none 0 0, .slice none 0 0] from Cells.of hC2y 0 _ (by simp)) rfl (show Cells _ c3 0 [.int .i64 ((chkS D).2.2 : Int), .int .i64 0] from Cells.of hC3z 0 _ (by simp)) rfl ?_))
  obtain ⟨hv1, hv2⟩ := bldV_of hb
  refine ⟨.slice none 0 0, .slice none 0 0, fun _ => undef, by rw [hv1, hv2], ?_, hx⟩
  rw [(bld_bad hb).1, (bld_bad hb).2]
  exact Schs.nil _ _ _
 try simp only [cs8] at c22
 have hck : (chkS D).2.2 = 0 := by
  have h1 : ((chkS D).2.2 : Int) = 0 := by simpa using c22
  omega
 refine Wp (We (Wb (Wa rfl (o_ldA TI24 rfl rfl (show Cells _ b1 0 [dv] from Cells.of hC1 0 _ (by simp)) rfl (Wa rfl (o_call Tryd.call13 (lc rfl ln) ((order_call D dv V _ hD hlim hf).mono ?_)))))))
 rintro v28 w28 ⟨o1, rfl, ho1, hx28⟩
 replace ho1 := own_mono ho1 hx.size
 replace hx := hx.tr hx28
 replace hD := hD.ext hx28
 replace hC1 := hx28.blk hC1 (fun h => h)
 replace hC2 := hx28.blk hC2 (fun h => h)
 replace hC3 := hx28.blk hC3 (fun h => h)
 have hz28 := hx.size
 have hl3 := blk_lt3 hC3
 refine Wa rfl (Wf (by first | exact (show _ = Value.tuple _ from rfl) | exact rfl) (Wa rfl (o_ext rfl rfl (Wa rfl (o_ext rfl rfl (Wa rfl (o_alB TI32 ?_)))))))
 intro wa hCa hxa hsa
 refine Wa rfl (Wg (by first | exact vS | exact rfl) (WL.u (o_stA TI32 rfl (show _ = Value.agg ([.int .i64 fe, .int .i64 fa]).toArray from rfl) rfl rfl hCa rfl ?_)))
 intro wb8 hC8 hob hsb
 have hxb := Ext.own hxa (Nat.le_refl _) hob
 obtain ⟨b8, hb8⟩ : ∃ b, b = w28.heap.size := ⟨_, rfl⟩
 rw [← hb8] at hC8 ⊢
 clear hCa hxa hsa hob hsb
 replace hx := hx.tr hxb
 replace hD := hD.ext hxb
 replace hC1 := hxb.blk hC1 (fun h => h)
 replace hC2 := hxb.blk hC2 (fun h => h)
 replace hC3 := hxb.blk hC3 (fun h => h)
 replace ho1 := Wr ho1 hxb
 have hz8 : w0.heap.size ≤ b8 := by rw [hb8]; exact hz28
 have hc38 : ¬ c3 = b8 := by rw [hb8]; omega
 clear hxb
 refine Wc (We (We ?_))
 by_cases hfe : fe = 0
 ·skip
  have hfn : fA D = none := flt_good hf hfe
  have hG := good_of hfn
  refine Wb (Wa rfl (Wl 0 TI32 rfl TI30 rfl rfl (Wa rfl (Wk TI30 rfl rfl (Wh hC8 rfl) (Wa rfl (o_eq rfl rfl (Wc (W.condT' rfl (by simp [hfe]) ?_))))))))
  skip
  skip
  refine Wb (Wa rfl (o_ldA TI24 rfl rfl (show Cells _ b1 0 [dv] from Cells.of hC1 0 _ (by simp)) rfl (Wa rfl (o_call Tryd.call14 (lc rfl ln) ((bounds_spec D dv V _ hD hlim).mono ?_)))))
  rintro v35 w35 ⟨rfl, hx35⟩
  replace hx := hx.tr hx35
  replace hD := hD.ext hx35
  replace hC1 := hx35.blk hC1 (fun h => h)
  replace hC2 := hx35.blk hC2 (fun h => h)
  replace hC3 := hx35.blk hC3 (fun h => h)
  replace hC8 := hx35.blk hC8 (fun h => h)
  replace ho1 := Wr ho1 hx35
  refine WL.u (o_stA TI32 rfl (show _ = Value.agg #[.int .i64 (bndV D).1, .int .i64 (bndV D).2] from rfl) rfl rfl hC8 rfl ?_)
  intro w8n hC8n ho8n hs8n
  replace hC1 := ho8n.blk hC1 (blk_ne3 hC1 hC8 (by decide))
  replace hC2 := ho8n.blk hC2 (blk_ne3 hC2 hC8 (by decide))
  replace hC3 := ho8n.blk hC3 hc38
  replace ho1 := own_only ho1 ho8n (fun k hk e => own_off ho1 hC8 (by decide) (e ▸ hk))
  replace hx := hx.trans' ho8n (fun _ h => h) (fun b hb he => by omega)
  replace hD := hD00.ext hx
  obtain ⟨ge, hge⟩ : ∃ x, x = (bndV D).1 := ⟨_, rfl⟩
  obtain ⟨ga, hga⟩ : ∃ x, x = (bndV D).2 := ⟨_, rfl⟩
  replace hC8 : w8n.heap[b8]? = some (.cells #[.int .i64 ge, .int .i64 ga] 32 (0, 0)) := by rw [hge, hga]; exact hC8n
  refine Wc (We (We (Wb (Wa rfl (Wl 0 TI32 rfl TI30 rfl rfl (Wa rfl (Wk TI30 rfl rfl (Wh hC8 rfl) (Wa rfl (o_ne rfl rfl (Wc (Wn rfl (fun c38 => ?_) (fun c38 => ?_))))))))))))
  ·try simp only [cs8] at c38
   have hne : ¬ ge = 0 := by simpa using c38
   rw [hge] at hne
   have hb : bldF D = some (ge, ga) := by rw [hge, hga]; exact bld_bnd hck hfn (bndV_some hne)
   refine We ?_
   skip
   skip
   refine W.cut (fun e1 w1 => e1 2 = .pointer (some ⟨c2, 0, none⟩) ∧ e1 3 = .pointer (some ⟨c3, 0, none⟩) ∧ w1.heap[c2]? = some (.cells #[.slice none 0 0, .slice none 0 0] 29 (0, 0)) ∧ w1.heap[c3]? = some (.cells #[.int .i64 ge, .int .i64 ga] 32 (0, 0)) ∧ Ext w0 w1) ?_ ?_
   ·-- region 8
    refine W.enum rfl ?_
    have hd := Only.drew w8n
    replace hC2 := hd.blk hC2 (fun h => h)
    replace hC3 := hd.blk hC3 (fun h => h)
    replace hC8 := hd.blk hC8 (fun h => h)
    replace hx := hx.tr hd
    clear hd
    generalize w8n.drew = wd at *
    refine WA.step (r := [0, 1]) (by kernel_rfl) (by decide) (all2 ?_ ?_)
    ·skip
     refine WO.c rfl rfl (o_bldC (cs := [(.slice none 0 0), (.slice none 0 0)]) TI29 (Sizes.cons TI26 (Sizes.cons TI27 Sizes.nil)) rfl lnp rfl rfl (WA.step (r := [1, 2]) (by kernel_rfl) (by decide) (all2 ?_ ?_)))
     ·skip
      refine WO.c rfl rfl (o_ldA TI32 rfl rfl (show Cells _ b8 0 [.int .i64 ge, .int .i64 ga] from Cells.of hC8 0 _ (by simp)) rfl (WA.step (r := [2]) (by kernel_rfl) (by decide) (all1 (WO.u rfl (o_stA TI29 rfl (show _ = Value.agg #[.slice none 0 0, .slice none 0 0] from rfl) rfl rfl hC2 rfl ?_)))))
      intro wy hC2y hoy hsy
      replace hC3 := hoy.blk hC3 (blk_ne3 hC3 hC2 (by decide))
      replace hC8 := hoy.blk hC8 (blk_ne3 hC8 hC2 (by decide))
      replace hx := hx.trans' hoy (fun _ h => h) (fun b hb he => by omega)
      replace hC2 : wy.heap[c2]? = some (.cells #[.slice none 0 0, .slice none 0 0] 29 (0, 0)) := hC2y
      refine WA.step (r := [3]) (by kernel_rfl) (by decide) (all1 (WO.u rfl (o_stA TI32 rfl (show _ = Value.agg #[.int .i64 ge, .int .i64 ga] from rfl) rfl rfl hC3 rfl ?_)))
      intro wz hC3z hoz hsz
      replace hC2 := hoz.blk hC2 (blk_ne3 hC2 hC3 (by decide))
      replace hx := hx.trans' hoz (fun _ h => h) (fun b hb he => by omega)
      replace hC3 : wz.heap[c3]? = some (.cells #[.int .i64 ge, .int .i64 ga] 32 (0, 0)) := hC3z
      refine WA.done (by kernel_rfl) ?_
      exact ⟨rfl, rfl, hC2, hC3, hx⟩
     skip
     refine WO.u rfl (o_stA TI29 rfl (show _ = Value.agg #[.slice none 0 0, .slice none 0 0] from rfl) rfl rfl hC2 rfl ?_)
     intro wy hC2y hoy hsy
     replace hC3 := hoy.blk hC3 (blk_ne3 hC3 hC2 (by decide))
     replace hC8 := hoy.blk hC8 (blk_ne3 hC8 hC2 (by decide))
     replace hx := hx.trans' hoy (fun _ h => h) (fun b hb he => by omega)
     replace hC2 : wy.heap[c2]? = some (.cells #[.slice none 0 0, .slice none 0 0] 29 (0, 0)) := hC2y
     refine WA.step (r := [1]) (by kernel_rfl) (by decide) (all1 (WO.c rfl rfl (o_ldA TI32 rfl rfl (show Cells _ b8 0 [.int .i64 ge, .int .i64 ga] from Cells.of hC8 0 _ (by simp)) rfl (WA.step (r := [3]) (by kernel_rfl) (by decide) (all1 (WO.u rfl (o_stA TI32 rfl (show _ = Value.agg #[.int .i64 ge, .int .i64 ga] from rfl) rfl rfl hC3 rfl ?_)))))))
     intro wz hC3z hoz hsz
     replace hC2 := hoz.blk hC2 (blk_ne3 hC2 hC3 (by decide))
     replace hx := hx.trans' hoz (fun _ h => h) (fun b hb he => by omega)
     replace hC3 : wz.heap[c3]? = some (.cells #[.int .i64 ge, .int .i64 ga] 32 (0, 0)) := hC3z
     refine WA.done (by kernel_rfl) ?_
     exact ⟨rfl, rfl, hC2, hC3, hx⟩
    skip
    refine WO.c rfl rfl (o_ldA TI32 rfl rfl (show Cells _ b8 0 [.int .i64 ge, .int .i64 ga] from Cells.of hC8 0 _ (by simp)) rfl (WA.step (r := [0]) (by kernel_rfl) (by decide) (all1 (WO.c rfl rfl (o_bldC (cs := [(.slice none 0 0), (.slice none 0 0)]) TI29 (Sizes.cons TI26 (Sizes.cons TI27 Sizes.nil)) rfl lnp rfl rfl (WA.step (r := [2]) (by kernel_rfl) (by decide) (all1 (WO.u rfl (o_stA TI29 rfl (show _ = Value.agg #[.slice none 0 0, .slice none 0 0] from rfl) rfl rfl hC2 rfl ?_)))))))))
    intro wy hC2y hoy hsy
    replace hC3 := hoy.blk hC3 (blk_ne3 hC3 hC2 (by decide))
    replace hC8 := hoy.blk hC8 (blk_ne3 hC8 hC2 (by decide))
    replace hx := hx.trans' hoy (fun _ h => h) (fun b hb he => by omega)
    replace hC2 : wy.heap[c2]? = some (.cells #[.slice none 0 0, .slice none 0 0] 29 (0, 0)) := hC2y
    refine WA.step (r := [3]) (by kernel_rfl) (by decide) (all1 (WO.u rfl (o_stA TI32 rfl (show _ = Value.agg #[.int .i64 ge, .int .i64 ga] from rfl) rfl rfl hC3 rfl ?_)))
    intro wz hC3z hoz hsz
    replace hC2 := hoz.blk hC2 (blk_ne3 hC2 hC3 (by decide))
    replace hx := hx.trans' hoz (fun _ h => h) (fun b hb he => by omega)
    replace hC3 : wz.heap[c3]? = some (.cells #[.int .i64 ge, .int .i64 ga] 32 (0, 0)) := hC3z
    refine WA.done (by kernel_rfl) ?_
    exact ⟨rfl, rfl, hC2, hC3, hx⟩
   rintro e w ⟨h2, h3, hC2y, hC3z, hx⟩
   refine Wm (retAA rfl TI29 rfl TI32 rfl h2 h3 (show Cells _ c2 0 [.slice none 0 0, .slice none 0 0] from Cells.of hC2y 0 _ (by simp)) rfl (show Cells _ c3 0 [.int .i64 ge, .int .i64 ga] from Cells.of hC3z 0 _ (by simp)) rfl ?_)
   obtain ⟨hv1, hv2⟩ := bldV_of hb
   refine ⟨.slice none 0 0, .slice none 0 0, fun _ => undef, by rw [hv1, hv2], ?_, hx⟩
   rw [(bld_bad hb).1, (bld_bad hb).2]
   exact Schs.nil _ _ _
  try simp only [cs8] at c38
  have hbn : bndF D = none := bndV_iff.1 (by rw [← hge]; simpa using c38)
  refine Wp (We ?_)
  obtain ⟨wd, hwd⟩ : ∃ wd, wd = w8n.drew := ⟨_, rfl⟩
  have hxd : Ext w8n wd := hwd ▸ Only.drew w8n
  replace hx := hx.tr hxd
  replace hD := hD.ext hxd
  replace hC1 := hxd.blk hC1 (fun h => h)
  replace hC2 := hxd.blk hC2 (fun h => h)
  replace hC3 := hxd.blk hC3 (fun h => h)
  replace ho1 := Wr ho1 hxd
  rw [ordR_ok hfn] at ho1
  have h256 := hG.trd.n
  obtain ⟨hto, htl⟩ := hG.ord
  have hbl : bldF D = none := bldF_none.2 ⟨hck, hfn, hbn⟩
  have hzd : w0.heap.size ≤ wd.heap.size := hx.size
  have ho1l : ∀ k, o1.ownBlock = some k → k < wd.heap.size := fun k hk => (ho1.lt k hk).2
  refine W.drawT 5 (Ext) [(1, fun v _ => v = _), (2, fun v _ => v = _), (3, fun v _ => v = _), (7, fun v _ => v = (o1))] rfl (by kernel_rfl) (Only.refl No) (fun _ _ _ h k => h.trans k) ⟨Mono.eq, Mono.eq, Mono.eq, Mono.eq, trivial⟩ ⟨rfl, rfl, rfl, rfl, trivial⟩ (WD.p rfl (fun e w hR hh => by obtain ⟨h1, -⟩ := hh; rw [← hwd] at hR; exact SG.n (o_ldA TI24 rfl h1 (show Cells _ b1 0 [dv] from Cells.of (hR.blk hC1 (fun h => h)) 0 _ (by simp)) rfl ⟨rfl, Only.refl No _⟩)) (WD.p rfl (fun e w hR hh => by obtain ⟨h1, -⟩ := hh; exact SG.n (Wl 0 TI24 rfl TI22 rfl h1 ⟨rfl, Only.refl No _⟩)) (WD.p rfl (fun e w hR hh => by obtain ⟨h42, -⟩ := hh; rw [← hwd] at hR; exact SG.n (Wk TI22 rfl h42 (Wh (hR.blk hC1 (fun h => h)) rfl) ⟨rfl, Only.refl No _⟩)) (WD.p rfl (fun e w hR hh => by obtain ⟨h43, -⟩ := hh; rw [← hwd] at hR; exact SG.n (Ws TI22 h43 (hD.ext hR).row ⟨rfl, Only.refl No _⟩)) (WD.q (fun v w => w.ownsRow wd.heap.size 3 1 v D.length (zvs D.length (fun _ => 0))) (fun v w w2 hR hh => Wr hh hR) rfl (fun e w hR hh => by obtain ⟨h44, -⟩ := hh; rw [← hwd] at hR; exact SG.n (o_mk2 TI57 TI3 (l := D.length) (n := D.length) h44 h44 (Nat.le_refl _) (by omega) (by omega) ⟨by rw [zvs_zero]; exact own_mono (own_made1 rfl (Nat.le_refl _) (by omega)) hR.size, Only.alloc w _⟩)) ?_)))))
  rintro e w hR ⟨h45, h44, h43, h42, h41, h1, h2, h3, h7, -⟩
  rw [← hwd] at hR
  replace hx := hx.tr hR
  replace hD := hD.ext hR
  replace hC1 := hR.blk hC1 (fun h => h)
  replace hC2 := hR.blk hC2 (fun h => h)
  replace hC3 := hR.blk hC3 (fun h => h)
  replace ho1 := Wr ho1 hR
  obtain ⟨rv, hrv⟩ : ∃ v, v = e 45 := ⟨_, rfl⟩
  rw [← hrv] at h45
  have hrvl : ∀ k, rv.ownBlock = some k → wd.heap.size ≤ k := fun k hk => (h45.lt k hk).1
  have hq47 := hx.size
  refine Wa rfl (o_bld (cells := #[dv, .slice none 0 0, rv, .slice none 0 0]) (vs := [(0, .agg #[dv]), (2, rv)]) TI63 (Sizes.cons TI24 (Sizes.cons TI26 (Sizes.cons TI57 (Sizes.cons TI36 Sizes.nil)))) (lcp h41 (lcp hrv.symm lnp)) (bfill (own_cells h45)) (Wa rfl (o_boxB rfl ?_)))
  intro w47 hC47 hx47 hs47
  obtain ⟨b47, hb47⟩ : ∃ b, b = w.heap.size := ⟨_, rfl⟩
  rw [← hb47] at hC47 ⊢
  replace hC47 : w47.heap[b47]? = some (.cells ([dv, .slice none 0 0, rv, .slice none 0 0]).toArray 63 (0, 0)) := hC47
  replace hx := hx.tr hx47
  replace hD := hD.ext hx47
  replace hC1 := hx47.blk hC1 (fun h => h)
  replace hC2 := hx47.blk hC2 (fun h => h)
  replace hC3 := hx47.blk hC3 (fun h => h)
  replace ho1 := Wr ho1 hx47
  replace h45 := Wr h45 hx47
  have hz47 : w0.heap.size ≤ b47 := by rw [hb47]; exact hq47
  refine Wa rfl (Wg (by first | exact (show _ = Value.pointer _ from rfl) | exact rfl) (Wc (We (We (Wb (Wa rfl (Wf h7 (Wa rfl (Ws TI57 rfl (Sl.own ho1) (Wa rfl (Wf vI (Wc (W.block (W.loop (fun e w => ∃ (k : Nat) (tv : Value) (U : Nat → Value) (lv : Value) (left : List Ex), k ≤ (ordN D).length ∧ e 1 = .pointer (some ⟨b1, 0, none⟩) ∧ e 2 = .pointer (some ⟨c2, 0, none⟩) ∧ e 3 = .pointer (some ⟨c3, 0, none⟩) ∧ e 9 = .pointer (some ⟨b47, 0, none⟩) ∧ e 48 = o1 ∧ e 49 = .int .i64 ((ordN D).length : Int) ∧ e 50 = .int .i64 (k : Int) ∧ BS w0 w b47 dv rv D.length (mkS D k).1 (mkS D k).2 tv U lv left ∧ w.ownsRow w0.heap.size 3 1 o1 (ordN D).length ((ordN D).map iv) ∧ w.heap[b1]? = some (.cells #[dv] 24 (0, 0)) ∧ w.heap[c2]? = some (.cells #[.slice none 0 0, .slice none 0 0] 29 (0, 0)) ∧ w.heap[c3]? = some (.cells #[.int .i64 0, .int .i64 0] 32 (0, 0)) ∧ (mkS D k).2.length ≤ k * 11453246122) (fun e w => (ordN D).length - (intOf (e 50)).toNat) ?_ ?_))))))))))))))
  ·exact ⟨0, .slice none 0 0, fun _ => undef, .slice none 0 0, [], Nat.zero_le _, h1, h2, h3, rfl, rfl, rfl, rfl, ⟨hC47, Typs.nil _ _ _, own_mono h45 hzd, Sl.nil _ _, hx, hz47⟩, ho1, hC1, hC2, hC3, Nat.zero_le _⟩
  rintro e w ⟨k, tv, U, lv, left, hk, h1, h2, h3, h9, h48, h49, h50, hS, ho1, hC1, hC2, hC3, hln⟩
  have hm50 := h50
  refine We (Wb (Wa rfl (o_lt h50 h49 (Wc (We (Wn rfl (fun c51 => ?_) (fun c51 => ?_)))))))
  ·try simp only [cs8] at c51
   have hk1 : k < (ordN D).length := by omega
   have hi : (ordN D)[k] < D.length := hto.lt _ (List.getElem_mem hk1)
   obtain ⟨ub, uo, uc, hV, hcell⟩ := Sl.at1 (Sl.own ho1) hk1 (u := iv (ordN D)[k]) (by rw [List.getElem?_map, List.getElem?_eq_getElem hk1]; rfl)
   rw [hV] at h48
   obtain ⟨i, hie⟩ : ∃ i, i = (ordN D)[k] := ⟨_, rfl⟩
   rw [← hie] at hi hcell
   have hDk := hD00.ext hS.ex
   obtain ⟨gb, go, gc, hdv, hgc, hty⟩ := hDk.atk hi
   have hC1s := hC1
   rw [hdv] at hC1s
   have hlf : Sl w0 7 (V i) ((TD D i).flat ++ []).length (exs ((TD D i).flat ++ [])) := by rw [List.append_nil, hG.trd.fl i hi]; exact hD00.tys i hi
   refine Wp (We (W.block (We (Wb (Wa rfl (Wt (i := k) TI57 TI3 h48 h50 (by omega) (Wa rfl (Wk TI3 rfl rfl (show World.cell? _ _ = some (.int .i64 (i : Int)) from hcell) (Wa rfl (Wg vI (Wc (We ?_))))))))))))
   have hScell := hS.cell
   have hSoff : ∀ {c : Nat} {cs : Array Value} {T : TypeId} {fr : Nat × Nat}, w.heap[c]? = some (.cells cs T fr) → ¬ T = 63 → ¬ c = b47 := fun hc hT => blk_ne3 hc hScell hT
   refine Wb (Wa rfl (Wf h9 (Wa rfl (Wl 0 TI24 rfl TI22 rfl h1 (Wa rfl (Wk TI22 rfl rfl (Wh hC1s rfl) (Wa rfl (Wf vI (Wa rfl (Wt (i := i) TI22 TI38 (show _ = Value.slice (some ⟨gb, go, none⟩) D.length gc from rfl) (show _ = Value.int .i64 (i : Int) from rfl) (by omega) (Wa rfl (Wl 2 TI38 rfl TI36 rfl rfl (Wa rfl (Wk TI36 rfl rfl (hgc 2 _ rfl) (Wa rfl (o_nil rfl (Wa rfl (Wl 3 TI63 rfl TI36 rfl rfl (WL.u (o_stB TI36 rfl (show _ = V i from rfl) (sl_one1 hty) hS.cell (show 3 < 4 by decide) ?_))))))))))))))))))))
   intro w62 hB62 ho62 hs62
   replace hS := hS.left hB62 ho62 hlf
   replace ho1 := own_only ho1 ho62 (fun k hk e => by subst e; exact own_off ho1 hScell (by decide) hk)
   replace hC1 := ho62.blk hC1 (fun e => (hSoff hC1 (by decide) e).elim)
   replace hC2 := ho62.blk hC2 (fun e => (hSoff hC2 (by decide) e).elim)
   replace hC3 := ho62.blk hC3 (fun e => (hSoff hC3 (by decide) e).elim)
   refine Wc ?_
   obtain ⟨wq, hwq⟩ : ∃ wq, wq = w62.drew := ⟨_, rfl⟩
   have hxq : Ext w62 wq := hwq ▸ Only.drew w62
   replace hS := hS.ext hxq
   replace ho1 := Wr ho1 hxq
   replace hC1 := hxq.blk hC1 (fun h => h)
   replace hC2 := hxq.blk hC2 (fun h => h)
   replace hC3 := hxq.blk hC3 (fun h => h)
   have hwf := hG.trd.wf i hi
   have hfl := hG.trd.fl i hi
   rw [tyD_at hi] at hfl
   have hflen : (TD D i).flat.length ≤ 11453246122 := by rw [hfl]; exact hnb _ (List.getElem_mem hi)
   obtain ⟨r, hr⟩ : ∃ r, r = mkT (fun nm => (mkS D k).1 (whD D nm)) (TD D i) (mkS D k).2 := ⟨_, rfl⟩
   have hcall := fun w9 (hR : Ext wq w9) => bexpr_all w0 b47 D dv rv V (mkS D k).1 2932031007402 hD00 hlen (Nat.le_refl _) _ (TD D i) (Nat.le_refl _) [] (mkS D k).2 tv U (V i) 0 0 w9 hwf (hS.ext hR) (fun x hx h9 => hG.kn _ (List.getElem_mem hi) x (by rw [← hfl]; exact hx) h9) (fun x hx => hlim.ex _ (List.getElem_mem hi) x (by rw [← hfl]; exact hx)) (by have := h256; omega) (by rw [List.append_nil, hfl]; exact hlim.ty _ (List.getElem_mem hi))
   rw [← hr] at hcall
   have hrl : r.2.length ≤ (mkS D k).2.length + (TD D i).flat.length := by
    obtain ⟨M, hM, hMl⟩ := mkT_pre (fun nm => (mkS D k).1 (whD D nm)) (TD D i) (mkS D k).2 (wf_leafy _ _ _ hwf)
    have hcn : cntN (TD D i).flat ≤ (TD D i).flat.length := List.length_filter_le _ _
    rw [hr, hM, List.length_append]; omega
   obtain ⟨rb, rc, hrvE, hrvb⟩ := own_some hS.ro (by omega)
   refine W.states (fun kS e w => match kS with | 0 => e 1 = (.pointer (some ⟨b1, 0, none⟩)) ∧ e 2 = (.pointer (some ⟨c2, 0, none⟩)) ∧ e 3 = (.pointer (some ⟨c3, 0, none⟩)) ∧ e 9 = (.pointer (some ⟨b47, 0, none⟩)) ∧ e 11 = (.int .i64 (i : Int)) ∧ e 48 = (.slice (some ⟨ub, uo, none⟩) (ordN D).length uc) ∧ e 49 = (.int .i64 ((ordN D).length : Int)) ∧ e 50 = (.int .i64 (k : Int)) ∧ Ext wq w | 1 => e 1 = (.pointer (some ⟨b1, 0, none⟩)) ∧ e 2 = (.pointer (some ⟨c2, 0, none⟩)) ∧ e 3 = (.pointer (some ⟨c3, 0, none⟩)) ∧ e 9 = (.pointer (some ⟨b47, 0, none⟩)) ∧ e 11 = (.int .i64 (i : Int)) ∧ e 48 = (.slice (some ⟨ub, uo, none⟩) (ordN D).length uc) ∧ e 49 = (.int .i64 ((ordN D).length : Int)) ∧ e 50 = (.int .i64 (k : Int)) ∧ e 63 = (.pointer (some ⟨b47, 0, none⟩)) ∧ Ext wq w | 2 => e 1 = (.pointer (some ⟨b1, 0, none⟩)) ∧ e 2 = (.pointer (some ⟨c2, 0, none⟩)) ∧ e 3 = (.pointer (some ⟨c3, 0, none⟩)) ∧ e 9 = (.pointer (some ⟨b47, 0, none⟩)) ∧ e 11 = (.int .i64 (i : Int)) ∧ e 48 = (.slice (some ⟨ub, uo, none⟩) (ordN D).length uc) ∧ e 49 = (.int .i64 ((ordN D).length : Int)) ∧ e 50 = (.int .i64 (k : Int)) ∧ e 67 = (.int .i64 (i : Int)) ∧ Ext wq w | 3 => e 1 = (.pointer (some ⟨b1, 0, none⟩)) ∧ e 2 = (.pointer (some ⟨c2, 0, none⟩)) ∧ e 3 = (.pointer (some ⟨c3, 0, none⟩)) ∧ e 9 = (.pointer (some ⟨b47, 0, none⟩)) ∧ e 11 = (.int .i64 (i : Int)) ∧ e 48 = (.slice (some ⟨ub, uo, none⟩) (ordN D).length uc) ∧ e 49 = (.int .i64 ((ordN D).length : Int)) ∧ e 50 = (.int .i64 (k : Int)) ∧ e 68 = (.pointer (some ⟨b47, 0, none⟩)) ∧ Ext wq w | 4 => e 1 = (.pointer (some ⟨b1, 0, none⟩)) ∧ e 2 = (.pointer (some ⟨c2, 0, none⟩)) ∧ e 3 = (.pointer (some ⟨c3, 0, none⟩)) ∧ e 9 = (.pointer (some ⟨b47, 0, none⟩)) ∧ e 11 = (.int .i64 (i : Int)) ∧ e 48 = (.slice (some ⟨ub, uo, none⟩) (ordN D).length uc) ∧ e 49 = (.int .i64 ((ordN D).length : Int)) ∧ e 50 = (.int .i64 (k : Int)) ∧ e 63 = (.pointer (some ⟨b47, 0, none⟩)) ∧ e 64 = (.pointer (some ⟨b47, 0, none⟩)) ∧ Ext wq w | 5 => e 1 = (.pointer (some ⟨b1, 0, none⟩)) ∧ e 2 = (.pointer (some ⟨c2, 0, none⟩)) ∧ e 3 = (.pointer (some ⟨c3, 0, none⟩)) ∧ e 9 = (.pointer (some ⟨b47, 0, none⟩)) ∧ e 11 = (.int .i64 (i : Int)) ∧ e 48 = (.slice (some ⟨ub, uo, none⟩) (ordN D).length uc) ∧ e 49 = (.int .i64 ((ordN D).length : Int)) ∧ e 50 = (.int .i64 (k : Int)) ∧ e 63 = (.pointer (some ⟨b47, 0, none⟩)) ∧ e 67 = (.int .i64 (i : Int)) ∧ Ext wq w | 6 => e 1 = (.pointer (some ⟨b1, 0, none⟩)) ∧ e 2 = (.pointer (some ⟨c2, 0, none⟩)) ∧ e 3 = (.pointer (some ⟨c3, 0, none⟩)) ∧ e 9 = (.pointer (some ⟨b47, 0, none⟩)) ∧ e 11 = (.int .i64 (i : Int)) ∧ e 48 = (.slice (some ⟨ub, uo, none⟩) (ordN D).length uc) ∧ e 49 = (.int .i64 ((ordN D).length : Int)) ∧ e 50 = (.int .i64 (k : Int)) ∧ e 63 = (.pointer (some ⟨b47, 0, none⟩)) ∧ e 68 = (.pointer (some ⟨b47, 0, none⟩)) ∧ Ext wq w | 7 => e 1 = (.pointer (some ⟨b1, 0, none⟩)) ∧ e 2 = (.pointer (some ⟨c2, 0, none⟩)) ∧ e 3 = (.pointer (some ⟨c3, 0, none⟩)) ∧ e 9 = (.pointer (some ⟨b47, 0, none⟩)) ∧ e 11 = (.int .i64 (i : Int)) ∧ e 48 = (.slice (some ⟨ub, uo, none⟩) (ordN D).length uc) ∧ e 49 = (.int .i64 ((ordN D).length : Int)) ∧ e 50 = (.int .i64 (k : Int)) ∧ e 67 = (.int .i64 (i : Int)) ∧ e 68 = (.pointer (some ⟨b47, 0, none⟩)) ∧ Ext wq w | 8 => e 1 = (.pointer (some ⟨b1, 0, none⟩)) ∧ e 2 = (.pointer (some ⟨c2, 0, none⟩)) ∧ e 3 = (.pointer (some ⟨c3, 0, none⟩)) ∧ e 9 = (.pointer (some ⟨b47, 0, none⟩)) ∧ e 11 = (.int .i64 (i : Int)) ∧ e 48 = (.slice (some ⟨ub, uo, none⟩) (ordN D).length uc) ∧ e 49 = (.int .i64 ((ordN D).length : Int)) ∧ e 50 = (.int .i64 (k : Int)) ∧ e 68 = (.pointer (some ⟨b47, 0, none⟩)) ∧ e 69 = (.int .i64 r.1) ∧ (∃ tv' U' lv', BS w0 w b47 dv rv D.length (mkS D k).1 r.2 tv' U' lv' [] ∧ w.ownsRow w0.heap.size 3 1 o1 (ordN D).length ((ordN D).map iv) ∧ w.heap[b1]? = some (.cells #[dv] 24 (0, 0)) ∧ w.heap[c2]? = some (.cells #[.slice none 0 0, .slice none 0 0] 29 (0, 0)) ∧ w.heap[c3]? = some (.cells #[.int .i64 0, .int .i64 0] 32 (0, 0))) | 9 => e 1 = (.pointer (some ⟨b1, 0, none⟩)) ∧ e 2 = (.pointer (some ⟨c2, 0, none⟩)) ∧ e 3 = (.pointer (some ⟨c3, 0, none⟩)) ∧ e 9 = (.pointer (some ⟨b47, 0, none⟩)) ∧ e 11 = (.int .i64 (i : Int)) ∧ e 48 = (.slice (some ⟨ub, uo, none⟩) (ordN D).length uc) ∧ e 49 = (.int .i64 ((ordN D).length : Int)) ∧ e 50 = (.int .i64 (k : Int)) ∧ e 63 = (.pointer (some ⟨b47, 0, none⟩)) ∧ e 64 = (.pointer (some ⟨b47, 0, none⟩)) ∧ e 65 = (.pointer (some ⟨b47, 0 + 2, none⟩)) ∧ Ext wq w | 10 => e 1 = (.pointer (some ⟨b1, 0, none⟩)) ∧ e 2 = (.pointer (some ⟨c2, 0, none⟩)) ∧ e 3 = (.pointer (some ⟨c3, 0, none⟩)) ∧ e 9 = (.pointer (some ⟨b47, 0, none⟩)) ∧ e 11 = (.int .i64 (i : Int)) ∧ e 48 = (.slice (some ⟨ub, uo, none⟩) (ordN D).length uc) ∧ e 49 = (.int .i64 ((ordN D).length : Int)) ∧ e 50 = (.int .i64 (k : Int)) ∧ e 63 = (.pointer (some ⟨b47, 0, none⟩)) ∧ e 64 = (.pointer (some ⟨b47, 0, none⟩)) ∧ e 67 = (.int .i64 (i : Int)) ∧ Ext wq w | 11 => e 1 = (.pointer (some ⟨b1, 0, none⟩)) ∧ e 2 = (.pointer (some ⟨c2, 0, none⟩)) ∧ e 3 = (.pointer (some ⟨c3, 0, none⟩)) ∧ e 9 = (.pointer (some ⟨b47, 0, none⟩)) ∧ e 11 = (.int .i64 (i : Int)) ∧ e 48 = (.slice (some ⟨ub, uo, none⟩) (ordN D).length uc) ∧ e 49 = (.int .i64 ((ordN D).length : Int)) ∧ e 50 = (.int .i64 (k : Int)) ∧ e 63 = (.pointer (some ⟨b47, 0, none⟩)) ∧ e 64 = (.pointer (some ⟨b47, 0, none⟩)) ∧ e 68 = (.pointer (some ⟨b47, 0, none⟩)) ∧ Ext wq w | 12 => e 1 = (.pointer (some ⟨b1, 0, none⟩)) ∧ e 2 = (.pointer (some ⟨c2, 0, none⟩)) ∧ e 3 = (.pointer (some ⟨c3, 0, none⟩)) ∧ e 9 = (.pointer (some ⟨b47, 0, none⟩)) ∧ e 11 = (.int .i64 (i : Int)) ∧ e 48 = (.slice (some ⟨ub, uo, none⟩) (ordN D).length uc) ∧ e 49 = (.int .i64 ((ordN D).length : Int)) ∧ e 50 = (.int .i64 (k : Int)) ∧ e 63 = (.pointer (some ⟨b47, 0, none⟩)) ∧ e 67 = (.int .i64 (i : Int)) ∧ e 68 = (.pointer (some ⟨b47, 0, none⟩)) ∧ Ext wq w | 13 => e 1 = (.pointer (some ⟨b1, 0, none⟩)) ∧ e 2 = (.pointer (some ⟨c2, 0, none⟩)) ∧ e 3 = (.pointer (some ⟨c3, 0, none⟩)) ∧ e 9 = (.pointer (some ⟨b47, 0, none⟩)) ∧ e 11 = (.int .i64 (i : Int)) ∧ e 48 = (.slice (some ⟨ub, uo, none⟩) (ordN D).length uc) ∧ e 49 = (.int .i64 ((ordN D).length : Int)) ∧ e 50 = (.int .i64 (k : Int)) ∧ e 63 = (.pointer (some ⟨b47, 0, none⟩)) ∧ e 68 = (.pointer (some ⟨b47, 0, none⟩)) ∧ e 69 = (.int .i64 r.1) ∧ (∃ tv' U' lv', BS w0 w b47 dv rv D.length (mkS D k).1 r.2 tv' U' lv' [] ∧ w.ownsRow w0.heap.size 3 1 o1 (ordN D).length ((ordN D).map iv) ∧ w.heap[b1]? = some (.cells #[dv] 24 (0, 0)) ∧ w.heap[c2]? = some (.cells #[.slice none 0 0, .slice none 0 0] 29 (0, 0)) ∧ w.heap[c3]? = some (.cells #[.int .i64 0, .int .i64 0] 32 (0, 0))) | 14 => e 1 = (.pointer (some ⟨b1, 0, none⟩)) ∧ e 2 = (.pointer (some ⟨c2, 0, none⟩)) ∧ e 3 = (.pointer (some ⟨c3, 0, none⟩)) ∧ e 9 = (.pointer (some ⟨b47, 0, none⟩)) ∧ e 11 = (.int .i64 (i : Int)) ∧ e 48 = (.slice (some ⟨ub, uo, none⟩) (ordN D).length uc) ∧ e 49 = (.int .i64 ((ordN D).length : Int)) ∧ e 50 = (.int .i64 (k : Int)) ∧ e 67 = (.int .i64 (i : Int)) ∧ e 68 = (.pointer (some ⟨b47, 0, none⟩)) ∧ e 69 = (.int .i64 r.1) ∧ (∃ tv' U' lv', BS w0 w b47 dv rv D.length (mkS D k).1 r.2 tv' U' lv' [] ∧ w.ownsRow w0.heap.size 3 1 o1 (ordN D).length ((ordN D).map iv) ∧ w.heap[b1]? = some (.cells #[dv] 24 (0, 0)) ∧ w.heap[c2]? = some (.cells #[.slice none 0 0, .slice none 0 0] 29 (0, 0)) ∧ w.heap[c3]? = some (.cells #[.int .i64 0, .int .i64 0] 32 (0, 0))) | 15 => e 1 = (.pointer (some ⟨b1, 0, none⟩)) ∧ e 2 = (.pointer (some ⟨c2, 0, none⟩)) ∧ e 3 = (.pointer (some ⟨c3, 0, none⟩)) ∧ e 9 = (.pointer (some ⟨b47, 0, none⟩)) ∧ e 11 = (.int .i64 (i : Int)) ∧ e 48 = (.slice (some ⟨ub, uo, none⟩) (ordN D).length uc) ∧ e 49 = (.int .i64 ((ordN D).length : Int)) ∧ e 50 = (.int .i64 (k : Int)) ∧ e 63 = (.pointer (some ⟨b47, 0, none⟩)) ∧ e 64 = (.pointer (some ⟨b47, 0, none⟩)) ∧ e 65 = (.pointer (some ⟨b47, 0 + 2, none⟩)) ∧ e 66 = (.slice (some ⟨rb, 0, none⟩) D.length rc) ∧ Ext wq w | 16 => e 1 = (.pointer (some ⟨b1, 0, none⟩)) ∧ e 2 = (.pointer (some ⟨c2, 0, none⟩)) ∧ e 3 = (.pointer (some ⟨c3, 0, none⟩)) ∧ e 9 = (.pointer (some ⟨b47, 0, none⟩)) ∧ e 11 = (.int .i64 (i : Int)) ∧ e 48 = (.slice (some ⟨ub, uo, none⟩) (ordN D).length uc) ∧ e 49 = (.int .i64 ((ordN D).length : Int)) ∧ e 50 = (.int .i64 (k : Int)) ∧ e 63 = (.pointer (some ⟨b47, 0, none⟩)) ∧ e 64 = (.pointer (some ⟨b47, 0, none⟩)) ∧ e 65 = (.pointer (some ⟨b47, 0 + 2, none⟩)) ∧ e 67 = (.int .i64 (i : Int)) ∧ Ext wq w | 17 => e 1 = (.pointer (some ⟨b1, 0, none⟩)) ∧ e 2 = (.pointer (some ⟨c2, 0, none⟩)) ∧ e 3 = (.pointer (some ⟨c3, 0, none⟩)) ∧ e 9 = (.pointer (some ⟨b47, 0, none⟩)) ∧ e 11 = (.int .i64 (i : Int)) ∧ e 48 = (.slice (some ⟨ub, uo, none⟩) (ordN D).length uc) ∧ e 49 = (.int .i64 ((ordN D).length : Int)) ∧ e 50 = (.int .i64 (k : Int)) ∧ e 63 = (.pointer (some ⟨b47, 0, none⟩)) ∧ e 64 = (.pointer (some ⟨b47, 0, none⟩)) ∧ e 65 = (.pointer (some ⟨b47, 0 + 2, none⟩)) ∧ e 68 = (.pointer (some ⟨b47, 0, none⟩)) ∧ Ext wq w | 18 => e 1 = (.pointer (some ⟨b1, 0, none⟩)) ∧ e 2 = (.pointer (some ⟨c2, 0, none⟩)) ∧ e 3 = (.pointer (some ⟨c3, 0, none⟩)) ∧ e 9 = (.pointer (some ⟨b47, 0, none⟩)) ∧ e 11 = (.int .i64 (i : Int)) ∧ e 48 = (.slice (some ⟨ub, uo, none⟩) (ordN D).length uc) ∧ e 49 = (.int .i64 ((ordN D).length : Int)) ∧ e 50 = (.int .i64 (k : Int)) ∧ e 63 = (.pointer (some ⟨b47, 0, none⟩)) ∧ e 64 = (.pointer (some ⟨b47, 0, none⟩)) ∧ e 67 = (.int .i64 (i : Int)) ∧ e 68 = (.pointer (some ⟨b47, 0, none⟩)) ∧ Ext wq w | 19 => e 1 = (.pointer (some ⟨b1, 0, none⟩)) ∧ e 2 = (.pointer (some ⟨c2, 0, none⟩)) ∧ e 3 = (.pointer (some ⟨c3, 0, none⟩)) ∧ e 9 = (.pointer (some ⟨b47, 0, none⟩)) ∧ e 11 = (.int .i64 (i : Int)) ∧ e 48 = (.slice (some ⟨ub, uo, none⟩) (ordN D).length uc) ∧ e 49 = (.int .i64 ((ordN D).length : Int)) ∧ e 50 = (.int .i64 (k : Int)) ∧ e 63 = (.pointer (some ⟨b47, 0, none⟩)) ∧ e 64 = (.pointer (some ⟨b47, 0, none⟩)) ∧ e 68 = (.pointer (some ⟨b47, 0, none⟩)) ∧ e 69 = (.int .i64 r.1) ∧ (∃ tv' U' lv', BS w0 w b47 dv rv D.length (mkS D k).1 r.2 tv' U' lv' [] ∧ w.ownsRow w0.heap.size 3 1 o1 (ordN D).length ((ordN D).map iv) ∧ w.heap[b1]? = some (.cells #[dv] 24 (0, 0)) ∧ w.heap[c2]? = some (.cells #[.slice none 0 0, .slice none 0 0] 29 (0, 0)) ∧ w.heap[c3]? = some (.cells #[.int .i64 0, .int .i64 0] 32 (0, 0))) | 20 => e 1 = (.pointer (some ⟨b1, 0, none⟩)) ∧ e 2 = (.pointer (some ⟨c2, 0, none⟩)) ∧ e 3 = (.pointer (some ⟨c3, 0, none⟩)) ∧ e 9 = (.pointer (some ⟨b47, 0, none⟩)) ∧ e 11 = (.int .i64 (i : Int)) ∧ e 48 = (.slice (some ⟨ub, uo, none⟩) (ordN D).length uc) ∧ e 49 = (.int .i64 ((ordN D).length : Int)) ∧ e 50 = (.int .i64 (k : Int)) ∧ e 63 = (.pointer (some ⟨b47, 0, none⟩)) ∧ e 67 = (.int .i64 (i : Int)) ∧ e 68 = (.pointer (some ⟨b47, 0, none⟩)) ∧ e 69 = (.int .i64 r.1) ∧ (∃ tv' U' lv', BS w0 w b47 dv rv D.length (mkS D k).1 r.2 tv' U' lv' [] ∧ w.ownsRow w0.heap.size 3 1 o1 (ordN D).length ((ordN D).map iv) ∧ w.heap[b1]? = some (.cells #[dv] 24 (0, 0)) ∧ w.heap[c2]? = some (.cells #[.slice none 0 0, .slice none 0 0] 29 (0, 0)) ∧ w.heap[c3]? = some (.cells #[.int .i64 0, .int .i64 0] 32 (0, 0))) | 21 => e 1 = (.pointer (some ⟨b1, 0, none⟩)) ∧ e 2 = (.pointer (some ⟨c2, 0, none⟩)) ∧ e 3 = (.pointer (some ⟨c3, 0, none⟩)) ∧ e 9 = (.pointer (some ⟨b47, 0, none⟩)) ∧ e 11 = (.int .i64 (i : Int)) ∧ e 48 = (.slice (some ⟨ub, uo, none⟩) (ordN D).length uc) ∧ e 49 = (.int .i64 ((ordN D).length : Int)) ∧ e 50 = (.int .i64 (k : Int)) ∧ e 63 = (.pointer (some ⟨b47, 0, none⟩)) ∧ e 64 = (.pointer (some ⟨b47, 0, none⟩)) ∧ e 65 = (.pointer (some ⟨b47, 0 + 2, none⟩)) ∧ e 66 = (.slice (some ⟨rb, 0, none⟩) D.length rc) ∧ e 67 = (.int .i64 (i : Int)) ∧ Ext wq w | 22 => e 1 = (.pointer (some ⟨b1, 0, none⟩)) ∧ e 2 = (.pointer (some ⟨c2, 0, none⟩)) ∧ e 3 = (.pointer (some ⟨c3, 0, none⟩)) ∧ e 9 = (.pointer (some ⟨b47, 0, none⟩)) ∧ e 11 = (.int .i64 (i : Int)) ∧ e 48 = (.slice (some ⟨ub, uo, none⟩) (ordN D).length uc) ∧ e 49 = (.int .i64 ((ordN D).length : Int)) ∧ e 50 = (.int .i64 (k : Int)) ∧ e 63 = (.pointer (some ⟨b47, 0, none⟩)) ∧ e 64 = (.pointer (some ⟨b47, 0, none⟩)) ∧ e 65 = (.pointer (some ⟨b47, 0 + 2, none⟩)) ∧ e 66 = (.slice (some ⟨rb, 0, none⟩) D.length rc) ∧ e 68 = (.pointer (some ⟨b47, 0, none⟩)) ∧ Ext wq w | 23 => e 1 = (.pointer (some ⟨b1, 0, none⟩)) ∧ e 2 = (.pointer (some ⟨c2, 0, none⟩)) ∧ e 3 = (.pointer (some ⟨c3, 0, none⟩)) ∧ e 9 = (.pointer (some ⟨b47, 0, none⟩)) ∧ e 11 = (.int .i64 (i : Int)) ∧ e 48 = (.slice (some ⟨ub, uo, none⟩) (ordN D).length uc) ∧ e 49 = (.int .i64 ((ordN D).length : Int)) ∧ e 50 = (.int .i64 (k : Int)) ∧ e 63 = (.pointer (some ⟨b47, 0, none⟩)) ∧ e 64 = (.pointer (some ⟨b47, 0, none⟩)) ∧ e 65 = (.pointer (some ⟨b47, 0 + 2, none⟩)) ∧ e 67 = (.int .i64 (i : Int)) ∧ e 68 = (.pointer (some ⟨b47, 0, none⟩)) ∧ Ext wq w | 24 => e 1 = (.pointer (some ⟨b1, 0, none⟩)) ∧ e 2 = (.pointer (some ⟨c2, 0, none⟩)) ∧ e 3 = (.pointer (some ⟨c3, 0, none⟩)) ∧ e 9 = (.pointer (some ⟨b47, 0, none⟩)) ∧ e 11 = (.int .i64 (i : Int)) ∧ e 48 = (.slice (some ⟨ub, uo, none⟩) (ordN D).length uc) ∧ e 49 = (.int .i64 ((ordN D).length : Int)) ∧ e 50 = (.int .i64 (k : Int)) ∧ e 63 = (.pointer (some ⟨b47, 0, none⟩)) ∧ e 64 = (.pointer (some ⟨b47, 0, none⟩)) ∧ e 65 = (.pointer (some ⟨b47, 0 + 2, none⟩)) ∧ e 68 = (.pointer (some ⟨b47, 0, none⟩)) ∧ e 69 = (.int .i64 r.1) ∧ (∃ tv' U' lv', BS w0 w b47 dv rv D.length (mkS D k).1 r.2 tv' U' lv' [] ∧ w.ownsRow w0.heap.size 3 1 o1 (ordN D).length ((ordN D).map iv) ∧ w.heap[b1]? = some (.cells #[dv] 24 (0, 0)) ∧ w.heap[c2]? = some (.cells #[.slice none 0 0, .slice none 0 0] 29 (0, 0)) ∧ w.heap[c3]? = some (.cells #[.int .i64 0, .int .i64 0] 32 (0, 0))) | 25 => e 1 = (.pointer (some ⟨b1, 0, none⟩)) ∧ e 2 = (.pointer (some ⟨c2, 0, none⟩)) ∧ e 3 = (.pointer (some ⟨c3, 0, none⟩)) ∧ e 9 = (.pointer (some ⟨b47, 0, none⟩)) ∧ e 11 = (.int .i64 (i : Int)) ∧ e 48 = (.slice (some ⟨ub, uo, none⟩) (ordN D).length uc) ∧ e 49 = (.int .i64 ((ordN D).length : Int)) ∧ e 50 = (.int .i64 (k : Int)) ∧ e 63 = (.pointer (some ⟨b47, 0, none⟩)) ∧ e 64 = (.pointer (some ⟨b47, 0, none⟩)) ∧ e 67 = (.int .i64 (i : Int)) ∧ e 68 = (.pointer (some ⟨b47, 0, none⟩)) ∧ e 69 = (.int .i64 r.1) ∧ (∃ tv' U' lv', BS w0 w b47 dv rv D.length (mkS D k).1 r.2 tv' U' lv' [] ∧ w.ownsRow w0.heap.size 3 1 o1 (ordN D).length ((ordN D).map iv) ∧ w.heap[b1]? = some (.cells #[dv] 24 (0, 0)) ∧ w.heap[c2]? = some (.cells #[.slice none 0 0, .slice none 0 0] 29 (0, 0)) ∧ w.heap[c3]? = some (.cells #[.int .i64 0, .int .i64 0] 32 (0, 0))) | 26 => e 1 = (.pointer (some ⟨b1, 0, none⟩)) ∧ e 2 = (.pointer (some ⟨c2, 0, none⟩)) ∧ e 3 = (.pointer (some ⟨c3, 0, none⟩)) ∧ e 9 = (.pointer (some ⟨b47, 0, none⟩)) ∧ e 11 = (.int .i64 (i : Int)) ∧ e 48 = (.slice (some ⟨ub, uo, none⟩) (ordN D).length uc) ∧ e 49 = (.int .i64 ((ordN D).length : Int)) ∧ e 50 = (.int .i64 (k : Int)) ∧ e 63 = (.pointer (some ⟨b47, 0, none⟩)) ∧ e 64 = (.pointer (some ⟨b47, 0, none⟩)) ∧ e 65 = (.pointer (some ⟨b47, 0 + 2, none⟩)) ∧ e 66 = (.slice (some ⟨rb, 0, none⟩) D.length rc) ∧ e 67 = (.int .i64 (i : Int)) ∧ e 68 = (.pointer (some ⟨b47, 0, none⟩)) ∧ Ext wq w | 27 => e 1 = (.pointer (some ⟨b1, 0, none⟩)) ∧ e 2 = (.pointer (some ⟨c2, 0, none⟩)) ∧ e 3 = (.pointer (some ⟨c3, 0, none⟩)) ∧ e 9 = (.pointer (some ⟨b47, 0, none⟩)) ∧ e 11 = (.int .i64 (i : Int)) ∧ e 48 = (.slice (some ⟨ub, uo, none⟩) (ordN D).length uc) ∧ e 49 = (.int .i64 ((ordN D).length : Int)) ∧ e 50 = (.int .i64 (k : Int)) ∧ e 63 = (.pointer (some ⟨b47, 0, none⟩)) ∧ e 64 = (.pointer (some ⟨b47, 0, none⟩)) ∧ e 65 = (.pointer (some ⟨b47, 0 + 2, none⟩)) ∧ e 66 = (.slice (some ⟨rb, 0, none⟩) D.length rc) ∧ e 68 = (.pointer (some ⟨b47, 0, none⟩)) ∧ e 69 = (.int .i64 r.1) ∧ (∃ tv' U' lv', BS w0 w b47 dv rv D.length (mkS D k).1 r.2 tv' U' lv' [] ∧ w.ownsRow w0.heap.size 3 1 o1 (ordN D).length ((ordN D).map iv) ∧ w.heap[b1]? = some (.cells #[dv] 24 (0, 0)) ∧ w.heap[c2]? = some (.cells #[.slice none 0 0, .slice none 0 0] 29 (0, 0)) ∧ w.heap[c3]? = some (.cells #[.int .i64 0, .int .i64 0] 32 (0, 0))) | 28 => e 1 = (.pointer (some ⟨b1, 0, none⟩)) ∧ e 2 = (.pointer (some ⟨c2, 0, none⟩)) ∧ e 3 = (.pointer (some ⟨c3, 0, none⟩)) ∧ e 9 = (.pointer (some ⟨b47, 0, none⟩)) ∧ e 11 = (.int .i64 (i : Int)) ∧ e 48 = (.slice (some ⟨ub, uo, none⟩) (ordN D).length uc) ∧ e 49 = (.int .i64 ((ordN D).length : Int)) ∧ e 50 = (.int .i64 (k : Int)) ∧ e 63 = (.pointer (some ⟨b47, 0, none⟩)) ∧ e 64 = (.pointer (some ⟨b47, 0, none⟩)) ∧ e 65 = (.pointer (some ⟨b47, 0 + 2, none⟩)) ∧ e 67 = (.int .i64 (i : Int)) ∧ e 68 = (.pointer (some ⟨b47, 0, none⟩)) ∧ e 69 = (.int .i64 r.1) ∧ (∃ tv' U' lv', BS w0 w b47 dv rv D.length (mkS D k).1 r.2 tv' U' lv' [] ∧ w.ownsRow w0.heap.size 3 1 o1 (ordN D).length ((ordN D).map iv) ∧ w.heap[b1]? = some (.cells #[dv] 24 (0, 0)) ∧ w.heap[c2]? = some (.cells #[.slice none 0 0, .slice none 0 0] 29 (0, 0)) ∧ w.heap[c3]? = some (.cells #[.int .i64 0, .int .i64 0] 32 (0, 0))) | 29 => e 1 = (.pointer (some ⟨b1, 0, none⟩)) ∧ e 2 = (.pointer (some ⟨c2, 0, none⟩)) ∧ e 3 = (.pointer (some ⟨c3, 0, none⟩)) ∧ e 9 = (.pointer (some ⟨b47, 0, none⟩)) ∧ e 11 = (.int .i64 (i : Int)) ∧ e 48 = (.slice (some ⟨ub, uo, none⟩) (ordN D).length uc) ∧ e 49 = (.int .i64 ((ordN D).length : Int)) ∧ e 50 = (.int .i64 (k : Int)) ∧ e 63 = (.pointer (some ⟨b47, 0, none⟩)) ∧ e 64 = (.pointer (some ⟨b47, 0, none⟩)) ∧ e 65 = (.pointer (some ⟨b47, 0 + 2, none⟩)) ∧ e 66 = (.slice (some ⟨rb, 0, none⟩) D.length rc) ∧ e 67 = (.int .i64 (i : Int)) ∧ e 68 = (.pointer (some ⟨b47, 0, none⟩)) ∧ e 69 = (.int .i64 r.1) ∧ (∃ tv' U' lv', BS w0 w b47 dv rv D.length (mkS D k).1 r.2 tv' U' lv' [] ∧ w.ownsRow w0.heap.size 3 1 o1 (ordN D).length ((ordN D).map iv) ∧ w.heap[b1]? = some (.cells #[dv] 24 (0, 0)) ∧ w.heap[c2]? = some (.cells #[.slice none 0 0, .slice none 0 0] 29 (0, 0)) ∧ w.heap[c3]? = some (.cells #[.int .i64 0, .int .i64 0] 32 (0, 0))) | 30 => e 1 = (.pointer (some ⟨b1, 0, none⟩)) ∧ e 2 = (.pointer (some ⟨c2, 0, none⟩)) ∧ e 3 = (.pointer (some ⟨c3, 0, none⟩)) ∧ e 9 = (.pointer (some ⟨b47, 0, none⟩)) ∧ e 11 = (.int .i64 (i : Int)) ∧ e 48 = (.slice (some ⟨ub, uo, none⟩) (ordN D).length uc) ∧ e 49 = (.int .i64 ((ordN D).length : Int)) ∧ e 50 = (.int .i64 (k : Int)) ∧ e 63 = (.pointer (some ⟨b47, 0, none⟩)) ∧ e 64 = (.pointer (some ⟨b47, 0, none⟩)) ∧ e 65 = (.pointer (some ⟨b47, 0 + 2, none⟩)) ∧ e 66 = (.slice (some ⟨rb, 0, none⟩) D.length rc) ∧ e 67 = (.int .i64 (i : Int)) ∧ e 68 = (.pointer (some ⟨b47, 0, none⟩)) ∧ e 69 = (.int .i64 r.1) ∧ e 70 = (.pointer (some ⟨rb, 0 + i * 1, none⟩)) ∧ (∃ tv' U' lv', BS w0 w b47 dv rv D.length (mkS D k).1 r.2 tv' U' lv' [] ∧ w.ownsRow w0.heap.size 3 1 o1 (ordN D).length ((ordN D).map iv) ∧ w.heap[b1]? = some (.cells #[dv] 24 (0, 0)) ∧ w.heap[c2]? = some (.cells #[.slice none 0 0, .slice none 0 0] 29 (0, 0)) ∧ w.heap[c3]? = some (.cells #[.int .i64 0, .int .i64 0] 32 (0, 0))) | 31 => e 1 = (.pointer (some ⟨b1, 0, none⟩)) ∧ e 2 = (.pointer (some ⟨c2, 0, none⟩)) ∧ e 3 = (.pointer (some ⟨c3, 0, none⟩)) ∧ e 9 = (.pointer (some ⟨b47, 0, none⟩)) ∧ e 11 = (.int .i64 (i : Int)) ∧ e 48 = (.slice (some ⟨ub, uo, none⟩) (ordN D).length uc) ∧ e 49 = (.int .i64 ((ordN D).length : Int)) ∧ e 50 = (.int .i64 (k : Int)) ∧ e 63 = (.pointer (some ⟨b47, 0, none⟩)) ∧ e 64 = (.pointer (some ⟨b47, 0, none⟩)) ∧ e 65 = (.pointer (some ⟨b47, 0 + 2, none⟩)) ∧ e 66 = (.slice (some ⟨rb, 0, none⟩) D.length rc) ∧ e 67 = (.int .i64 (i : Int)) ∧ e 68 = (.pointer (some ⟨b47, 0, none⟩)) ∧ e 69 = (.int .i64 r.1) ∧ e 70 = (.pointer (some ⟨rb, 0 + i * 1, none⟩)) ∧ (∃ tv' U' lv', BS w0 w b47 dv rv D.length (upI (mkS D k).1 i r.1) r.2 tv' U' lv' [] ∧ w.ownsRow w0.heap.size 3 1 o1 (ordN D).length ((ordN D).map iv) ∧ w.heap[b1]? = some (.cells #[dv] 24 (0, 0)) ∧ w.heap[c2]? = some (.cells #[.slice none 0 0, .slice none 0 0] 29 (0, 0)) ∧ w.heap[c3]? = some (.cells #[.int .i64 0, .int .i64 0] 32 (0, 0))) | _ => False) ([([false, false, false, false, false, false, false, false, false], [(0, 1), (4, 2), (5, 3)]), ([true, false, false, false, false, false, false, false, false], [(1, 4), (4, 5), (5, 6)]), ([false, false, false, false, true, false, false, false, false], [(0, 5), (5, 7)]), ([false, false, false, false, false, true, false, false, false], [(0, 6), (4, 7), (6, 8)]), ([true, true, false, false, false, false, false, false, false], [(2, 9), (4, 10), (5, 11)]), ([true, false, false, false, true, false, false, false, false], [(1, 10), (5, 12)]), ([true, false, false, false, false, true, false, false, false], [(1, 11), (4, 12), (6, 13)]), ([false, false, false, false, true, true, false, false, false], [(0, 12), (6, 14)]), ([false, false, false, false, false, true, true, false, false], [(0, 13), (4, 14)]), ([true, true, true, false, false, false, false, false, false], [(3, 15), (4, 16), (5, 17)]), ([true, true, false, false, true, false, false, false, false], [(2, 16), (5, 18)]), ([true, true, false, false, false, true, false, false, false], [(2, 17), (4, 18), (6, 19)]), ([true, false, false, false, true, true, false, false, false], [(1, 18), (6, 20)]), ([true, false, false, false, false, true, true, false, false], [(1, 19), (4, 20)]), ([false, false, false, false, true, true, true, false, false], [(0, 20)]), ([true, true, true, true, false, false, false, false, false], [(4, 21), (5, 22)]), ([true, true, true, false, true, false, false, false, false], [(3, 21), (5, 23)]), ([true, true, true, false, false, true, false, false, false], [(3, 22), (4, 23), (6, 24)]), ([true, true, false, false, true, true, false, false, false], [(2, 23), (6, 25)]), ([true, true, false, false, false, true, true, false, false], [(2, 24), (4, 25)]), ([true, false, false, false, true, true, true, false, false], [(1, 25)]), ([true, true, true, true, true, false, false, false, false], [(5, 26)]), ([true, true, true, true, false, true, false, false, false], [(4, 26), (6, 27)]), ([true, true, true, false, true, true, false, false, false], [(3, 26), (6, 28)]), ([true, true, true, false, false, true, true, false, false], [(3, 27), (4, 28)]), ([true, true, false, false, true, true, true, false, false], [(2, 28)]), ([true, true, true, true, true, true, false, false, false], [(6, 29)]), ([true, true, true, true, false, true, true, false, false], [(4, 29)]), ([true, true, true, false, true, true, true, false, false], [(3, 29)]), ([true, true, true, true, true, true, true, false, false], [(7, 30)]), ([true, true, true, true, true, true, true, true, false], [(8, 31)]), ([true, true, true, true, true, true, true, true, true], [])]) rfl (by kernel_rfl) rfl ⟨h1, h2, h3, h9, rfl, h48, h49, h50, by rw [hwq]; exact Only.refl _ _⟩ (⟨?_, ?_, ?_, ?_, ?_, ?_, ?_, ?_, ?_, ?_, ?_, ?_, ?_, ?_, ?_, ?_, ?_, ?_, ?_, ?_, ?_, ?_, ?_, ?_, ?_, ?_, ?_, ?_, ?_, ?_, ?_, ?_, trivial⟩)
   ·-- state 0 of region 14
    rintro e w ⟨h1, h2, h3, h9, h11, h48, h49, h50, hR⟩
    refine ⟨?_, ?_, ?_, trivial⟩
    ·skip
     refine WO.c rfl rfl (Wf h9 ?_)
     exact ⟨h1, h2, h3, h9, h11, h48, h49, h50, rfl, hR⟩
    ·skip
     refine WO.c rfl rfl (Wf h11 ?_)
     exact ⟨h1, h2, h3, h9, h11, h48, h49, h50, rfl, hR⟩
    skip
    refine WO.c rfl rfl (Wf h9 ?_)
    exact ⟨h1, h2, h3, h9, h11, h48, h49, h50, rfl, hR⟩
   ·-- state 1 of region 14
    rintro e w ⟨h1, h2, h3, h9, h11, h48, h49, h50, h63, hR⟩
    refine ⟨?_, ?_, ?_, trivial⟩
    ·skip
     refine WO.c rfl rfl (o_nil h63 ?_)
     exact ⟨h1, h2, h3, h9, h11, h48, h49, h50, h63, rfl, hR⟩
    ·skip
     refine WO.c rfl rfl (Wf h11 ?_)
     exact ⟨h1, h2, h3, h9, h11, h48, h49, h50, h63, rfl, hR⟩
    skip
    refine WO.c rfl rfl (Wf h9 ?_)
    exact ⟨h1, h2, h3, h9, h11, h48, h49, h50, h63, rfl, hR⟩
   ·-- state 2 of region 14
    rintro e w ⟨h1, h2, h3, h9, h11, h48, h49, h50, h67, hR⟩
    refine ⟨?_, ?_, trivial⟩
    ·skip
     refine WO.c rfl rfl (Wf h9 ?_)
     exact ⟨h1, h2, h3, h9, h11, h48, h49, h50, rfl, h67, hR⟩
    skip
    refine WO.c rfl rfl (Wf h9 ?_)
    exact ⟨h1, h2, h3, h9, h11, h48, h49, h50, h67, rfl, hR⟩
   ·-- state 3 of region 14
    rintro e w ⟨h1, h2, h3, h9, h11, h48, h49, h50, h68, hR⟩
    refine ⟨?_, ?_, ?_, trivial⟩
    ·skip
     refine WO.c rfl rfl (Wf h9 ?_)
     exact ⟨h1, h2, h3, h9, h11, h48, h49, h50, rfl, h68, hR⟩
    ·skip
     refine WO.c rfl rfl (Wf h11 ?_)
     exact ⟨h1, h2, h3, h9, h11, h48, h49, h50, rfl, h68, hR⟩
    skip
    refine WO.c rfl rfl (o_call Tryd.call15 (lc h68 ln) ((hcall _ hR).mono ?_))
    rintro v69 w69 ⟨tv', U', lv', rfl, hS', ho', -, -⟩
    have hE : (∃ tv' U' lv', BS w0 w69 b47 dv rv D.length (mkS D k).1 r.2 tv' U' lv' [] ∧ w69.ownsRow w0.heap.size 3 1 o1 (ordN D).length ((ordN D).map iv) ∧ w69.heap[b1]? = some (.cells #[dv] 24 (0, 0)) ∧ w69.heap[c2]? = some (.cells #[.slice none 0 0, .slice none 0 0] 29 (0, 0)) ∧ w69.heap[c3]? = some (.cells #[.int .i64 0, .int .i64 0] 32 (0, 0))) := ⟨tv', U', lv', hS', own_only (Wr ho1 hR) ho' (fun b hb h => by
     rcases h with h | h
     ·rw [h] at hb; exact own_off ho1 hS.cell (by decide) hb
     ·exact own_row_off hS.ty.row ho1 (by decide) b hb h),
     ho'.blk (hR.blk hC1 (fun h => h)) (fun h => by rcases h with h | h; exact blk_ne3 hC1 hS.cell (by decide) h; exact own_off hS.ty.row hC1 (by decide) h),
     ho'.blk (hR.blk hC2 (fun h => h)) (fun h => by rcases h with h | h; exact blk_ne3 hC2 hS.cell (by decide) h; exact own_off hS.ty.row hC2 (by decide) h),
     ho'.blk (hR.blk hC3 (fun h => h)) (fun h => by rcases h with h | h; exact blk_ne3 hC3 hS.cell (by decide) h; exact own_off hS.ty.row hC3 (by decide) h)⟩
    exact ⟨h1, h2, h3, h9, h11, h48, h49, h50, h68, rfl, hE⟩
   ·-- state 4 of region 14
    rintro e w ⟨h1, h2, h3, h9, h11, h48, h49, h50, h63, h64, hR⟩
    refine ⟨?_, ?_, ?_, trivial⟩
    ·skip
     refine WO.c rfl rfl (Wl 2 TI63 rfl TI57 rfl h64 ?_)
     exact ⟨h1, h2, h3, h9, h11, h48, h49, h50, h63, h64, rfl, hR⟩
    ·skip
     refine WO.c rfl rfl (Wf h11 ?_)
     exact ⟨h1, h2, h3, h9, h11, h48, h49, h50, h63, h64, rfl, hR⟩
    skip
    refine WO.c rfl rfl (Wf h9 ?_)
    exact ⟨h1, h2, h3, h9, h11, h48, h49, h50, h63, h64, rfl, hR⟩
   ·-- state 5 of region 14
    rintro e w ⟨h1, h2, h3, h9, h11, h48, h49, h50, h63, h67, hR⟩
    refine ⟨?_, ?_, trivial⟩
    ·skip
     refine WO.c rfl rfl (o_nil h63 ?_)
     exact ⟨h1, h2, h3, h9, h11, h48, h49, h50, h63, rfl, h67, hR⟩
    skip
    refine WO.c rfl rfl (Wf h9 ?_)
    exact ⟨h1, h2, h3, h9, h11, h48, h49, h50, h63, h67, rfl, hR⟩
   ·-- state 6 of region 14
    rintro e w ⟨h1, h2, h3, h9, h11, h48, h49, h50, h63, h68, hR⟩
    refine ⟨?_, ?_, ?_, trivial⟩
    ·skip
     refine WO.c rfl rfl (o_nil h63 ?_)
     exact ⟨h1, h2, h3, h9, h11, h48, h49, h50, h63, rfl, h68, hR⟩
    ·skip
     refine WO.c rfl rfl (Wf h11 ?_)
     exact ⟨h1, h2, h3, h9, h11, h48, h49, h50, h63, rfl, h68, hR⟩
    skip
    refine WO.c rfl rfl (o_call Tryd.call15 (lc h68 ln) ((hcall _ hR).mono ?_))
    rintro v69 w69 ⟨tv', U', lv', rfl, hS', ho', -, -⟩
    have hE : (∃ tv' U' lv', BS w0 w69 b47 dv rv D.length (mkS D k).1 r.2 tv' U' lv' [] ∧ w69.ownsRow w0.heap.size 3 1 o1 (ordN D).length ((ordN D).map iv) ∧ w69.heap[b1]? = some (.cells #[dv] 24 (0, 0)) ∧ w69.heap[c2]? = some (.cells #[.slice none 0 0, .slice none 0 0] 29 (0, 0)) ∧ w69.heap[c3]? = some (.cells #[.int .i64 0, .int .i64 0] 32 (0, 0))) := ⟨tv', U', lv', hS', own_only (Wr ho1 hR) ho' (fun b hb h => by
     rcases h with h | h
     ·rw [h] at hb; exact own_off ho1 hS.cell (by decide) hb
     ·exact own_row_off hS.ty.row ho1 (by decide) b hb h),
     ho'.blk (hR.blk hC1 (fun h => h)) (fun h => by rcases h with h | h; exact blk_ne3 hC1 hS.cell (by decide) h; exact own_off hS.ty.row hC1 (by decide) h),
     ho'.blk (hR.blk hC2 (fun h => h)) (fun h => by rcases h with h | h; exact blk_ne3 hC2 hS.cell (by decide) h; exact own_off hS.ty.row hC2 (by decide) h),
     ho'.blk (hR.blk hC3 (fun h => h)) (fun h => by rcases h with h | h; exact blk_ne3 hC3 hS.cell (by decide) h; exact own_off hS.ty.row hC3 (by decide) h)⟩
    exact ⟨h1, h2, h3, h9, h11, h48, h49, h50, h63, h68, rfl, hE⟩
   ·-- state 7 of region 14
    rintro e w ⟨h1, h2, h3, h9, h11, h48, h49, h50, h67, h68, hR⟩
    refine ⟨?_, ?_, trivial⟩
    ·skip
     refine WO.c rfl rfl (Wf h9 ?_)
     exact ⟨h1, h2, h3, h9, h11, h48, h49, h50, rfl, h67, h68, hR⟩
    skip
    refine WO.c rfl rfl (o_call Tryd.call15 (lc h68 ln) ((hcall _ hR).mono ?_))
    rintro v69 w69 ⟨tv', U', lv', rfl, hS', ho', -, -⟩
    have hE : (∃ tv' U' lv', BS w0 w69 b47 dv rv D.length (mkS D k).1 r.2 tv' U' lv' [] ∧ w69.ownsRow w0.heap.size 3 1 o1 (ordN D).length ((ordN D).map iv) ∧ w69.heap[b1]? = some (.cells #[dv] 24 (0, 0)) ∧ w69.heap[c2]? = some (.cells #[.slice none 0 0, .slice none 0 0] 29 (0, 0)) ∧ w69.heap[c3]? = some (.cells #[.int .i64 0, .int .i64 0] 32 (0, 0))) := ⟨tv', U', lv', hS', own_only (Wr ho1 hR) ho' (fun b hb h => by
     rcases h with h | h
     ·rw [h] at hb; exact own_off ho1 hS.cell (by decide) hb
     ·exact own_row_off hS.ty.row ho1 (by decide) b hb h),
     ho'.blk (hR.blk hC1 (fun h => h)) (fun h => by rcases h with h | h; exact blk_ne3 hC1 hS.cell (by decide) h; exact own_off hS.ty.row hC1 (by decide) h),
     ho'.blk (hR.blk hC2 (fun h => h)) (fun h => by rcases h with h | h; exact blk_ne3 hC2 hS.cell (by decide) h; exact own_off hS.ty.row hC2 (by decide) h),
     ho'.blk (hR.blk hC3 (fun h => h)) (fun h => by rcases h with h | h; exact blk_ne3 hC3 hS.cell (by decide) h; exact own_off hS.ty.row hC3 (by decide) h)⟩
    exact ⟨h1, h2, h3, h9, h11, h48, h49, h50, h67, h68, rfl, hE⟩
   ·-- state 8 of region 14
    rintro e w ⟨h1, h2, h3, h9, h11, h48, h49, h50, h68, h69, hE⟩
    refine ⟨?_, ?_, trivial⟩
    ·skip
     refine WO.c rfl rfl (Wf h9 ?_)
     exact ⟨h1, h2, h3, h9, h11, h48, h49, h50, rfl, h68, h69, hE⟩
    skip
    refine WO.c rfl rfl (Wf h11 ?_)
    exact ⟨h1, h2, h3, h9, h11, h48, h49, h50, rfl, h68, h69, hE⟩
   ·-- state 9 of region 14
    rintro e w ⟨h1, h2, h3, h9, h11, h48, h49, h50, h63, h64, h65, hR⟩
    refine ⟨?_, ?_, ?_, trivial⟩
    ·skip
     refine WO.c rfl rfl (Wk TI57 rfl h65 (show World.cell? _ ⟨b47, 0 + 2, none⟩ = some (.slice (some ⟨rb, 0, none⟩) D.length rc) from by first | exact (hS.ext hR).rvc hrvE | (obtain ⟨tv', U', lv', hS', -⟩ := hE; exact hS'.rvc hrvE)) ?_)
     exact ⟨h1, h2, h3, h9, h11, h48, h49, h50, h63, h64, h65, rfl, hR⟩
    ·skip
     refine WO.c rfl rfl (Wf h11 ?_)
     exact ⟨h1, h2, h3, h9, h11, h48, h49, h50, h63, h64, h65, rfl, hR⟩
    skip
    refine WO.c rfl rfl (Wf h9 ?_)
    exact ⟨h1, h2, h3, h9, h11, h48, h49, h50, h63, h64, h65, rfl, hR⟩
   ·-- state 10 of region 14
    rintro e w ⟨h1, h2, h3, h9, h11, h48, h49, h50, h63, h64, h67, hR⟩
    refine ⟨?_, ?_, trivial⟩
    ·skip
     refine WO.c rfl rfl (Wl 2 TI63 rfl TI57 rfl h64 ?_)
     exact ⟨h1, h2, h3, h9, h11, h48, h49, h50, h63, h64, rfl, h67, hR⟩
    skip
    refine WO.c rfl rfl (Wf h9 ?_)
    exact ⟨h1, h2, h3, h9, h11, h48, h49, h50, h63, h64, h67, rfl, hR⟩
   ·-- state 11 of region 14
    rintro e w ⟨h1, h2, h3, h9, h11, h48, h49, h50, h63, h64, h68, hR⟩
    refine ⟨?_, ?_, ?_, trivial⟩
    ·skip
     refine WO.c rfl rfl (Wl 2 TI63 rfl TI57 rfl h64 ?_)
     exact ⟨h1, h2, h3, h9, h11, h48, h49, h50, h63, h64, rfl, h68, hR⟩
    ·skip
     refine WO.c rfl rfl (Wf h11 ?_)
     exact ⟨h1, h2, h3, h9, h11, h48, h49, h50, h63, h64, rfl, h68, hR⟩
    skip
    refine WO.c rfl rfl (o_call Tryd.call15 (lc h68 ln) ((hcall _ hR).mono ?_))
    rintro v69 w69 ⟨tv', U', lv', rfl, hS', ho', -, -⟩
    have hE : (∃ tv' U' lv', BS w0 w69 b47 dv rv D.length (mkS D k).1 r.2 tv' U' lv' [] ∧ w69.ownsRow w0.heap.size 3 1 o1 (ordN D).length ((ordN D).map iv) ∧ w69.heap[b1]? = some (.cells #[dv] 24 (0, 0)) ∧ w69.heap[c2]? = some (.cells #[.slice none 0 0, .slice none 0 0] 29 (0, 0)) ∧ w69.heap[c3]? = some (.cells #[.int .i64 0, .int .i64 0] 32 (0, 0))) := ⟨tv', U', lv', hS', own_only (Wr ho1 hR) ho' (fun b hb h => by
     rcases h with h | h
     ·rw [h] at hb; exact own_off ho1 hS.cell (by decide) hb
     ·exact own_row_off hS.ty.row ho1 (by decide) b hb h),
     ho'.blk (hR.blk hC1 (fun h => h)) (fun h => by rcases h with h | h; exact blk_ne3 hC1 hS.cell (by decide) h; exact own_off hS.ty.row hC1 (by decide) h),
     ho'.blk (hR.blk hC2 (fun h => h)) (fun h => by rcases h with h | h; exact blk_ne3 hC2 hS.cell (by decide) h; exact own_off hS.ty.row hC2 (by decide) h),
     ho'.blk (hR.blk hC3 (fun h => h)) (fun h => by rcases h with h | h; exact blk_ne3 hC3 hS.cell (by decide) h; exact own_off hS.ty.row hC3 (by decide) h)⟩
    exact ⟨h1, h2, h3, h9, h11, h48, h49, h50, h63, h64, h68, rfl, hE⟩
   ·-- state 12 of region 14
    rintro e w ⟨h1, h2, h3, h9, h11, h48, h49, h50, h63, h67, h68, hR⟩
    refine ⟨?_, ?_, trivial⟩
    ·skip
     refine WO.c rfl rfl (o_nil h63 ?_)
     exact ⟨h1, h2, h3, h9, h11, h48, h49, h50, h63, rfl, h67, h68, hR⟩
    skip
    refine WO.c rfl rfl (o_call Tryd.call15 (lc h68 ln) ((hcall _ hR).mono ?_))
    rintro v69 w69 ⟨tv', U', lv', rfl, hS', ho', -, -⟩
    have hE : (∃ tv' U' lv', BS w0 w69 b47 dv rv D.length (mkS D k).1 r.2 tv' U' lv' [] ∧ w69.ownsRow w0.heap.size 3 1 o1 (ordN D).length ((ordN D).map iv) ∧ w69.heap[b1]? = some (.cells #[dv] 24 (0, 0)) ∧ w69.heap[c2]? = some (.cells #[.slice none 0 0, .slice none 0 0] 29 (0, 0)) ∧ w69.heap[c3]? = some (.cells #[.int .i64 0, .int .i64 0] 32 (0, 0))) := ⟨tv', U', lv', hS', own_only (Wr ho1 hR) ho' (fun b hb h => by
     rcases h with h | h
     ·rw [h] at hb; exact own_off ho1 hS.cell (by decide) hb
     ·exact own_row_off hS.ty.row ho1 (by decide) b hb h),
     ho'.blk (hR.blk hC1 (fun h => h)) (fun h => by rcases h with h | h; exact blk_ne3 hC1 hS.cell (by decide) h; exact own_off hS.ty.row hC1 (by decide) h),
     ho'.blk (hR.blk hC2 (fun h => h)) (fun h => by rcases h with h | h; exact blk_ne3 hC2 hS.cell (by decide) h; exact own_off hS.ty.row hC2 (by decide) h),
     ho'.blk (hR.blk hC3 (fun h => h)) (fun h => by rcases h with h | h; exact blk_ne3 hC3 hS.cell (by decide) h; exact own_off hS.ty.row hC3 (by decide) h)⟩
    exact ⟨h1, h2, h3, h9, h11, h48, h49, h50, h63, h67, h68, rfl, hE⟩
   ·-- state 13 of region 14
    rintro e w ⟨h1, h2, h3, h9, h11, h48, h49, h50, h63, h68, h69, hE⟩
    refine ⟨?_, ?_, trivial⟩
    ·skip
     refine WO.c rfl rfl (o_nil h63 ?_)
     exact ⟨h1, h2, h3, h9, h11, h48, h49, h50, h63, rfl, h68, h69, hE⟩
    skip
    refine WO.c rfl rfl (Wf h11 ?_)
    exact ⟨h1, h2, h3, h9, h11, h48, h49, h50, h63, rfl, h68, h69, hE⟩
   ·-- state 14 of region 14
    rintro e w ⟨h1, h2, h3, h9, h11, h48, h49, h50, h67, h68, h69, hE⟩
    refine ⟨?_, trivial⟩
    skip
    refine WO.c rfl rfl (Wf h9 ?_)
    exact ⟨h1, h2, h3, h9, h11, h48, h49, h50, rfl, h67, h68, h69, hE⟩
   ·-- state 15 of region 14
    rintro e w ⟨h1, h2, h3, h9, h11, h48, h49, h50, h63, h64, h65, h66, hR⟩
    refine ⟨?_, ?_, trivial⟩
    ·skip
     refine WO.c rfl rfl (Wf h11 ?_)
     exact ⟨h1, h2, h3, h9, h11, h48, h49, h50, h63, h64, h65, h66, rfl, hR⟩
    skip
    refine WO.c rfl rfl (Wf h9 ?_)
    exact ⟨h1, h2, h3, h9, h11, h48, h49, h50, h63, h64, h65, h66, rfl, hR⟩
   ·-- state 16 of region 14
    rintro e w ⟨h1, h2, h3, h9, h11, h48, h49, h50, h63, h64, h65, h67, hR⟩
    refine ⟨?_, ?_, trivial⟩
    ·skip
     refine WO.c rfl rfl (Wk TI57 rfl h65 (show World.cell? _ ⟨b47, 0 + 2, none⟩ = some (.slice (some ⟨rb, 0, none⟩) D.length rc) from by first | exact (hS.ext hR).rvc hrvE | (obtain ⟨tv', U', lv', hS', -⟩ := hE; exact hS'.rvc hrvE)) ?_)
     exact ⟨h1, h2, h3, h9, h11, h48, h49, h50, h63, h64, h65, rfl, h67, hR⟩
    skip
    refine WO.c rfl rfl (Wf h9 ?_)
    exact ⟨h1, h2, h3, h9, h11, h48, h49, h50, h63, h64, h65, h67, rfl, hR⟩
   ·-- state 17 of region 14
    rintro e w ⟨h1, h2, h3, h9, h11, h48, h49, h50, h63, h64, h65, h68, hR⟩
    refine ⟨?_, ?_, ?_, trivial⟩
    ·skip
     refine WO.c rfl rfl (Wk TI57 rfl h65 (show World.cell? _ ⟨b47, 0 + 2, none⟩ = some (.slice (some ⟨rb, 0, none⟩) D.length rc) from by first | exact (hS.ext hR).rvc hrvE | (obtain ⟨tv', U', lv', hS', -⟩ := hE; exact hS'.rvc hrvE)) ?_)
     exact ⟨h1, h2, h3, h9, h11, h48, h49, h50, h63, h64, h65, rfl, h68, hR⟩
    ·skip
     refine WO.c rfl rfl (Wf h11 ?_)
     exact ⟨h1, h2, h3, h9, h11, h48, h49, h50, h63, h64, h65, rfl, h68, hR⟩
    skip
    refine WO.c rfl rfl (o_call Tryd.call15 (lc h68 ln) ((hcall _ hR).mono ?_))
    rintro v69 w69 ⟨tv', U', lv', rfl, hS', ho', -, -⟩
    have hE : (∃ tv' U' lv', BS w0 w69 b47 dv rv D.length (mkS D k).1 r.2 tv' U' lv' [] ∧ w69.ownsRow w0.heap.size 3 1 o1 (ordN D).length ((ordN D).map iv) ∧ w69.heap[b1]? = some (.cells #[dv] 24 (0, 0)) ∧ w69.heap[c2]? = some (.cells #[.slice none 0 0, .slice none 0 0] 29 (0, 0)) ∧ w69.heap[c3]? = some (.cells #[.int .i64 0, .int .i64 0] 32 (0, 0))) := ⟨tv', U', lv', hS', own_only (Wr ho1 hR) ho' (fun b hb h => by
     rcases h with h | h
     ·rw [h] at hb; exact own_off ho1 hS.cell (by decide) hb
     ·exact own_row_off hS.ty.row ho1 (by decide) b hb h),
     ho'.blk (hR.blk hC1 (fun h => h)) (fun h => by rcases h with h | h; exact blk_ne3 hC1 hS.cell (by decide) h; exact own_off hS.ty.row hC1 (by decide) h),
     ho'.blk (hR.blk hC2 (fun h => h)) (fun h => by rcases h with h | h; exact blk_ne3 hC2 hS.cell (by decide) h; exact own_off hS.ty.row hC2 (by decide) h),
     ho'.blk (hR.blk hC3 (fun h => h)) (fun h => by rcases h with h | h; exact blk_ne3 hC3 hS.cell (by decide) h; exact own_off hS.ty.row hC3 (by decide) h)⟩
    exact ⟨h1, h2, h3, h9, h11, h48, h49, h50, h63, h64, h65, h68, rfl, hE⟩
   ·-- state 18 of region 14
    rintro e w ⟨h1, h2, h3, h9, h11, h48, h49, h50, h63, h64, h67, h68, hR⟩
    refine ⟨?_, ?_, trivial⟩
    ·skip
     refine WO.c rfl rfl (Wl 2 TI63 rfl TI57 rfl h64 ?_)
     exact ⟨h1, h2, h3, h9, h11, h48, h49, h50, h63, h64, rfl, h67, h68, hR⟩
    skip
    refine WO.c rfl rfl (o_call Tryd.call15 (lc h68 ln) ((hcall _ hR).mono ?_))
    rintro v69 w69 ⟨tv', U', lv', rfl, hS', ho', -, -⟩
    have hE : (∃ tv' U' lv', BS w0 w69 b47 dv rv D.length (mkS D k).1 r.2 tv' U' lv' [] ∧ w69.ownsRow w0.heap.size 3 1 o1 (ordN D).length ((ordN D).map iv) ∧ w69.heap[b1]? = some (.cells #[dv] 24 (0, 0)) ∧ w69.heap[c2]? = some (.cells #[.slice none 0 0, .slice none 0 0] 29 (0, 0)) ∧ w69.heap[c3]? = some (.cells #[.int .i64 0, .int .i64 0] 32 (0, 0))) := ⟨tv', U', lv', hS', own_only (Wr ho1 hR) ho' (fun b hb h => by
     rcases h with h | h
     ·rw [h] at hb; exact own_off ho1 hS.cell (by decide) hb
     ·exact own_row_off hS.ty.row ho1 (by decide) b hb h),
     ho'.blk (hR.blk hC1 (fun h => h)) (fun h => by rcases h with h | h; exact blk_ne3 hC1 hS.cell (by decide) h; exact own_off hS.ty.row hC1 (by decide) h),
     ho'.blk (hR.blk hC2 (fun h => h)) (fun h => by rcases h with h | h; exact blk_ne3 hC2 hS.cell (by decide) h; exact own_off hS.ty.row hC2 (by decide) h),
     ho'.blk (hR.blk hC3 (fun h => h)) (fun h => by rcases h with h | h; exact blk_ne3 hC3 hS.cell (by decide) h; exact own_off hS.ty.row hC3 (by decide) h)⟩
    exact ⟨h1, h2, h3, h9, h11, h48, h49, h50, h63, h64, h67, h68, rfl, hE⟩
   ·-- state 19 of region 14
    rintro e w ⟨h1, h2, h3, h9, h11, h48, h49, h50, h63, h64, h68, h69, hE⟩
    refine ⟨?_, ?_, trivial⟩
    ·skip
     refine WO.c rfl rfl (Wl 2 TI63 rfl TI57 rfl h64 ?_)
     exact ⟨h1, h2, h3, h9, h11, h48, h49, h50, h63, h64, rfl, h68, h69, hE⟩
    skip
    refine WO.c rfl rfl (Wf h11 ?_)
    exact ⟨h1, h2, h3, h9, h11, h48, h49, h50, h63, h64, rfl, h68, h69, hE⟩
   ·-- state 20 of region 14
    rintro e w ⟨h1, h2, h3, h9, h11, h48, h49, h50, h63, h67, h68, h69, hE⟩
    refine ⟨?_, trivial⟩
    skip
    refine WO.c rfl rfl (o_nil h63 ?_)
    exact ⟨h1, h2, h3, h9, h11, h48, h49, h50, h63, rfl, h67, h68, h69, hE⟩
   ·-- state 21 of region 14
    rintro e w ⟨h1, h2, h3, h9, h11, h48, h49, h50, h63, h64, h65, h66, h67, hR⟩
    refine ⟨?_, trivial⟩
    skip
    refine WO.c rfl rfl (Wf h9 ?_)
    exact ⟨h1, h2, h3, h9, h11, h48, h49, h50, h63, h64, h65, h66, h67, rfl, hR⟩
   ·-- state 22 of region 14
    rintro e w ⟨h1, h2, h3, h9, h11, h48, h49, h50, h63, h64, h65, h66, h68, hR⟩
    refine ⟨?_, ?_, trivial⟩
    ·skip
     refine WO.c rfl rfl (Wf h11 ?_)
     exact ⟨h1, h2, h3, h9, h11, h48, h49, h50, h63, h64, h65, h66, rfl, h68, hR⟩
    skip
    refine WO.c rfl rfl (o_call Tryd.call15 (lc h68 ln) ((hcall _ hR).mono ?_))
    rintro v69 w69 ⟨tv', U', lv', rfl, hS', ho', -, -⟩
    have hE : (∃ tv' U' lv', BS w0 w69 b47 dv rv D.length (mkS D k).1 r.2 tv' U' lv' [] ∧ w69.ownsRow w0.heap.size 3 1 o1 (ordN D).length ((ordN D).map iv) ∧ w69.heap[b1]? = some (.cells #[dv] 24 (0, 0)) ∧ w69.heap[c2]? = some (.cells #[.slice none 0 0, .slice none 0 0] 29 (0, 0)) ∧ w69.heap[c3]? = some (.cells #[.int .i64 0, .int .i64 0] 32 (0, 0))) := ⟨tv', U', lv', hS', own_only (Wr ho1 hR) ho' (fun b hb h => by
     rcases h with h | h
     ·rw [h] at hb; exact own_off ho1 hS.cell (by decide) hb
     ·exact own_row_off hS.ty.row ho1 (by decide) b hb h),
     ho'.blk (hR.blk hC1 (fun h => h)) (fun h => by rcases h with h | h; exact blk_ne3 hC1 hS.cell (by decide) h; exact own_off hS.ty.row hC1 (by decide) h),
     ho'.blk (hR.blk hC2 (fun h => h)) (fun h => by rcases h with h | h; exact blk_ne3 hC2 hS.cell (by decide) h; exact own_off hS.ty.row hC2 (by decide) h),
     ho'.blk (hR.blk hC3 (fun h => h)) (fun h => by rcases h with h | h; exact blk_ne3 hC3 hS.cell (by decide) h; exact own_off hS.ty.row hC3 (by decide) h)⟩
    exact ⟨h1, h2, h3, h9, h11, h48, h49, h50, h63, h64, h65, h66, h68, rfl, hE⟩
   ·-- state 23 of region 14
    rintro e w ⟨h1, h2, h3, h9, h11, h48, h49, h50, h63, h64, h65, h67, h68, hR⟩
    refine ⟨?_, ?_, trivial⟩
    ·skip
     refine WO.c rfl rfl (Wk TI57 rfl h65 (show World.cell? _ ⟨b47, 0 + 2, none⟩ = some (.slice (some ⟨rb, 0, none⟩) D.length rc) from by first | exact (hS.ext hR).rvc hrvE | (obtain ⟨tv', U', lv', hS', -⟩ := hE; exact hS'.rvc hrvE)) ?_)
     exact ⟨h1, h2, h3, h9, h11, h48, h49, h50, h63, h64, h65, rfl, h67, h68, hR⟩
    skip
    refine WO.c rfl rfl (o_call Tryd.call15 (lc h68 ln) ((hcall _ hR).mono ?_))
    rintro v69 w69 ⟨tv', U', lv', rfl, hS', ho', -, -⟩
    have hE : (∃ tv' U' lv', BS w0 w69 b47 dv rv D.length (mkS D k).1 r.2 tv' U' lv' [] ∧ w69.ownsRow w0.heap.size 3 1 o1 (ordN D).length ((ordN D).map iv) ∧ w69.heap[b1]? = some (.cells #[dv] 24 (0, 0)) ∧ w69.heap[c2]? = some (.cells #[.slice none 0 0, .slice none 0 0] 29 (0, 0)) ∧ w69.heap[c3]? = some (.cells #[.int .i64 0, .int .i64 0] 32 (0, 0))) := ⟨tv', U', lv', hS', own_only (Wr ho1 hR) ho' (fun b hb h => by
     rcases h with h | h
     ·rw [h] at hb; exact own_off ho1 hS.cell (by decide) hb
     ·exact own_row_off hS.ty.row ho1 (by decide) b hb h),
     ho'.blk (hR.blk hC1 (fun h => h)) (fun h => by rcases h with h | h; exact blk_ne3 hC1 hS.cell (by decide) h; exact own_off hS.ty.row hC1 (by decide) h),
     ho'.blk (hR.blk hC2 (fun h => h)) (fun h => by rcases h with h | h; exact blk_ne3 hC2 hS.cell (by decide) h; exact own_off hS.ty.row hC2 (by decide) h),
     ho'.blk (hR.blk hC3 (fun h => h)) (fun h => by rcases h with h | h; exact blk_ne3 hC3 hS.cell (by decide) h; exact own_off hS.ty.row hC3 (by decide) h)⟩
    exact ⟨h1, h2, h3, h9, h11, h48, h49, h50, h63, h64, h65, h67, h68, rfl, hE⟩
   ·-- state 24 of region 14
    rintro e w ⟨h1, h2, h3, h9, h11, h48, h49, h50, h63, h64, h65, h68, h69, hE⟩
    refine ⟨?_, ?_, trivial⟩
    ·skip
     refine WO.c rfl rfl (Wk TI57 rfl h65 (show World.cell? _ ⟨b47, 0 + 2, none⟩ = some (.slice (some ⟨rb, 0, none⟩) D.length rc) from by first | exact (hS.ext hR).rvc hrvE | (obtain ⟨tv', U', lv', hS', -⟩ := hE; exact hS'.rvc hrvE)) ?_)
     exact ⟨h1, h2, h3, h9, h11, h48, h49, h50, h63, h64, h65, rfl, h68, h69, hE⟩
    skip
    refine WO.c rfl rfl (Wf h11 ?_)
    exact ⟨h1, h2, h3, h9, h11, h48, h49, h50, h63, h64, h65, rfl, h68, h69, hE⟩
   ·-- state 25 of region 14
    rintro e w ⟨h1, h2, h3, h9, h11, h48, h49, h50, h63, h64, h67, h68, h69, hE⟩
    refine ⟨?_, trivial⟩
    skip
    refine WO.c rfl rfl (Wl 2 TI63 rfl TI57 rfl h64 ?_)
    exact ⟨h1, h2, h3, h9, h11, h48, h49, h50, h63, h64, rfl, h67, h68, h69, hE⟩
   ·-- state 26 of region 14
    rintro e w ⟨h1, h2, h3, h9, h11, h48, h49, h50, h63, h64, h65, h66, h67, h68, hR⟩
    refine ⟨?_, trivial⟩
    skip
    refine WO.c rfl rfl (o_call Tryd.call15 (lc h68 ln) ((hcall _ hR).mono ?_))
    rintro v69 w69 ⟨tv', U', lv', rfl, hS', ho', -, -⟩
    have hE : (∃ tv' U' lv', BS w0 w69 b47 dv rv D.length (mkS D k).1 r.2 tv' U' lv' [] ∧ w69.ownsRow w0.heap.size 3 1 o1 (ordN D).length ((ordN D).map iv) ∧ w69.heap[b1]? = some (.cells #[dv] 24 (0, 0)) ∧ w69.heap[c2]? = some (.cells #[.slice none 0 0, .slice none 0 0] 29 (0, 0)) ∧ w69.heap[c3]? = some (.cells #[.int .i64 0, .int .i64 0] 32 (0, 0))) := ⟨tv', U', lv', hS', own_only (Wr ho1 hR) ho' (fun b hb h => by
     rcases h with h | h
     ·rw [h] at hb; exact own_off ho1 hS.cell (by decide) hb
     ·exact own_row_off hS.ty.row ho1 (by decide) b hb h),
     ho'.blk (hR.blk hC1 (fun h => h)) (fun h => by rcases h with h | h; exact blk_ne3 hC1 hS.cell (by decide) h; exact own_off hS.ty.row hC1 (by decide) h),
     ho'.blk (hR.blk hC2 (fun h => h)) (fun h => by rcases h with h | h; exact blk_ne3 hC2 hS.cell (by decide) h; exact own_off hS.ty.row hC2 (by decide) h),
     ho'.blk (hR.blk hC3 (fun h => h)) (fun h => by rcases h with h | h; exact blk_ne3 hC3 hS.cell (by decide) h; exact own_off hS.ty.row hC3 (by decide) h)⟩
    exact ⟨h1, h2, h3, h9, h11, h48, h49, h50, h63, h64, h65, h66, h67, h68, rfl, hE⟩
   ·-- state 27 of region 14
    rintro e w ⟨h1, h2, h3, h9, h11, h48, h49, h50, h63, h64, h65, h66, h68, h69, hE⟩
    refine ⟨?_, trivial⟩
    skip
    refine WO.c rfl rfl (Wf h11 ?_)
    exact ⟨h1, h2, h3, h9, h11, h48, h49, h50, h63, h64, h65, h66, rfl, h68, h69, hE⟩
   ·-- state 28 of region 14
    rintro e w ⟨h1, h2, h3, h9, h11, h48, h49, h50, h63, h64, h65, h67, h68, h69, hE⟩
    refine ⟨?_, trivial⟩
    skip
    refine WO.c rfl rfl (Wk TI57 rfl h65 (show World.cell? _ ⟨b47, 0 + 2, none⟩ = some (.slice (some ⟨rb, 0, none⟩) D.length rc) from by first | exact (hS.ext hR).rvc hrvE | (obtain ⟨tv', U', lv', hS', -⟩ := hE; exact hS'.rvc hrvE)) ?_)
    exact ⟨h1, h2, h3, h9, h11, h48, h49, h50, h63, h64, h65, rfl, h67, h68, h69, hE⟩
   ·-- state 29 of region 14
    rintro e w ⟨h1, h2, h3, h9, h11, h48, h49, h50, h63, h64, h65, h66, h67, h68, h69, hE⟩
    refine ⟨?_, trivial⟩
    skip
    refine WO.c rfl rfl (Wt (i := i) TI57 TI3 h66 h67 (by omega) ?_)
    exact ⟨h1, h2, h3, h9, h11, h48, h49, h50, h63, h64, h65, h66, h67, h68, h69, rfl, hE⟩
   ·-- state 30 of region 14
    rintro e w ⟨h1, h2, h3, h9, h11, h48, h49, h50, h63, h64, h65, h66, h67, h68, h69, h70, hE⟩
    obtain ⟨tv', U', lv', hS', ho1', hC1', hC2', hC3'⟩ := hE
    have hro' := hS'.ro
    rw [hrvE] at hro'
    refine ⟨?_, trivial⟩
    skip
    refine WO.u rfl (o_stRj TI3 h70 (show 0 + i * 1 = i by omega) h69 rfl hro' (show Value.ownBlock (Value.slice (some ⟨rb, 0, none⟩) D.length rc) = some rb from rfl) (by omega) ?_)
    intro w8 hrt ho8 hs8
    rw [zvs_set] at hrt
    have hE : (∃ tv' U' lv', BS w0 w8 b47 dv rv D.length (upI (mkS D k).1 i r.1) r.2 tv' U' lv' [] ∧ w8.ownsRow w0.heap.size 3 1 o1 (ordN D).length ((ordN D).map iv) ∧ w8.heap[b1]? = some (.cells #[dv] 24 (0, 0)) ∧ w8.heap[c2]? = some (.cells #[.slice none 0 0, .slice none 0 0] 29 (0, 0)) ∧ w8.heap[c3]? = some (.cells #[.int .i64 0, .int .i64 0] 32 (0, 0))) := ⟨tv', U', lv', ⟨ho8.blk hS'.cell (fun h => own_off hro' hS'.cell (by decide) h), hS'.ty.only ho8 (fun b hb h => by
      rcases hb with hb | ⟨j, hj, hb⟩
      ·exact own_row_off hS'.ty.row hro' (by decide) b h hb
      exact own_row_off (hS'.ty.tys.row j hj) hro' (by decide) b h hb), by rw [hrvE]; exact hrt, hS'.lf, hS'.ex.trans' ho8 (fun _ h => h) (fun b hb h => by have := (hro'.lt b h).1; omega), hS'.pH⟩,
     own_only ho1' ho8 (fun b hb h => by have h1 := ho1l b hb; have h2 := hrvl b (by rw [hrvE]; exact h); omega),
     ho8.blk hC1' (fun h => own_off hro' hC1' (by decide) h), ho8.blk hC2' (fun h => own_off hro' hC2' (by decide) h), ho8.blk hC3' (fun h => own_off hro' hC3' (by decide) h)⟩
    exact ⟨h1, h2, h3, h9, h11, h48, h49, h50, h63, h64, h65, h66, h67, h68, h69, h70, hE⟩
   -- state 31 of region 14
   rintro e w ⟨h1, h2, h3, h9, h11, h48, h49, h50, h63, h64, h65, h66, h67, h68, h69, h70, hE⟩
   obtain ⟨tv', U', lv', hS', ho1', hC1', hC2', hC3'⟩ := hE
   refine Wb (Wa rfl (o_addi h50 rfl (by omega) (Wa rfl (Wf vI (Wc ?_)))))
   have hsc := mkS_succ hk1
   rw [← hie, ← hr] at hsc
   refine ⟨⟨k + 1, tv', U', lv', [], by omega, h1, h2, h3, h9, h48.trans hV.symm, h49, rfl, by rw [hsc]; exact hS', ho1', hC1', hC2', hC3', by rw [hsc]; show r.2.length ≤ _; omega⟩, ?_⟩
   show (ordN D).length - ((k : Int) + 1).toNat < _
   rw [hm50]; simp [intOf]; omega
  try simp only [cs8] at c51
  have hk1 : k = (ordN D).length := by omega
  obtain ⟨F, hF⟩ : ∃ x, x = (mkS D k).1 := ⟨_, rfl⟩
  obtain ⟨L, hL⟩ : ∃ x, x = (mkS D k).2 := ⟨_, rfl⟩
  rw [← hF, ← hL] at hS
  have hsT : schT D = L := by rw [hL, hk1, mkS_all]; rfl
  have hsR : schR D = rooN D F := by rw [hF, hk1, mkS_all]; rfl
  refine W.exit (We (Wb (Wa rfl (Wf h9 (Wa rfl (o_nil rfl (Wa rfl (Wl 1 TI63 rfl TI26 rfl rfl (Wa rfl (Wk TI26 rfl rfl (Wh hS.cell rfl) (Wa rfl (o_bldC (cs := [tv, .slice none 0 0]) TI29 (Sizes.cons TI26 (Sizes.cons TI27 Sizes.nil)) rfl (lcp (show _ = tv from rfl) lnp) (by simp [own_one hS.ty.row]) rfl (Wa rfl (o_alB TI29 ?_))))))))))))))
  intro wa hCa hxa hsa
  refine WL.u (o_stA TI29 rfl (show _ = Value.agg ([tv, .slice none 0 0]).toArray from rfl) rfl (by simp [own_one hS.ty.row, show (Value.slice none 0 0).oneCell' = true from rfl]) hCa rfl ?_)
  intro wb12 hC12 hob hsb
  have hxb := Ext.own hxa (Nat.le_refl _) hob
  obtain ⟨b12, hb12⟩ : ∃ b, b = w.heap.size := ⟨_, rfl⟩
  rw [← hb12] at hC12 ⊢
  clear hCa hxa hsa hob hsb
  have hc212 : ¬ c2 = b12 := by have := blk_lt3 hC2; omega
  have hz12 : w0.heap.size ≤ b12 := by have := hS.ex.size; omega
  replace hS := hS.ext hxb
  replace hC1 := hxb.blk hC1 (fun h => h)
  replace hC2 := hxb.blk hC2 (fun h => h)
  replace hC3 := hxb.blk hC3 (fun h => h)
  clear hxb
  refine Wc (We (We (Wb (Wa rfl (Wl 0 TI24 rfl TI22 rfl h1 (Wa rfl (Wk TI22 rfl rfl (Wh hC1 rfl) (Wa rfl (Ws TI22 rfl ((hD00.ext hS.ex).row) (Wa rfl (Wf vI (Wc (W.block (W.loop (fun e w => ∃ (q : Nat) (qv : Value), q ≤ D.length ∧ e 2 = .pointer (some ⟨c2, 0, none⟩) ∧ e 3 = .pointer (some ⟨c3, 0, none⟩) ∧ e 9 = .pointer (some ⟨b47, 0, none⟩) ∧ e 12 = .pointer (some ⟨b12, 0, none⟩) ∧ e 78 = dv ∧ e 79 = .int .i64 (D.length : Int) ∧ e 80 = .int .i64 (q : Int) ∧ BS w0 w b47 dv rv D.length F L tv U lv left ∧ w.heap[b12]? = some (.cells #[tv, qv] 29 (0, 0)) ∧ w.ownsRow w0.heap.size 51 2 qv q (ros ((rooN D F).take q)) ∧ w.heap[c2]? = some (.cells #[.slice none 0 0, .slice none 0 0] 29 (0, 0)) ∧ w.heap[c3]? = some (.cells #[.int .i64 0, .int .i64 0] 32 (0, 0))) (fun e w => D.length - (intOf (e 80)).toNat) ?_ ?_))))))))))))))
  ·exact ⟨0, .slice none 0 0, Nat.zero_le _, h2, h3, h9, rfl, rfl, rfl, rfl, hS, hC12, World.ownsRow_nil _ _ _ _, hC2, hC3⟩
  rintro e w ⟨q, qv, hq, h2, h3, h9, h12, h78, h79, h80, hS, hC12, hqv, hC2, hC3⟩
  have hm80 := h80
  refine We (Wb (Wa rfl (o_lt h80 h79 (Wc (We (Wn rfl (fun c81 => ?_) (fun c81 => ?_)))))))
  ·try simp only [cs8] at c81
   have hq1 : q < D.length := by omega
   obtain ⟨gb, go, gc, hdv, hgc, hty⟩ := (hD00.ext hS.ex).atk hq1
   rw [hdv] at h78
   refine Wp (We (W.block (We (Wb (Wa rfl (Wf h80 (Wa rfl (Wt (i := q) TI22 TI38 h78 h80 (by omega) (Wa rfl (o_ldA TI38 rfl rfl hgc rfl (Wa rfl (o_alB TI38 ?_))))))))))))
   intro wa hCa hxa hsa
   refine Wa rfl (Wg vI (WL.u (o_stA TI38 rfl (show _ = Value.agg (dcell D[q] (V q)).toArray from rfl) rfl (by simp only [dcell, List.toArray, Array.toList, List.all_cons, List.all_nil, sl_one1 hty]; rfl) hCa rfl ?_)))
   intro wb14 hC14 hob hsb
   have hxb := Ext.own hxa (Nat.le_refl _) hob
   obtain ⟨b14, hb14⟩ : ∃ b, b = w.heap.size := ⟨_, rfl⟩
   rw [← hb14] at hC14 ⊢
   clear hCa hxa hsa hob hsb
   replace hS := hS.ext hxb
   replace hqv := Wr hqv hxb
   replace hC12 := hxb.blk hC12 (fun h => h)
   replace hC2 := hxb.blk hC2 (fun h => h)
   replace hC3 := hxb.blk hC3 (fun h => h)
   clear hxb
   refine Wc ?_
   obtain ⟨RR, hRR⟩ : ∃ x : Ro, x = ⟨D[q].name, F q⟩ := ⟨_, rfl⟩
   obtain ⟨wd2, hwd2⟩ : ∃ wd, wd = wb14.drew := ⟨_, rfl⟩
   have hxd : Ext wb14 wd2 := hwd2 ▸ Only.drew wb14
   replace hS := hS.ext hxd
   replace hqv := Wr hqv hxd
   replace hC12 := hxd.blk hC12 (fun h => h)
   replace hC2 := hxd.blk hC2 (fun h => h)
   replace hC3 := hxd.blk hC3 (fun h => h)
   replace hC14 := hxd.blk hC14 (fun h => h)
   have hlt : ∀ b, qv.ownBlock = some b → b < wd2.heap.size := fun b hb => (hqv.lt b hb).2
   have hw00 := hS.ex.size
   obtain ⟨rb, rc, hrvE, hrvb⟩ := own_some hS.ro (by omega)
   refine W.drawF 14 [13] [fun k => qv.ownBlock = some k] [(2, fun v _ => v = _), (3, fun v _ => v = _), (9, fun v _ => v = _), (12, fun v _ => v = _), (13, fun v _ => v = _), (14, fun v _ => v = _), (78, fun v _ => v = _), (79, fun v _ => v = _), (80, fun v _ => v = _)] rfl (by kernel_rfl) (by kernel_rfl) ⟨Mono.eq, Mono.eq, Mono.eq, Mono.eq, Mono.eq, Mono.eq, Mono.eq, Mono.eq, Mono.eq, trivial⟩ ⟨h2, h3, h9, h12, rfl, rfl, h78, h79, h80, trivial⟩ (WDS.p rfl (by decide) (fun e w hR hh => by obtain ⟨h12, -⟩ := hh; exact SG.n (Wl 1 TI29 rfl TI27 rfl h12 ⟨rfl, Only.refl No _⟩)) (WDS.p rfl (by decide) (fun e w hR hh => by obtain ⟨h85, -⟩ := hh; rw [← hwd2] at hR; have hc := hR.blk hC12 (fun hF => by rcases hF with hF | hF <;> first | exact hF | exact own_off hqv hC12 (by decide) hF); exact SG.n (Wk TI27 rfl h85 (Wh hc rfl) ⟨rfl, Only.refl No _⟩)) (WDS.p rfl (by decide) (fun e w hR hh => by obtain ⟨h14, -⟩ := hh; exact SG.n (Wl 0 TI38 rfl TI9 rfl h14 ⟨rfl, Only.refl No _⟩)) (WDS.p rfl (by decide) (fun e w hR hh => by obtain ⟨h87, -⟩ := hh; rw [← hwd2] at hR; have hc := hR.blk hC14 (fun hF => by rcases hF with hF | hF <;> first | exact hF | exact own_off hqv hC14 (by decide) hF); exact SG.n (Wk TI9 rfl h87 (Wh hc rfl) ⟨rfl, Only.refl No _⟩)) (WDS.p rfl (by decide) (fun e w hR hh => by obtain ⟨h9, -⟩ := hh; exact SG.n (Wf h9 ⟨rfl, Only.refl No _⟩)) (WDS.p rfl (by decide) (fun e w hR hh => by obtain ⟨h89, -⟩ := hh; exact SG.n (o_nil h89 ⟨rfl, Only.refl No _⟩)) (WDS.p rfl (by decide) (fun e w hR hh => by obtain ⟨h90, -⟩ := hh; exact SG.n (Wl 2 TI63 rfl TI57 rfl h90 ⟨rfl, Only.refl No _⟩)) (WDS.p rfl (by decide) (fun e w hR hh => by obtain ⟨h91, -⟩ := hh; rw [← hwd2] at hR; have hc := hR.blk hS.cell (fun hF => by rcases hF with hF | hF <;> first | exact hF | exact own_off hqv hS.cell (by decide) hF); exact SG.n (Wk TI57 rfl h91 (show World.cell? _ ⟨b47, 0 + 2, none⟩ = some (.slice (some ⟨rb, 0, none⟩) D.length rc) from by rw [← hrvE]; exact Wh hc rfl) ⟨rfl, Only.refl No _⟩)) (WDS.p rfl (by decide) (fun e w hR hh => by obtain ⟨h13, -⟩ := hh; exact SG.n (Wf h13 ⟨rfl, Only.refl No _⟩)) (WDS.p rfl (by decide) (fun e w hR hh => by obtain ⟨h93, h92, -⟩ := hh; exact SG.n (Wt (i := q) TI57 TI3 h92 h93 (by omega) ⟨rfl, Only.refl No _⟩)) (WDS.p rfl (by decide) (fun e w hR hh => by obtain ⟨h94, -⟩ := hh; rw [← hwd2] at hR; have hro := own_only hS.ro hR (fun b hb => fun hF => by rcases hF with hF | hF <;> first | exact hF | exact own_row_off hqv hS.ro (by decide) b hb hF); rw [hrvE] at hro; exact SG.n (Wk TI3 rfl h94 (show World.cell? _ ⟨rb, 0 + q * 1, none⟩ = some (.int .i64 (F q)) from by rw [Nat.zero_add, Nat.mul_one]; exact own_cell hro (zvs_at hq1)) ⟨rfl, Only.refl No _⟩)) (WDS.p rfl (by decide) (fun e w hR hh => by obtain ⟨h95, h88, -⟩ := hh; exact SG.n (o_bldC (cs := [_, _]) TI51 (Sizes.cons TI9 (Sizes.cons TI3 Sizes.nil)) rfl (lcp h88 (lcp h95 lnp)) rfl rfl ⟨rfl, Only.refl No _⟩)) (WDS.q 0 (fun v w => w.ownsRow wd2.heap.size 51 2 v 1 (roV RR)) (fun v w w2 hR hh => own_only hh hR (fun k hk hF => by rcases hF with hF | hF <;> first | exact hF | (have := hlt k hF; have := (hh.lt k hk).1; omega))) (by kernel_rfl) rfl (by decide) (fun e w hR hh => by obtain ⟨h96, -⟩ := hh; rw [← hwd2] at hR; exact SG.n (o_bs1 TI27 TI51 (show _ = Value.agg (roV RR).toArray from by rw [hRR]; exact h96) (by decide) (by decide) rfl ⟨own_mono (own_new1 rfl) hR.size, Only.alloc w _⟩)) (WDS.mf 0 1 (fun v w => w.ownsRow w0.heap.size 51 2 v (q + 1) (ros ((rooN D F).take q) ++ roV RR)) (fun v w w2 hR hh => Wr hh hR) (by kernel_rfl) rfl rfl rfl (fun e w hR hW hh => by obtain ⟨h97, h86, -⟩ := hh; rw [← hwd2] at hR hW; have hW2 : Ext wd2 w := hW.mono (fun _ _ h => h); have hw2 := hR.size; exact SGX.n (OP.x (o_apO w0.heap.size TI27 TI51 h86 rfl (Wr hqv hW2) (Sl.own h97) rfl (by decide) (roV_all RR) (by rw [maxLen_eq]; omega) (by omega) (by omega) (fun v' w' h1 h2 h3 _ => ⟨h1, h2⟩)))) ?_))))))))))))))
   rintro e w hR ⟨h98, h97, h96, h95, h94, h93, h92, h91, h90, h89, h88, h87, h86, h85, h2, h3, h9, h12, h13, h14, h78, h79, h80, -⟩
   rw [← hwd2] at hR
   obtain ⟨v98, hv98⟩ : ∃ v, v = e 98 := ⟨_, rfl⟩
   rw [← hv98] at h98
   replace hC12 := hR.blk hC12 (fun hF => by rcases hF with hF | hF <;> first | exact hF | exact own_off hqv hC12 (by decide) hF)
   replace hC2 := hR.blk hC2 (fun hF => by rcases hF with hF | hF <;> first | exact hF | exact own_off hqv hC2 (by decide) hF)
   replace hC3 := hR.blk hC3 (fun hF => by rcases hF with hF | hF <;> first | exact hF | exact own_off hqv hC3 (by decide) hF)
   replace hS := hS.only hR (fun hF => by rcases hF with hF | hF <;> first | exact hF | exact own_off hqv hS.cell (by decide) hF) (fun b hb => fun hF => by rcases hF with hF | hF <;> first | exact hF | exact own_row_off hqv hS.ty.row (by decide) b hb hF) (fun j hj b hb => fun hF => by rcases hF with hF | hF <;> first | exact hF | exact own_row_off hqv (hS.ty.tys.row j hj) (by decide) b hb hF) (fun b hb => fun hF => by rcases hF with hF | hF <;> first | exact hF | exact own_row_off hqv hS.ro (by decide) b hb hF) (fun b hF => by rcases hF with hF | hF <;> first | exact (hqv.lt b hF).1 | exact hF.elim)
   refine Wa rfl (Wl 1 TI29 rfl TI27 rfl h12 (WL.u (o_stB TI27 rfl (show _ = v98 from hv98.symm) (own_one h98) hC12 (show 1 < 2 by decide) ?_)))
   intro w9 hC12n ho9 hs9
   replace hC12n : w9.heap[b12]? = some (.cells #[tv, v98] 29 (0, 0)) := hC12n
   have hof := hS.off hC12 (by decide) (by decide) (by decide)
   have hnt : ∀ b, tv.ownBlock = some b → ¬ b = b12 := fun b hb e => by subst e; exact own_off hS.ty.row hC12 (by decide) hb
   replace hS := hS.only ho9 hof.1 hnt hof.2.1 hof.2.2 (fun b e => by omega)
   have hqv2 := own_only h98 ho9 (fun b hb e => by subst e; exact own_off h98 hC12 (by decide) hb)
   replace hC2 := ho9.blk hC2 hc212
   replace hC3 := ho9.blk hC3 (blk_ne3 hC3 hC12 (by decide))
   refine Wc (Wb (Wa rfl (o_addi h80 rfl (by omega) (Wa rfl (Wf vI (Wc (⟨⟨q + 1, v98, by omega, h2, h3, h9, h12, h78.trans hdv.symm, h79, rfl, hS, hC12n, by rw [rooN_take hq1, ros_snoc, ← hRR]; exact hqv2, hC2, hC3⟩, ?_⟩)))))))
   show D.length - ((q : Int) + 1).toNat < _
   rw [hm80]; simp [intOf]; omega
  try simp only [cs8] at c81
  have hq1 : q = D.length := by omega
  refine W.exit (We ?_)
  skip
  skip
  refine Wb (Wa rfl (o_ldA TI29 rfl h12 (show Cells _ b12 0 [tv, qv] from Cells.of hC12 0 _ (by simp)) rfl (Wa rfl (o_bldC (cs := [(.int .i64 0), (.int .i64 0)]) TI32 (Sizes.cons TI30 (Sizes.cons TI3 Sizes.nil)) rfl lnp rfl rfl (WL.u (o_stA TI29 h2 (show _ = Value.agg #[tv, qv] from rfl) rfl (by simp [own_one hqv, own_one hS.ty.row]) hC2 rfl ?_))))))
  intro wy hC2y hoy hsy
  replace hC2y : wy.heap[c2]? = some (.cells #[tv, qv] 29 (0, 0)) := hC2y
  have hTy := hS.ty.only hoy (fun b hb e => by
   subst e
   rcases hb with hb | ⟨j, hj, hb⟩
   ·exact own_off hS.ty.row hC2 (by decide) hb
   exact own_off (hS.ty.tys.row j hj) hC2 (by decide) hb)
  replace hqv := own_only hqv hoy (fun b hb e => by subst e; exact own_off hqv hC2 (by decide) hb)
  have hx := hS.ex.trans' hoy (fun _ h => h) (fun b hb e => by omega)
  replace hC3 := hoy.blk hC3 (blk_ne3 hC3 hC2 (by decide))
  refine WL.u (o_stA TI32 h3 (show _ = Value.agg #[.int .i64 0, .int .i64 0] from rfl) rfl rfl hC3 rfl ?_)
  intro wz hC3z hoz hsz
  replace hC2y := hoz.blk hC2y (blk_ne3 hC2y hC3 (by decide))
  replace hTy := hTy.only hoz (fun b hb e => by
   subst e
   rcases hb with hb | ⟨j, hj, hb⟩
   ·exact own_off hTy.row hC3 (by decide) hb
   exact own_off (hTy.tys.row j hj) hC3 (by decide) hb)
  replace hqv := own_only hqv hoz (fun b hb e => by subst e; exact own_off hqv hC3 (by decide) hb)
  replace hx := hx.trans' hoz (fun _ h => h) (fun b hb e => by omega)
  refine Wc (Wm (retAA rfl TI29 rfl TI32 rfl h2 h3 (show Cells _ c2 0 [tv, qv] from Cells.of hC2y 0 _ (by simp)) rfl (show Cells _ c3 0 [.int .i64 0, .int .i64 0] from Cells.of hC3z 0 _ (by simp)) rfl ?_))
  obtain ⟨hv1, hv2⟩ := bldV_no hbl
  refine ⟨tv, qv, U, by rw [hv1, hv2], ?_, hx⟩
  have e1 : bldT D = L := by unfold bldT; rw [if_pos hbl, hsT]
  have e2 : bldR D = rooN D F := by unfold bldR; rw [if_pos hbl, hsR]
  have e3 : (rooN D F).length = D.length := by simp [rooN]
  rw [e1, e2, hb1]
  rw [hq1, List.take_of_length_le (by rw [e3]; exact Nat.le_refl _)] at hqv
  exact ⟨hTy, by rw [e3]; exact hqv⟩
 skip
 obtain ⟨ge, hge⟩ : ∃ x, x = fe := ⟨_, rfl⟩
 obtain ⟨ga, hga⟩ : ∃ x, x = fa := ⟨_, rfl⟩
 rw [← hge, ← hga] at hC8
 have hb : bldF D = some (ge, ga) := by rw [hge, hga]; exact bld_fA hck (fA_of_flt hf hfe)
 refine Wb (Wa rfl (Wl 0 TI32 rfl TI30 rfl rfl (Wa rfl (Wk TI30 rfl rfl (Wh hC8 rfl) (Wa rfl (o_eq rfl rfl (Wc (W.condF' rfl (by simp; rw [hge]; exact hfe) (Wp (We (We (Wb (Wa rfl (Wl 0 TI32 rfl TI30 rfl rfl (Wa rfl (Wk TI30 rfl rfl (Wh hC8 rfl) (Wa rfl (o_ne rfl rfl (Wc (W.condT' rfl (by simp; rw [hge]; exact hfe) (We ?_)))))))))))))))))))))
 skip
 skip
 refine W.cut (fun e1 w1 => e1 2 = .pointer (some ⟨c2, 0, none⟩) ∧ e1 3 = .pointer (some ⟨c3, 0, none⟩) ∧ w1.heap[c2]? = some (.cells #[.slice none 0 0, .slice none 0 0] 29 (0, 0)) ∧ w1.heap[c3]? = some (.cells #[.int .i64 ge, .int .i64 ga] 32 (0, 0)) ∧ Ext w0 w1) ?_ ?_
 ·-- region 8
  refine W.enum rfl ?_
  have hd := Only.drew wb8
  replace hC2 := hd.blk hC2 (fun h => h)
  replace hC3 := hd.blk hC3 (fun h => h)
  replace hC8 := hd.blk hC8 (fun h => h)
  replace hx := hx.tr hd
  clear hd
  generalize wb8.drew = wd at *
  refine WA.step (r := [0, 1]) (by kernel_rfl) (by decide) (all2 ?_ ?_)
  ·skip
   refine WO.c rfl rfl (o_bldC (cs := [(.slice none 0 0), (.slice none 0 0)]) TI29 (Sizes.cons TI26 (Sizes.cons TI27 Sizes.nil)) rfl lnp rfl rfl (WA.step (r := [1, 2]) (by kernel_rfl) (by decide) (all2 ?_ ?_)))
   ·skip
    refine WO.c rfl rfl (o_ldA TI32 rfl rfl (show Cells _ b8 0 [.int .i64 ge, .int .i64 ga] from Cells.of hC8 0 _ (by simp)) rfl (WA.step (r := [2]) (by kernel_rfl) (by decide) (all1 (WO.u rfl (o_stA TI29 rfl (show _ = Value.agg #[.slice none 0 0, .slice none 0 0] from rfl) rfl rfl hC2 rfl ?_)))))
    intro wy hC2y hoy hsy
    replace hC3 := hoy.blk hC3 (blk_ne3 hC3 hC2 (by decide))
    replace hC8 := hoy.blk hC8 (blk_ne3 hC8 hC2 (by decide))
    replace hx := hx.trans' hoy (fun _ h => h) (fun b hb he => by omega)
    replace hC2 : wy.heap[c2]? = some (.cells #[.slice none 0 0, .slice none 0 0] 29 (0, 0)) := hC2y
    refine WA.step (r := [3]) (by kernel_rfl) (by decide) (all1 (WO.u rfl (o_stA TI32 rfl (show _ = Value.agg #[.int .i64 ge, .int .i64 ga] from rfl) rfl rfl hC3 rfl ?_)))
    intro wz hC3z hoz hsz
    replace hC2 := hoz.blk hC2 (blk_ne3 hC2 hC3 (by decide))
    replace hx := hx.trans' hoz (fun _ h => h) (fun b hb he => by omega)
    replace hC3 : wz.heap[c3]? = some (.cells #[.int .i64 ge, .int .i64 ga] 32 (0, 0)) := hC3z
    refine WA.done (by kernel_rfl) ?_
    exact ⟨rfl, rfl, hC2, hC3, hx⟩
   skip
   refine WO.u rfl (o_stA TI29 rfl (show _ = Value.agg #[.slice none 0 0, .slice none 0 0] from rfl) rfl rfl hC2 rfl ?_)
   intro wy hC2y hoy hsy
   replace hC3 := hoy.blk hC3 (blk_ne3 hC3 hC2 (by decide))
   replace hC8 := hoy.blk hC8 (blk_ne3 hC8 hC2 (by decide))
   replace hx := hx.trans' hoy (fun _ h => h) (fun b hb he => by omega)
   replace hC2 : wy.heap[c2]? = some (.cells #[.slice none 0 0, .slice none 0 0] 29 (0, 0)) := hC2y
   refine WA.step (r := [1]) (by kernel_rfl) (by decide) (all1 (WO.c rfl rfl (o_ldA TI32 rfl rfl (show Cells _ b8 0 [.int .i64 ge, .int .i64 ga] from Cells.of hC8 0 _ (by simp)) rfl (WA.step (r := [3]) (by kernel_rfl) (by decide) (all1 (WO.u rfl (o_stA TI32 rfl (show _ = Value.agg #[.int .i64 ge, .int .i64 ga] from rfl) rfl rfl hC3 rfl ?_)))))))
   intro wz hC3z hoz hsz
   replace hC2 := hoz.blk hC2 (blk_ne3 hC2 hC3 (by decide))
   replace hx := hx.trans' hoz (fun _ h => h) (fun b hb he => by omega)
   replace hC3 : wz.heap[c3]? = some (.cells #[.int .i64 ge, .int .i64 ga] 32 (0, 0)) := hC3z
   refine WA.done (by kernel_rfl) ?_
   exact ⟨rfl, rfl, hC2, hC3, hx⟩
  skip
  refine WO.c rfl rfl (o_ldA TI32 rfl rfl (show Cells _ b8 0 [.int .i64 ge, .int .i64 ga] from Cells.of hC8 0 _ (by simp)) rfl (WA.step (r := [0]) (by kernel_rfl) (by decide) (all1 (WO.c rfl rfl (o_bldC (cs := [(.slice none 0 0), (.slice none 0 0)]) TI29 (Sizes.cons TI26 (Sizes.cons TI27 Sizes.nil)) rfl lnp rfl rfl (WA.step (r := [2]) (by kernel_rfl) (by decide) (all1 (WO.u rfl (o_stA TI29 rfl (show _ = Value.agg #[.slice none 0 0, .slice none 0 0] from rfl) rfl rfl hC2 rfl ?_)))))))))
  intro wy hC2y hoy hsy
  replace hC3 := hoy.blk hC3 (blk_ne3 hC3 hC2 (by decide))
  replace hC8 := hoy.blk hC8 (blk_ne3 hC8 hC2 (by decide))
  replace hx := hx.trans' hoy (fun _ h => h) (fun b hb he => by omega)
  replace hC2 : wy.heap[c2]? = some (.cells #[.slice none 0 0, .slice none 0 0] 29 (0, 0)) := hC2y
  refine WA.step (r := [3]) (by kernel_rfl) (by decide) (all1 (WO.u rfl (o_stA TI32 rfl (show _ = Value.agg #[.int .i64 ge, .int .i64 ga] from rfl) rfl rfl hC3 rfl ?_)))
  intro wz hC3z hoz hsz
  replace hC2 := hoz.blk hC2 (blk_ne3 hC2 hC3 (by decide))
  replace hx := hx.trans' hoz (fun _ h => h) (fun b hb he => by omega)
  replace hC3 : wz.heap[c3]? = some (.cells #[.int .i64 ge, .int .i64 ga] 32 (0, 0)) := hC3z
  refine WA.done (by kernel_rfl) ?_
  exact ⟨rfl, rfl, hC2, hC3, hx⟩
 rintro e w ⟨h2, h3, hC2y, hC3z, hx⟩
 refine Wm (retAA rfl TI29 rfl TI32 rfl h2 h3 (show Cells _ c2 0 [.slice none 0 0, .slice none 0 0] from Cells.of hC2y 0 _ (by simp)) rfl (show Cells _ c3 0 [.int .i64 ge, .int .i64 ga] from Cells.of hC3z 0 _ (by simp)) rfl ?_)
 obtain ⟨hv1, hv2⟩ := bldV_of hb
 refine ⟨.slice none 0 0, .slice none 0 0, fun _ => undef, by rw [hv1, hv2], ?_, hx⟩
 rw [(bld_bad hb).1, (bld_bad hb).2]
 exact Schs.nil _ _ _
end Go.Proofs.YtpbflfgigfdohaaDoor

namespace Go.Proofs.YtpbflfgigfdohaaDoor
open Go Go.Vc Go.RowKit Go.Proofs

theorem whr_hit {R : List Ro} {nm : List UInt8} {k : Nat} (hk : k < R.length) (h : R[k].name = nm) (hb : ∀ j, j < k → ¬ (R.getD j ro0).name = nm) : whR R nm = some k := by
 refine List.findIdx?_eq_some_iff_getElem.2 ⟨hk, decide_eq_true h, fun j hj => ?_⟩
 have := hb j hj
 rw [List.getD_eq_getElem?_getD, List.getElem?_eq_getElem (by omega)] at this
 simpa using this
theorem whr_miss {R : List Ro} {nm : List UInt8} (hb : ∀ j, j < R.length → ¬ (R.getD j ro0).name = nm) : whR R nm = none := by
 refine List.findIdx?_eq_none_iff.2 fun d hd => ?_
 obtain ⟨j, hj, rfl⟩ := List.getElem_of_mem hd
 have := hb j hj
 rw [List.getD_eq_getElem?_getD, List.getElem?_eq_getElem hj] at this
 simpa using this
theorem rgetD_at {R : List Ro} {k : Nat} (hk : k < R.length) : R.getD k ro0 = R[k] := by simp [List.getD_eq_getElem?_getD, hk]

set_option maxHeartbeats 2000000 in
theorem tfind_spec (R : List Ro) (tv rv : Value) (nm : List UInt8) (w0 : World) (hR : Sl w0 2 rv R.length (ros R)) (hlr : R.length * 24 ≤ 140737488351232) (h1v : tv.oneCell' = true) : Ca Tryd.prog 10 #[.agg #[tv, rv], st nm] w0 (fun v w' => v = .tuple #[.int .i64 (((whR R nm).getD 0 : Nat) : Int), .int .i64 (if (whR R nm).isSome then 0 else 93)] ∧ Ext w0 w') := by
 refine Ca.of Tryd.func10 Tryd.ntmps10 rfl rfl (We (Wb (Wa rfl (o_boxB rfl ?_))))
 intro w2 hC2 hx2 hs2
 obtain ⟨b2, hb2⟩ : ∃ b, b = w0.heap.size := ⟨_, rfl⟩
 rw [← hb2] at hC2 ⊢
 replace hC2 : w2.heap[b2]? = some (.cells ([tv, rv]).toArray 29 (0, 0)) := hC2
 have hx := hx2
 replace hR := hR.ext hx2
 refine Wa rfl (Wg vI (Wa rfl (Wg vI (Wc (We (We (Wb (Wa rfl (Wl 1 TI29 rfl TI27 rfl rfl (Wa rfl (Wk TI27 rfl rfl (Wh hC2 rfl) (Wa rfl (Ws TI27 rfl hR (Wa rfl (Wf vI (Wc (W.block (W.loop (fun e w => ∃ k : Nat, k ≤ R.length ∧ e 1 = st nm ∧ e 9 = rv ∧ e 10 = .int .i64 (R.length : Int) ∧ e 11 = .int .i64 (k : Int) ∧ Sl w 2 rv R.length (ros R) ∧ (∀ j, j < k → ¬ (R.getD j ro0).name = nm) ∧ Ext w0 w) (fun e w => R.length - (intOf (e 11)).toNat) ?_ ?_))))))))))))))))))
 ·exact ⟨0, Nat.zero_le _, rfl, rfl, rfl, rfl, hR, fun j hj => by omega, hx⟩
 rintro e w ⟨k, hk, h1, h9, h10, h11, hR, hno, hx⟩
 have hm11 := h11
 refine We (Wb (Wa rfl (o_lt h11 h10 (Wc (We (Wn rfl (fun c12 => ?_) (fun c12 => ?_)))))))
 ·try simp only [cs8] at c12
  have hk1 : k < R.length := by omega
  obtain ⟨ub, uo, uc, hrv, huc⟩ := Sl.roq hR hk1
  rw [hrv] at h9
  refine Wp (We (W.block (We (Wb (Wa rfl (Wf h11 (Wa rfl (Wt (i := k) TI27 TI51 h9 h11 (by omega) (Wa rfl (o_ldA TI51 rfl rfl huc rfl (Wa rfl (o_alB TI51 ?_))))))))))))
  intro wa hCa hxa hsa
  refine Wa rfl (Wg vI (WL.u (o_stA TI51 rfl (show _ = Value.agg (roV R[k]).toArray from rfl) rfl rfl hCa rfl ?_)))
  intro wb7 hC7 hob hsb
  have hxb := Ext.own hxa (Nat.le_refl _) hob
  obtain ⟨b7, hb7⟩ : ∃ b, b = w.heap.size := ⟨_, rfl⟩
  rw [← hb7] at hC7 ⊢
  clear hCa hxa hsa hob hsb
  replace hx := hx.tr hxb
  replace hR := hR.ext hxb
  clear hxb
  refine Wc (We (Wb (Wa rfl (Wl 0 TI51 rfl TI9 rfl rfl (Wa rfl (Wk TI9 rfl rfl (Wh hC7 rfl) (Wa rfl (Wf h1 (Wa rfl (o_eqT rfl rfl (Wc (Wn rfl (fun c19 => ?_) (fun c19 => ?_)))))))))))))
  ·try simp only [cs8] at c19
   refine We (Wb (Wa rfl (Wf vI (Wa rfl (Wg vI (Wa rfl (Wg vI (Wc (Wm (ret2v rfl vI vI ?_))))))))))
   exact ⟨by rw [whr_hit hk1 (by simpa using c19) hno]; rfl, hx⟩
  try simp only [cs8] at c19
  refine Wp (Wb (Wa rfl (o_addi h11 rfl (by omega) (Wa rfl (Wf vI (Wc (⟨⟨k + 1, by omega, h1, h9.trans hrv.symm, h10, rfl, hR, fun j hj => ?_, hx⟩, ?_⟩)))))))
  ·rcases Nat.lt_or_ge j k with h | h
   ·exact hno j h
   rw [show j = k by omega, rgetD_at hk1]; simpa using c19
  show R.length - ((k : Int) + 1).toNat < _
  rw [hm11]; simp [intOf]; omega
 try simp only [cs8] at c12
 have hk1 : k = R.length := by omega
 refine W.exit (We (Wb (Wa rfl (Wg vI (Wa rfl (Wg vI (Wc (Wm (ret2v rfl vI vI ?_)))))))))
 exact ⟨by rw [whr_miss (fun j hj => hno j (by omega))]; rfl, hx⟩
end Go.Proofs.YtpbflfgigfdohaaDoor

namespace Go.Proofs.YtpbflfgigfdohaaDoor
open Go Go.Vc Go.RowKit Go.Proofs

theorem tp_eq {a b : Tp} : a = b ↔ a.kind = b.kind ∧ a.n = b.n ∧ a.elem = b.elem ∧ a.parts = b.parts := by
 cases a; cases b; simp
theorem paV_inj {a b : Pa} : (paV a).toArray = (paV b).toArray ↔ a = b := by
 cases a; cases b
 simp [paV, st]
theorem roV_inj {a b : Ro} : (roV a).toArray = (roV b).toArray ↔ a = b := by
 cases a; cases b
 simp [roV, st]
theorem pa_eq {a b : Pa} : a = b ↔ a.label = b.label ∧ a.tag = b.tag ∧ a.ty = b.ty := by
 cases a; cases b; simp
theorem ro_eq {a b : Ro} : a = b ↔ a.name = b.name ∧ a.ty = b.ty := by
 cases a; cases b; simp
theorem all_eq {α : Type} {L M : List α} (hl : L.length = M.length) (h : ∀ j, j < L.length → L[j]? = M[j]?) : L = M := by
 apply List.ext_getElem?
 intro j
 rcases Nat.lt_or_ge j L.length with hj | hj
 ·exact h j hj
 rw [List.getElem?_eq_none hj, List.getElem?_eq_none (by omega)]
theorem dec_no {p : Prop} [Decidable p] (h : ¬ p) : false = decide p := (decide_eq_false h).symm

set_option maxHeartbeats 4000000 in
theorem tsame_spec (L1 : List Tp) (R1 : List Ro) (tv1 rv1 : Value) (V1 : Nat → Value) (L2 : List Tp) (R2 : List Ro) (tv2 rv2 : Value) (V2 : Nat → Value) (w0 : World) (hA : SchR w0 L1 R1 tv1 rv1 V1) (hB : SchR w0 L2 R2 tv2 rv2 V2) (hk1 : SOk L1 R1) (hk2 : SOk L2 R2) : Ca Tryd.prog 7 #[.agg #[tv1, rv1], .agg #[tv2, rv2]] w0 (fun v w' => v = .bool (decide (L1 = L2 ∧ R1 = R2)) ∧ Ext w0 w') := by
 have hl1 := hk1.len
 have hl2 := hk2.len
 have hr1 := hk1.ro
 have hr2 := hk2.ro
 refine Ca.of Tryd.func7 Tryd.ntmps7 rfl rfl (We (Wb (Wa rfl (o_boxB rfl ?_))))
 intro w2 hC2 hx2 hs2
 obtain ⟨b2, hb2⟩ : ∃ b, b = w0.heap.size := ⟨_, rfl⟩
 rw [← hb2] at hC2 ⊢
 replace hC2 : w2.heap[b2]? = some (.cells ([tv1, rv1]).toArray 29 (0, 0)) := hC2
 have hx := hx2
 replace hA := hA.ext hx2
 replace hB := hB.ext hx2
 refine Wa rfl (o_boxB rfl ?_)
 intro w3 hC3 hx3 hs3
 obtain ⟨b3, hb3⟩ : ∃ b, b = w2.heap.size := ⟨_, rfl⟩
 rw [← hb3] at hC3 ⊢
 replace hC3 : w3.heap[b3]? = some (.cells ([tv2, rv2]).toArray 29 (0, 0)) := hC3
 replace hx := hx.tr hx3
 replace hA := hA.ext hx3
 replace hB := hB.ext hx3
 replace hC2 := hx3.blk hC2 (fun h => h)
 refine Wa rfl (Wg vB (Wc (We (We ?_))))
 by_cases e1 : L1.length = L2.length
 by_cases e2 : R1.length = R2.length
 ·skip
  skip
  refine Wb (Wa rfl (Wl 0 TI29 rfl TI26 rfl rfl (Wa rfl (Wk TI26 rfl rfl (Wh hC2 rfl) (Wa rfl (Ws TI26 rfl hA.ty.row (Wa rfl (Wl 0 TI29 rfl TI26 rfl rfl (Wa rfl (Wk TI26 rfl rfl (Wh hC3 rfl) (Wa rfl (Ws TI26 rfl hB.ty.row (Wa rfl (o_ne rfl rfl (Wa rfl (Wf vB (Wj rfl (by simp [e1]) rfl (Wl 1 TI29 rfl TI27 rfl rfl (Wj rfl (by simp [e1]) rfl (Wk TI27 rfl rfl (Wh hC2 rfl) (Wj rfl (by simp [e1]) rfl (Ws TI27 rfl hA.ro (Wj rfl (by simp [e1]) rfl (Wl 1 TI29 rfl TI27 rfl rfl (Wj rfl (by simp [e1]) rfl (Wk TI27 rfl rfl (Wh hC3 rfl) (Wj rfl (by simp [e1]) rfl (Ws TI27 rfl hB.ro (Wj rfl (by simp [e1]) rfl (o_ne rfl rfl (Wa rfl (o_pickO rfl rfl (Wc (W.condF' rfl (by simp [e1, e2]) (Wp (We (We (Wb (Wa rfl (Wg vI (Wc (W.block (W.loop (fun e w => ∃ i : Nat, i ≤ L1.length ∧ e 2 = .pointer (some ⟨b2, 0, none⟩) ∧ e 3 = .pointer (some ⟨b3, 0, none⟩) ∧ e 5 = .int .i64 (i : Int) ∧ (∀ j, j < i → L1[j]? = L2[j]?) ∧ w.heap[b2]? = some (.cells #[tv1, rv1] 29 (0, 0)) ∧ w.heap[b3]? = some (.cells #[tv2, rv2] 29 (0, 0)) ∧ SchR w L1 R1 tv1 rv1 V1 ∧ SchR w L2 R2 tv2 rv2 V2 ∧ Ext w0 w) (fun e w => L1.length - (intOf (e 5)).toNat) ?_ ?_)))))))))))))))))))))))))))))))))))))))))))
  ·exact ⟨0, Nat.zero_le _, rfl, rfl, rfl, fun j hj => by omega, hC2, hC3, hA, hB, hx⟩
  rintro e w ⟨i, hi, h2, h3, h5, hsm, hC2, hC3, hA, hB, hx⟩
  have hm5 := h5
  refine We (We (Wb (Wa rfl (Wf h5 (Wa rfl (Wl 0 TI29 rfl TI26 rfl h2 (Wa rfl (Wk TI26 rfl rfl (Wh hC2 rfl) (Wa rfl (Ws TI26 rfl hA.ty.row (Wa rfl (o_lt rfl rfl (Wc (Wn rfl (fun c30 => ?_) (fun c30 => ?_)))))))))))))))
  ·try simp only [cs8] at c30
   have hi1 : i < L1.length := by omega
   have hi2 : i < L2.length := by omega
   obtain ⟨ab, ao, ac, ha1, hac, hap⟩ := hA.ty.atk hi1
   obtain ⟨bb, bo, bc, hb1, hbc, hbp⟩ := hB.ty.atk hi2
   have hpa := hk1.pa _ (List.getElem_mem hi1)
   have hpb := hk2.pa _ (List.getElem_mem hi2)
   have hC2s := hC2
   rw [ha1] at hC2s
   have hC3s := hC3
   rw [hb1] at hC3s
   refine Wp (We (W.block (We (Wb (Wa rfl (Wl 0 TI29 rfl TI26 rfl h2 (Wa rfl (Wk TI26 rfl rfl (Wh hC2s rfl) (Wa rfl (Wf h5 (Wa rfl (Wt (i := i) TI26 TI49 (show _ = Value.slice (some ⟨ab, ao, none⟩) L1.length ac from rfl) (show _ = Value.int .i64 (i : Int) from rfl) (by omega) (Wa rfl (o_ldA TI49 rfl rfl hac rfl (Wa rfl (o_alB TI49 ?_))))))))))))))))
   intro wa hCa hxa hsa
   refine WL.u (o_stA TI49 rfl (show _ = Value.agg (tcell L1[i] (V1 i)).toArray from rfl) rfl (by simp only [tcell, List.toArray, Array.toList, List.all_cons, List.all_nil, sl_one1 hap]; rfl) hCa rfl ?_)
   intro wb6 hC6 hob hsb
   have hxb := Ext.own hxa (Nat.le_refl _) hob
   obtain ⟨b6, hb6⟩ : ∃ b, b = w.heap.size := ⟨_, rfl⟩
   rw [← hb6] at hC6 ⊢
   clear hCa hxa hsa hob hsb
   replace hx := hx.tr hxb
   replace hC2 := hxb.blk hC2 (fun h => h)
   replace hC3 := hxb.blk hC3 (fun h => h)
   replace hA := hA.ext hxb
   replace hB := hB.ext hxb
   replace hap := hap.ext hxb
   replace hbp := hbp.ext hxb
   replace hC3s := hxb.blk hC3s (fun h => h)
   replace hbc := Cells.only hbc hxb (fun h => h)
   clear hxb
   refine Wc (We (Wb (Wa rfl (Wl 0 TI29 rfl TI26 rfl h3 (Wa rfl (Wk TI26 rfl rfl (Wh hC3s rfl) (Wa rfl (Wf h5 (Wa rfl (Wt (i := i) TI26 TI49 (show _ = Value.slice (some ⟨bb, bo, none⟩) L2.length bc from rfl) (show _ = Value.int .i64 (i : Int) from rfl) (by omega) (Wa rfl (o_ldA TI49 rfl rfl hbc rfl (Wa rfl (o_alB TI49 ?_))))))))))))))
   intro wa hCa hxa hsa
   refine WL.u (o_stA TI49 rfl (show _ = Value.agg (tcell L2[i] (V2 i)).toArray from rfl) rfl (by simp only [tcell, List.toArray, Array.toList, List.all_cons, List.all_nil, sl_one1 hbp]; rfl) hCa rfl ?_)
   intro wb7 hC7 hob hsb
   have hxb := Ext.own hxa (Nat.le_refl _) hob
   obtain ⟨b7, hb7⟩ : ∃ b, b = wb6.heap.size := ⟨_, rfl⟩
   rw [← hb7] at hC7 ⊢
   clear hCa hxa hsa hob hsb
   replace hx := hx.tr hxb
   replace hC2 := hxb.blk hC2 (fun h => h)
   replace hC3 := hxb.blk hC3 (fun h => h)
   replace hA := hA.ext hxb
   replace hB := hB.ext hxb
   replace hap := hap.ext hxb
   replace hbp := hbp.ext hxb
   replace hC6 := hxb.blk hC6 (fun h => h)
   clear hxb
   refine Wc (We (We ?_))
   by_cases q1 : L1[i].kind = L2[i].kind
   by_cases q2 : L1[i].n = L2[i].n
   by_cases q3 : L1[i].elem = L2[i].elem
   by_cases q4 : L1[i].parts.length = L2[i].parts.length
   ·skip
    have hq := And.intro q1 (And.intro q2 (And.intro q3 q4))
    refine Wb (Wa rfl (Wl 0 TI49 rfl TI3 rfl rfl (Wa rfl (Wk TI3 rfl rfl (Wh hC6 rfl) (Wa rfl (Wl 0 TI49 rfl TI3 rfl rfl (Wa rfl (Wk TI3 rfl rfl (Wh hC7 rfl) (Wa rfl (o_ne rfl rfl (Wa rfl (Wf vB (Wj rfl (by simp [q1]) rfl (Wl 1 TI49 rfl TI3 rfl rfl (Wj rfl (by simp [q1]) rfl (Wk TI3 rfl rfl (Wh hC6 rfl) (Wj rfl (by simp [q1]) rfl (Wl 1 TI49 rfl TI3 rfl rfl (Wj rfl (by simp [q1]) rfl (Wk TI3 rfl rfl (Wh hC7 rfl) (Wj rfl (by simp [q1]) rfl (o_ne rfl rfl (Wa rfl (o_pickO rfl rfl (Wa rfl (Wf vB (Wj rfl (by simp [q1, q2]) rfl (Wl 2 TI49 rfl TI3 rfl rfl (Wj rfl (by simp [q1, q2]) rfl (Wk TI3 rfl rfl (Wh hC6 rfl) (Wj rfl (by simp [q1, q2]) rfl (Wl 2 TI49 rfl TI3 rfl rfl (Wj rfl (by simp [q1, q2]) rfl (Wk TI3 rfl rfl (Wh hC7 rfl) (Wj rfl (by simp [q1, q2]) rfl (o_ne rfl rfl (Wa rfl (o_pickO rfl rfl (Wa rfl (Wf vB (Wj rfl (by simp [q1, q2, q3]) rfl (Wl 3 TI49 rfl TI47 rfl rfl (Wj rfl (by simp [q1, q2, q3]) rfl (Wk TI47 rfl rfl (Wh hC6 rfl) (Wj rfl (by simp [q1, q2, q3]) rfl (Ws TI47 rfl hap (Wj rfl (by simp [q1, q2, q3]) rfl (Wl 3 TI49 rfl TI47 rfl rfl (Wj rfl (by simp [q1, q2, q3]) rfl (Wk TI47 rfl rfl (Wh hC7 rfl) (Wj rfl (by simp [q1, q2, q3]) rfl (Ws TI47 rfl hbp (Wj rfl (by simp [q1, q2, q3]) rfl (o_ne rfl rfl (Wa rfl (o_pickO rfl rfl (Wc (W.condF' rfl (by simp [q1, q2, q3, q4]) (Wp (We (Wb (Wa rfl (Wg vI (Wc (W.block (W.loop (fun e w => ∃ q : Nat, q ≤ L1[i].parts.length ∧ e 2 = .pointer (some ⟨b2, 0, none⟩) ∧ e 3 = .pointer (some ⟨b3, 0, none⟩) ∧ e 5 = .int .i64 (i : Int) ∧ e 6 = .pointer (some ⟨b6, 0, none⟩) ∧ e 7 = .pointer (some ⟨b7, 0, none⟩) ∧ e 8 = .int .i64 (q : Int) ∧ (∀ j, j < q → L1[i].parts[j]? = L2[i].parts[j]?) ∧ w.heap[b6]? = some (.cells (tcell L1[i] (V1 i)).toArray 49 (0, 0)) ∧ w.heap[b7]? = some (.cells (tcell L2[i] (V2 i)).toArray 49 (0, 0)) ∧ Sl w 3 (V1 i) L1[i].parts.length (pas L1[i].parts) ∧ Sl w 3 (V2 i) L2[i].parts.length (pas L2[i].parts) ∧ w.heap[b2]? = some (.cells #[tv1, rv1] 29 (0, 0)) ∧ w.heap[b3]? = some (.cells #[tv2, rv2] 29 (0, 0)) ∧ SchR w L1 R1 tv1 rv1 V1 ∧ SchR w L2 R2 tv2 rv2 V2 ∧ Ext w0 w) (fun e w => L1[i].parts.length - (intOf (e 8)).toNat) ?_ ?_))))))))))))))))))))))))))))))))))))))))))))))))))))))))))))))))))
    ·exact ⟨0, Nat.zero_le _, h2, h3, h5, rfl, rfl, rfl, fun j hj => by omega, hC6, hC7, hap, hbp, hC2, hC3, hA, hB, hx⟩
    rintro e w ⟨q, hqq, h2, h3, h5, h6, h7, h8, hsp, hC6, hC7, hap, hbp, hC2, hC3, hA, hB, hx⟩
    have hm8 := h8
    refine We (We (Wb (Wa rfl (Wf h8 (Wa rfl (Wl 3 TI49 rfl TI47 rfl h6 (Wa rfl (Wk TI47 rfl rfl (Wh hC6 rfl) (Wa rfl (Ws TI47 rfl hap (Wa rfl (o_lt rfl rfl (Wc (Wn rfl (fun c75 => ?_) (fun c75 => ?_)))))))))))))))
    ·try simp only [cs8] at c75
     have hqa : q < L1[i].parts.length := by omega
     have hqb : q < L2[i].parts.length := by omega
     obtain ⟨pb, po, pc, hpv, hpc⟩ := Sl.paq hap hqa
     obtain ⟨rb, ro, rc, hrv, hrc⟩ := Sl.paq hbp hqb
     have hC6s := hC6
     rw [hpv] at hC6s
     have hC7s := hC7
     rw [hrv] at hC7s
     refine Wp (We (W.block (We (W.quiet rfl (by kernel_rfl) (Wx rfl ((Wy rfl fun _ => Wl 3 TI49 rfl TI47 rfl h6 ⟨rfl, rfl⟩)) (Wx rfl ((Wy rfl fun _ => Wk TI47 rfl rfl (Wh hC6s rfl) ⟨rfl, rfl⟩)) (Wx rfl ((Wy rfl fun _ => Wf h8 ⟨rfl, rfl⟩)) (Wx rfl ((Wy rfl fun _ => Wt (i := q) TI47 TI66 (show _ = Value.slice (some ⟨pb, po, none⟩) L1[i].parts.length pc from rfl) (show _ = Value.int .i64 (q : Int) from rfl) (by omega) ⟨rfl, rfl⟩)) (Wx rfl ((Wy rfl fun _ => o_ldA TI66 rfl rfl hpc rfl ⟨rfl, rfl⟩)) (Wx rfl ((Wy rfl fun _ => Wl 3 TI49 rfl TI47 rfl h7 ⟨rfl, rfl⟩)) (Wx rfl ((Wy rfl fun _ => Wk TI47 rfl rfl (Wh hC7s rfl) ⟨rfl, rfl⟩)) (Wx rfl ((Wy rfl fun _ => Wf h8 ⟨rfl, rfl⟩)) (Wx rfl ((Wy rfl fun _ => Wt (i := q) TI47 TI66 (show _ = Value.slice (some ⟨rb, ro, none⟩) L2[i].parts.length rc from rfl) (show _ = Value.int .i64 (q : Int) from rfl) (by omega) ⟨rfl, rfl⟩)) (Wx rfl ((Wy rfl fun _ => o_ldA TI66 rfl rfl hrc rfl ⟨rfl, rfl⟩)) (Wx rfl ((Wy rfl fun _ => o_neR TI66 (by kernel_rfl) (by kernel_rfl) rfl rfl (.str TI9 (by decide) rfl rfl (.int TI3 (by decide) rfl rfl (.int TI3 (by decide) rfl rfl .nil))) ⟨rfl, rfl⟩)) (WQ.nil ?_))))))))))))))))
     intro nq
     replace hx := hx.tr (Only.drewN w nq)
     replace hA := hA.ext (Only.drewN w nq)
     replace hB := hB.ext (Only.drewN w nq)
     replace hap := hap.ext (Only.drewN w nq)
     replace hbp := hbp.ext (Only.drewN w nq)
     refine Wn rfl (fun c88 => ?_) (fun c88 => ?_)
     ·try simp only [cs8] at c88
      have hpe : ¬ L1[i].parts[q] = L2[i].parts[q] := fun e => by rw [e] at c88; simp at c88
      refine We (Wb (Wa rfl (Wg vB (Wc (Wm (Wu rfl vB ?_))))))
      exact ⟨congrArg Value.bool (dec_no (fun h => hpe (by simp only [h.1]))), hx⟩
     try simp only [cs8] at c88
     have hpe : L1[i].parts[q] = L2[i].parts[q] := by
      have h : L1[i].parts[q].label = L2[i].parts[q].label ∧ L1[i].parts[q].tag = L2[i].parts[q].tag ∧ L1[i].parts[q].ty = L2[i].parts[q].ty := by simpa [paV_inj] using c88
      exact pa_eq.2 h
     refine Wp (Wb (Wa rfl (Wf h8 (Wa rfl (o_addi rfl rfl (by omega) (Wa rfl (Wg vI (Wc (⟨⟨q + 1, by omega, h2, h3, h5, h6, h7, rfl, fun j hj => ?_, hC6, hC7, hap, hbp, hC2, hC3, hA, hB, hx⟩, ?_⟩)))))))))
     ·rcases Nat.lt_or_ge j q with h | h
      ·exact hsp j h
      rw [show j = q by omega, List.getElem?_eq_getElem hqa, List.getElem?_eq_getElem hqb, hpe]
     show L1[i].parts.length - ((q : Int) + 1).toNat < _
     rw [hm8]; simp [intOf]; omega
    try simp only [cs8] at c75
    have hqa : q = L1[i].parts.length := by omega
    rw [hqa] at hsp
    have hps := hsp
    refine W.exit (Wb (Wa rfl (Wf h5 (Wa rfl (o_addi rfl rfl (by omega) (Wa rfl (Wg vI (Wc (⟨⟨i + 1, by omega, h2, h3, rfl, fun j hj => ?_, hC2, hC3, hA, hB, hx⟩, ?_⟩)))))))))
    ·rcases Nat.lt_or_ge j i with h | h
     ·exact hsm j h
     rw [show j = i by omega, List.getElem?_eq_getElem hi1, List.getElem?_eq_getElem hi2, tp_eq.2 ⟨hq.1, hq.2.1, hq.2.2.1, all_eq hq.2.2.2 hps⟩]
    show L1.length - ((i : Int) + 1).toNat < _
    rw [hm5]; simp [intOf]; omega
   ·skip
    skip
    refine Wb (Wa rfl (Wl 0 TI49 rfl TI3 rfl rfl (Wa rfl (Wk TI3 rfl rfl (Wh hC6 rfl) (Wa rfl (Wl 0 TI49 rfl TI3 rfl rfl (Wa rfl (Wk TI3 rfl rfl (Wh hC7 rfl) (Wa rfl (o_ne rfl rfl (Wa rfl (Wf vB (Wj rfl (by simp [q1]) rfl (Wl 1 TI49 rfl TI3 rfl rfl (Wj rfl (by simp [q1]) rfl (Wk TI3 rfl rfl (Wh hC6 rfl) (Wj rfl (by simp [q1]) rfl (Wl 1 TI49 rfl TI3 rfl rfl (Wj rfl (by simp [q1]) rfl (Wk TI3 rfl rfl (Wh hC7 rfl) (Wj rfl (by simp [q1]) rfl (o_ne rfl rfl (Wa rfl (o_pickO rfl rfl (Wa rfl (Wf vB (Wj rfl (by simp [q1, q2]) rfl (Wl 2 TI49 rfl TI3 rfl rfl (Wj rfl (by simp [q1, q2]) rfl (Wk TI3 rfl rfl (Wh hC6 rfl) (Wj rfl (by simp [q1, q2]) rfl (Wl 2 TI49 rfl TI3 rfl rfl (Wj rfl (by simp [q1, q2]) rfl (Wk TI3 rfl rfl (Wh hC7 rfl) (Wj rfl (by simp [q1, q2]) rfl (o_ne rfl rfl (Wa rfl (o_pickO rfl rfl (Wa rfl (Wf vB (Wj rfl (by simp [q1, q2, q3]) rfl (Wl 3 TI49 rfl TI47 rfl rfl (Wj rfl (by simp [q1, q2, q3]) rfl (Wk TI47 rfl rfl (Wh hC6 rfl) (Wj rfl (by simp [q1, q2, q3]) rfl (Ws TI47 rfl hap (Wj rfl (by simp [q1, q2, q3]) rfl (Wl 3 TI49 rfl TI47 rfl rfl (Wj rfl (by simp [q1, q2, q3]) rfl (Wk TI47 rfl rfl (Wh hC7 rfl) (Wj rfl (by simp [q1, q2, q3]) rfl (Ws TI47 rfl hbp (Wj rfl (by simp [q1, q2, q3]) rfl (o_ne rfl rfl (Wa rfl (o_pickO rfl rfl (Wc (W.condT' rfl (by simp [q1, q2, q3] <;> omega) (We (Wb (Wa rfl (Wg vB (Wc (Wm (Wu rfl vB ?_)))))))))))))))))))))))))))))))))))))))))))))))))))))))))))))))))
    exact ⟨congrArg Value.bool (dec_no (fun h => q4 (by simp only [h.1]))), hx⟩
   ·skip
    skip
    refine Wb (Wa rfl (Wl 0 TI49 rfl TI3 rfl rfl (Wa rfl (Wk TI3 rfl rfl (Wh hC6 rfl) (Wa rfl (Wl 0 TI49 rfl TI3 rfl rfl (Wa rfl (Wk TI3 rfl rfl (Wh hC7 rfl) (Wa rfl (o_ne rfl rfl (Wa rfl (Wf vB (Wj rfl (by simp [q1]) rfl (Wl 1 TI49 rfl TI3 rfl rfl (Wj rfl (by simp [q1]) rfl (Wk TI3 rfl rfl (Wh hC6 rfl) (Wj rfl (by simp [q1]) rfl (Wl 1 TI49 rfl TI3 rfl rfl (Wj rfl (by simp [q1]) rfl (Wk TI3 rfl rfl (Wh hC7 rfl) (Wj rfl (by simp [q1]) rfl (o_ne rfl rfl (Wa rfl (o_pickO rfl rfl (Wa rfl (Wf vB (Wj rfl (by simp [q1, q2]) rfl (Wl 2 TI49 rfl TI3 rfl rfl (Wj rfl (by simp [q1, q2]) rfl (Wk TI3 rfl rfl (Wh hC6 rfl) (Wj rfl (by simp [q1, q2]) rfl (Wl 2 TI49 rfl TI3 rfl rfl (Wj rfl (by simp [q1, q2]) rfl (Wk TI3 rfl rfl (Wh hC7 rfl) (Wj rfl (by simp [q1, q2]) rfl (o_ne rfl rfl (Wa rfl (o_pickO rfl rfl (Wa rfl (Wf vB (Wi rfl (by simp [q1, q2, q3]) rfl (Wi rfl (by simp [q1, q2, q3]) rfl (Wi rfl (by simp [q1, q2, q3]) rfl (Wi rfl (by simp [q1, q2, q3]) rfl (Wi rfl (by simp [q1, q2, q3]) rfl (Wi rfl (by simp [q1, q2, q3]) rfl (Wi rfl (by simp [q1, q2, q3]) rfl (Wa rfl (o_pickT rfl (by simp [q1, q2, q3]) (Wc (W.condT' rfl (rfl) (We (Wb (Wa rfl (Wg vB (Wc (Wm (Wu rfl vB ?_))))))))))))))))))))))))))))))))))))))))))))))))))))))))))
    exact ⟨congrArg Value.bool (dec_no (fun h => q3 (by simp only [h.1]))), hx⟩
   ·skip
    skip
    refine Wb (Wa rfl (Wl 0 TI49 rfl TI3 rfl rfl (Wa rfl (Wk TI3 rfl rfl (Wh hC6 rfl) (Wa rfl (Wl 0 TI49 rfl TI3 rfl rfl (Wa rfl (Wk TI3 rfl rfl (Wh hC7 rfl) (Wa rfl (o_ne rfl rfl (Wa rfl (Wf vB (Wj rfl (by simp [q1]) rfl (Wl 1 TI49 rfl TI3 rfl rfl (Wj rfl (by simp [q1]) rfl (Wk TI3 rfl rfl (Wh hC6 rfl) (Wj rfl (by simp [q1]) rfl (Wl 1 TI49 rfl TI3 rfl rfl (Wj rfl (by simp [q1]) rfl (Wk TI3 rfl rfl (Wh hC7 rfl) (Wj rfl (by simp [q1]) rfl (o_ne rfl rfl (Wa rfl (o_pickO rfl rfl (Wa rfl (Wf vB (Wi rfl (by simp [q1, q2]) rfl (Wi rfl (by simp [q1, q2]) rfl (Wi rfl (by simp [q1, q2]) rfl (Wi rfl (by simp [q1, q2]) rfl (Wi rfl (by simp [q1, q2]) rfl (Wa rfl (o_pickT rfl (by simp [q1, q2]) (Wa rfl (Wf vB (Wi rfl (rfl) rfl (Wi rfl (rfl) rfl (Wi rfl (rfl) rfl (Wi rfl (rfl) rfl (Wi rfl (rfl) rfl (Wi rfl (rfl) rfl (Wi rfl (rfl) rfl (Wa rfl (o_pickT rfl (rfl) (Wc (W.condT' rfl (rfl) (We (Wb (Wa rfl (Wg vB (Wc (Wm (Wu rfl vB ?_)))))))))))))))))))))))))))))))))))))))))))))))))))))
    exact ⟨congrArg Value.bool (dec_no (fun h => q2 (by simp only [h.1]))), hx⟩
   skip
   skip
   refine Wb (Wa rfl (Wl 0 TI49 rfl TI3 rfl rfl (Wa rfl (Wk TI3 rfl rfl (Wh hC6 rfl) (Wa rfl (Wl 0 TI49 rfl TI3 rfl rfl (Wa rfl (Wk TI3 rfl rfl (Wh hC7 rfl) (Wa rfl (o_ne rfl rfl (Wa rfl (Wf vB (Wi rfl (by simp [q1]) rfl (Wi rfl (by simp [q1]) rfl (Wi rfl (by simp [q1]) rfl (Wi rfl (by simp [q1]) rfl (Wi rfl (by simp [q1]) rfl (Wa rfl (o_pickT rfl (by simp [q1]) (Wa rfl (Wf vB (Wi rfl (rfl) rfl (Wi rfl (rfl) rfl (Wi rfl (rfl) rfl (Wi rfl (rfl) rfl (Wi rfl (rfl) rfl (Wa rfl (o_pickT rfl (rfl) (Wa rfl (Wf vB (Wi rfl (rfl) rfl (Wi rfl (rfl) rfl (Wi rfl (rfl) rfl (Wi rfl (rfl) rfl (Wi rfl (rfl) rfl (Wi rfl (rfl) rfl (Wi rfl (rfl) rfl (Wa rfl (o_pickT rfl (rfl) (Wc (W.condT' rfl (rfl) (We (Wb (Wa rfl (Wg vB (Wc (Wm (Wu rfl vB ?_))))))))))))))))))))))))))))))))))))))))))))))))
   exact ⟨congrArg Value.bool (dec_no (fun h => q1 (by simp only [h.1]))), hx⟩
  try simp only [cs8] at c30
  have hi1 : i = L1.length := by omega
  rw [hi1] at hsm
  have hLL : L1 = L2 := all_eq e1 hsm
  refine W.exit (We (We (Wb (Wa rfl (Wg vI (Wc (W.block (W.loop (fun e w => ∃ k : Nat, k ≤ R1.length ∧ e 2 = .pointer (some ⟨b2, 0, none⟩) ∧ e 3 = .pointer (some ⟨b3, 0, none⟩) ∧ e 9 = .int .i64 (k : Int) ∧ (∀ j, j < k → R1[j]? = R2[j]?) ∧ w.heap[b2]? = some (.cells #[tv1, rv1] 29 (0, 0)) ∧ w.heap[b3]? = some (.cells #[tv2, rv2] 29 (0, 0)) ∧ SchR w L1 R1 tv1 rv1 V1 ∧ SchR w L2 R2 tv2 rv2 V2 ∧ Ext w0 w) (fun e w => R1.length - (intOf (e 9)).toNat) ?_ ?_))))))))
  ·exact ⟨0, Nat.zero_le _, h2, h3, rfl, fun j hj => by omega, hC2, hC3, hA, hB, hx⟩
  rintro e w ⟨k, hk, h2, h3, h9, hsr, hC2, hC3, hA, hB, hx⟩
  have hm9 := h9
  refine We (We (Wb (Wa rfl (Wf h9 (Wa rfl (Wl 1 TI29 rfl TI27 rfl h2 (Wa rfl (Wk TI27 rfl rfl (Wh hC2 rfl) (Wa rfl (Ws TI27 rfl hA.ro (Wa rfl (o_lt rfl rfl (Wc (Wn rfl (fun c93 => ?_) (fun c93 => ?_)))))))))))))))
  ·try simp only [cs8] at c93
   have hka : k < R1.length := by omega
   have hkb : k < R2.length := by omega
   obtain ⟨pb, po, pc, hpv, hpc⟩ := Sl.roq hA.ro hka
   obtain ⟨rb, ro, rc, hrv, hrc⟩ := Sl.roq hB.ro hkb
   have hC2s := hC2
   rw [hpv] at hC2s
   have hC3s := hC3
   rw [hrv] at hC3s
   refine Wp (We (W.block (We (W.quiet rfl (by kernel_rfl) (Wx rfl ((Wy rfl fun _ => Wl 1 TI29 rfl TI27 rfl h2 ⟨rfl, rfl⟩)) (Wx rfl ((Wy rfl fun _ => Wk TI27 rfl rfl (Wh hC2s rfl) ⟨rfl, rfl⟩)) (Wx rfl ((Wy rfl fun _ => Wf h9 ⟨rfl, rfl⟩)) (Wx rfl ((Wy rfl fun _ => Wt (i := k) TI27 TI51 (show _ = Value.slice (some ⟨pb, po, none⟩) R1.length pc from rfl) (show _ = Value.int .i64 (k : Int) from rfl) (by omega) ⟨rfl, rfl⟩)) (Wx rfl ((Wy rfl fun _ => o_ldA TI51 rfl rfl hpc rfl ⟨rfl, rfl⟩)) (Wx rfl ((Wy rfl fun _ => Wl 1 TI29 rfl TI27 rfl h3 ⟨rfl, rfl⟩)) (Wx rfl ((Wy rfl fun _ => Wk TI27 rfl rfl (Wh hC3s rfl) ⟨rfl, rfl⟩)) (Wx rfl ((Wy rfl fun _ => Wf h9 ⟨rfl, rfl⟩)) (Wx rfl ((Wy rfl fun _ => Wt (i := k) TI27 TI51 (show _ = Value.slice (some ⟨rb, ro, none⟩) R2.length rc from rfl) (show _ = Value.int .i64 (k : Int) from rfl) (by omega) ⟨rfl, rfl⟩)) (Wx rfl ((Wy rfl fun _ => o_ldA TI51 rfl rfl hrc rfl ⟨rfl, rfl⟩)) (Wx rfl ((Wy rfl fun _ => o_neR TI51 (by kernel_rfl) (by kernel_rfl) rfl rfl (.str TI9 (by decide) rfl rfl (.int TI3 (by decide) rfl rfl .nil)) ⟨rfl, rfl⟩)) (WQ.nil ?_))))))))))))))))
   intro nq
   replace hx := hx.tr (Only.drewN w nq)
   replace hA := hA.ext (Only.drewN w nq)
   replace hB := hB.ext (Only.drewN w nq)
   refine Wn rfl (fun c106 => ?_) (fun c106 => ?_)
   ·try simp only [cs8] at c106
    have hre : ¬ R1[k] = R2[k] := fun e => by rw [e] at c106; simp at c106
    refine We (Wb (Wa rfl (Wg vB (Wc (Wm (Wu rfl vB ?_))))))
    exact ⟨congrArg Value.bool (dec_no (fun h => hre (by simp only [h.2]))), hx⟩
   try simp only [cs8] at c106
   have hre : R1[k] = R2[k] := by
    have h : R1[k].name = R2[k].name ∧ R1[k].ty = R2[k].ty := by simpa [roV_inj] using c106
    exact ro_eq.2 h
   refine Wp (Wb (Wa rfl (Wf h9 (Wa rfl (o_addi rfl rfl (by omega) (Wa rfl (Wg vI (Wc (⟨⟨k + 1, by omega, h2, h3, rfl, fun j hj => ?_, hC2, hC3, hA, hB, hx⟩, ?_⟩)))))))))
   ·rcases Nat.lt_or_ge j k with h | h
    ·exact hsr j h
    rw [show j = k by omega, List.getElem?_eq_getElem hka, List.getElem?_eq_getElem hkb, hre]
   show R1.length - ((k : Int) + 1).toNat < _
   rw [hm9]; simp [intOf]; omega
  try simp only [cs8] at c93
  have hka : k = R1.length := by omega
  rw [hka] at hsr
  have hRR : R1 = R2 := all_eq e2 hsr
  refine W.exit (We (Wb (Wa rfl (Wg vB (Wc (Wm (Wu rfl vB ?_)))))))
  exact ⟨congrArg Value.bool (decide_eq_true ⟨hLL, hRR⟩).symm, hx⟩
 ·skip
  skip
  refine Wb (Wa rfl (Wl 0 TI29 rfl TI26 rfl rfl (Wa rfl (Wk TI26 rfl rfl (Wh hC2 rfl) (Wa rfl (Ws TI26 rfl hA.ty.row (Wa rfl (Wl 0 TI29 rfl TI26 rfl rfl (Wa rfl (Wk TI26 rfl rfl (Wh hC3 rfl) (Wa rfl (Ws TI26 rfl hB.ty.row (Wa rfl (o_ne rfl rfl (Wa rfl (Wf vB (Wj rfl (by simp [e1]) rfl (Wl 1 TI29 rfl TI27 rfl rfl (Wj rfl (by simp [e1]) rfl (Wk TI27 rfl rfl (Wh hC2 rfl) (Wj rfl (by simp [e1]) rfl (Ws TI27 rfl hA.ro (Wj rfl (by simp [e1]) rfl (Wl 1 TI29 rfl TI27 rfl rfl (Wj rfl (by simp [e1]) rfl (Wk TI27 rfl rfl (Wh hC3 rfl) (Wj rfl (by simp [e1]) rfl (Ws TI27 rfl hB.ro (Wj rfl (by simp [e1]) rfl (o_ne rfl rfl (Wa rfl (o_pickO rfl rfl (Wc (W.condT' rfl (by simp [e1]; omega) (We (Wb (Wa rfl (Wg vB (Wc (Wm (Wu rfl vB ?_)))))))))))))))))))))))))))))))))))))))))
  exact ⟨congrArg Value.bool (dec_no (fun h => e2 (by rw [h.2]))), hx⟩
 skip
 skip
 refine Wb (Wa rfl (Wl 0 TI29 rfl TI26 rfl rfl (Wa rfl (Wk TI26 rfl rfl (Wh hC2 rfl) (Wa rfl (Ws TI26 rfl hA.ty.row (Wa rfl (Wl 0 TI29 rfl TI26 rfl rfl (Wa rfl (Wk TI26 rfl rfl (Wh hC3 rfl) (Wa rfl (Ws TI26 rfl hB.ty.row (Wa rfl (o_ne rfl rfl (Wa rfl (Wf vB (Wi rfl (by simp <;> omega) rfl (Wi rfl (by simp <;> omega) rfl (Wi rfl (by simp <;> omega) rfl (Wi rfl (by simp <;> omega) rfl (Wi rfl (by simp <;> omega) rfl (Wi rfl (by simp <;> omega) rfl (Wi rfl (by simp <;> omega) rfl (Wa rfl (o_pickT rfl (by simp <;> omega) (Wc (W.condT' rfl (rfl) (We (Wb (Wa rfl (Wg vB (Wc (Wm (Wu rfl vB ?_))))))))))))))))))))))))))))))))))
 exact ⟨congrArg Value.bool (dec_no (fun h => e1 (by rw [h.1]))), hx⟩
end Go.Proofs.YtpbflfgigfdohaaDoor

namespace Go.Vc
open Go Go.RowKit Go.Maps Go.ChangeMaps
/-- block b of w is a map of just m entries in which g stands -/
def MapN (P : Program) (k e : TypeId) {α : Type} (en : α → Lit) (w : World) (b m : Nat) (g : α → Option Int) : Prop :=
 ∃ D : DataW Unit, w.ownsMap P k (plainElem P e) b m D ∧ Maps.size D = m ∧ ∀ a, Maps.has D (en a) = (g a).isSome ∧ ∀ v, g a = some v → D.atKey (en a) (.lit (.int .i64 0)) = .lit (.int .i64 v)
section
variable {P : Program} {e : Env} {w : World} {K : Value → World → Prop} {ty : TypeId} {α : Type} {en : α → Lit} {t kt et : TypeId} {b m : Nat} {g : α → Option Int}
theorem MapN.is (h : MapN P kt et en w b m g) : MapIs P kt et en w b m g := by obtain ⟨D, h1, -, h2⟩ := h; exact ⟨D, h1, h2⟩
theorem MapN.made (P : Program) (kt et : TypeId) (en : α → Lit) (w : World) : MapN P kt et en (w.alloc (.map #[] 0)) w.heap.size 0 (fun _ => none) :=
 ⟨_, World.ownsMap_made w P kt _, rfl, fun a => ⟨rfl, fun v h => by cases h⟩⟩
theorem MapN.lt (h : MapN P kt et en w b m g) : b < w.heap.size := h.is.lt
theorem MapN.only {w' : World} {F : Nat → Prop} (h : MapN P kt et en w b m g) (ho : Only F w w') (hn : ¬ F b) : MapN P kt et en w' b m g := by
 obtain ⟨D, h, hs, r⟩ := h
 have hlt := h.lt
 obtain ⟨es, clock, hb, Ft, hz, hD⟩ := h
 exact ⟨D, ⟨es, clock, (ho.block b hlt hn).trans hb, Ft, hz, hD⟩, hs, r⟩
theorem MapN.ext {w' : World} (h : MapN P kt et en w b m g) (ho : Only No w w') : MapN P kt et en w' b m g := h.only ho (fun h => h)
theorem ownsMap_exact {k : TypeId} {R : Value → Option (DataW Unit × List MemPlace)} {n : Nat} {D : DataW Unit} (h : w.ownsMap P k R b n D) : w.ownsMap P k R b (Maps.size D) D := by
 obtain ⟨es, clock, hb, F, hs, rfl⟩ := h
 exact ⟨es, clock, hb, F, by simp [Maps.size, length_sorted], rfl⟩
/-- 'len(m)' -/
theorem o_lenM {x : Operand} (ht : P.underlying t = some (.map kt et)) (hx : ev e x = .map (some b)) (hM : MapN P kt et en w b m g) (k : K (.int .i64 (m : Int)) w) : OP P e (.call ⟨.builtin .len, #[x], #[t]⟩) ty w K := by
 obtain ⟨D, hown, hs, -⟩ := hM
 have h := hown.len ht ty
 rw [hs] at h
 exact OP.of (by simp [execOp, resolve, invoke, builtin, hx, h]) k
/-- 'm[k] = v' -/
theorem o_muN [DecidableEq α] {x y z : Operand} {key : Value} {a : α} {v : Int} (hen : ∀ a b, en a = en b → a = b) (hT : MTy P t kt et) (hx : ev e x = .map (some b)) (hM : MapN P kt et en w b m g) (hy : ev e y = key) (hkl : keyOf P kt key = some (en a))
  (hv : ev e z = .int .i64 v) (hw : (Lit.int .i64 v).wf = true) (hn : m < maxLen)
  (kk : ∀ w', MapN P kt et en w' b (if (g a).isSome then m else m + 1) (fun c => if c = a then some v else g c) → Only (fun k => k = b) w w' → w'.heap.size = w.heap.size → K undef w') : OP P e (.mapUpdate t x y z) ty w K := by
 obtain ⟨D, hown, hs, hD⟩ := hM
 obtain ⟨w', hrun, hown', es, clock, es', clock', hb, hw'⟩ := hown.store hT.kd hT.ht hn hkl (plainElem_int hT.he hw)
 have hsz := Maps.size_put (k := en a) (hown.tidy hT.kd) (.lit (.int .i64 v))
 rw [hs, (hD a).1] at hsz
 refine OP.ofS (w' := w') (by simp [execOp, hx, hy, hv, hrun]) (kk w' ⟨_, by rw [← hsz]; exact ownsMap_exact hown', hsz, fun c => ?_⟩ ?_ ?_)
 ·have hK := hT.kd.key hkl
  by_cases hc : c = a
  ·subst hc
   simp only [if_true]
   rw [has_put_same hown.isMap hK]
   refine ⟨rfl, fun u hu => ?_⟩
   cases hu
   exact atKey_put_same hown.isMap hK _ _
  have hne : en c ≠ en a := fun h => hc (hen _ _ h)
  simp only [if_neg hc]
  rw [has_put_other hne]
  refine ⟨(hD c).1, fun u hu => ?_⟩
  rw [atKey_put_other hne]
  exact (hD c).2 u hu
 ·subst hw'
  exact ⟨rfl, rfl, rfl, by simp [setBlock], fun k _ hk => heap_setBlock_other hb _ (fun e => hk e)⟩
 subst hw'
 simp [setBlock]
end
end Go.Vc

namespace Go.Proofs.YtpbflfgigfdohaaDoor
open Go Go.Vc Go.RowKit Go.Proofs

open Classical in
noncomputable def partsB (t : Tp) (at_ most : Int) : Bool := decide (1 ≤ t.parts.length ∧ (t.parts.length : Int) ≤ most ∧ ∀ k, k < t.parts.length → paOk t at_ k)
theorem partsB_no {t : Tp} {at_ most : Int} {q : Nat} (hq : q < t.parts.length) (h : ¬ paOk t at_ q) : partsB t at_ most = false := by
 unfold partsB
 simp only [decide_eq_false_iff_not]
 exact fun hh => h (hh.2.2 q hq)
theorem partsB_len {t : Tp} {at_ most : Int} (h : ¬ (1 ≤ t.parts.length ∧ (t.parts.length : Int) ≤ most)) : partsB t at_ most = false := by
 unfold partsB
 simp only [decide_eq_false_iff_not]
 exact fun hh => h ⟨hh.1, hh.2.1⟩
theorem partsB_yes {t : Tp} {at_ most : Int} (h : 1 ≤ t.parts.length ∧ (t.parts.length : Int) ≤ most) (hk : ∀ k, k < t.parts.length → paOk t at_ k) : partsB t at_ most = true := by
 unfold partsB
 simp only [decide_eq_true_eq]
 exact ⟨h.1, h.2, hk⟩
def lbW (t : Tp) (p : Pa) : List UInt8 := if t.kind = 8 then p.label else []
def tgW (t : Tp) (p : Pa) : Int := if t.kind = 8 then 0 else p.tag
/-- the parts ahead of the k'th, in maps -/
structure PMap (t : Tp) (k nl nt : Nat) (gl : List UInt8 → Option Int) (gt : Int → Option Int) : Prop where
 lab : t.kind = 8 → nt = 0 ∧ ∀ s, (gl s).isSome = (t.parts.take k).any (fun z => decide (z.label = s))
 tag : ¬ t.kind = 8 → nl = 0 ∧ ∀ z, (gt z).isSome = (t.parts.take k).any (fun p => decide (p.tag = z))
 le : nl ≤ k ∧ nt ≤ k
theorem PMap.zero (t : Tp) : PMap t 0 0 0 (fun _ => none) (fun _ => none) := ⟨fun _ => ⟨rfl, fun _ => rfl⟩, fun _ => ⟨rfl, fun _ => rfl⟩, Nat.le_refl _, Nat.le_refl _⟩
theorem any_take {α : Type} {l : List α} {k : Nat} (hk : k ≤ l.length) (f : α → Bool) : (l.take k).any f = true ↔ ∃ j, ∃ hj : j < k, f (l[j]'(by omega)) = true := by
 rw [List.any_eq_true]
 constructor
 ·rintro ⟨x, hx, hf⟩
  obtain ⟨j, hj, rfl⟩ := List.getElem_of_mem hx
  simp only [List.length_take] at hj
  exact ⟨j, by omega, by simpa using hf⟩
 rintro ⟨j, hj, hf⟩
 exact ⟨_, List.mem_take_iff_getElem.2 ⟨j, by omega, rfl⟩, hf⟩
theorem any_snoc {α : Type} {l : List α} {k : Nat} (hk : k < l.length) (f : α → Bool) : (l.take (k + 1)).any f = ((l.take k).any f || f l[k]) := by
 rw [List.take_succ_eq_append_getElem hk, List.any_append]; simp
theorem PMap.step8 {t : Tp} {q nl nt : Nat} {gl : List UInt8 → Option Int} {gt : Int → Option Int} (h : PMap t q nl nt gl gt) (hq : q < t.parts.length) (h8 : t.kind = 8) (hs : nl + nt = q) (v : Int) :
  PMap t (q + 1) (if (gl t.parts[q].label).isSome = true then nl else nl + 1) nt (fun c => if c = t.parts[q].label then some v else gl c) gt ∧
  ((if (gl t.parts[q].label).isSome = true then nl else nl + 1) + nt = q + 1 ↔ ∀ j (hj : j < q), ¬ (lbW t t.parts[j] = lbW t t.parts[q] ∧ tgW t t.parts[j] = tgW t t.parts[q])) := by
 obtain ⟨h0, hl⟩ := h.lab h8
 have hle := h.le
 refine ⟨⟨fun _ => ⟨h0, fun s => ?_⟩, fun hn => absurd h8 hn, ?_⟩, ?_⟩
 ·rw [any_snoc hq, ← hl s]
  by_cases e : s = t.parts[q].label
  ·simp [e]
  have e2 : ¬ t.parts[q].label = s := fun h => e h.symm
  simp [e, e2]
 ·split <;> omega
 have hseen := hl t.parts[q].label
 have hb : (gl t.parts[q].label).isSome = true ↔ ∃ j, ∃ hj : j < q, (t.parts[j]'(by omega)).label = t.parts[q].label := by
  rw [hseen, any_take (by omega)]; simp
 simp only [lbW, tgW, if_pos h8, and_true]
 by_cases hc : (gl t.parts[q].label).isSome = true
 ·rw [if_pos hc]
  refine ⟨fun e => by omega, fun hh => ?_⟩
  obtain ⟨j, hj, e⟩ := hb.1 hc
  exact absurd e (hh j hj)
 rw [if_neg hc]
 exact ⟨fun _ j hj e => hc (hb.2 ⟨j, hj, e⟩), fun _ => by omega⟩
theorem PMap.stepT {t : Tp} {q nl nt : Nat} {gl : List UInt8 → Option Int} {gt : Int → Option Int} (h : PMap t q nl nt gl gt) (hq : q < t.parts.length) (h8 : ¬ t.kind = 8) (hs : nl + nt = q) (v : Int) :
  PMap t (q + 1) nl (if (gt t.parts[q].tag).isSome = true then nt else nt + 1) gl (fun c => if c = t.parts[q].tag then some v else gt c) ∧
  (nl + (if (gt t.parts[q].tag).isSome = true then nt else nt + 1) = q + 1 ↔ ∀ j (hj : j < q), ¬ (lbW t t.parts[j] = lbW t t.parts[q] ∧ tgW t t.parts[j] = tgW t t.parts[q])) := by
 obtain ⟨h0, hl⟩ := h.tag h8
 have hle := h.le
 refine ⟨⟨fun hn => absurd hn h8, fun _ => ⟨h0, fun s => ?_⟩, ?_⟩, ?_⟩
 ·rw [any_snoc hq, ← hl s]
  by_cases e : s = t.parts[q].tag
  ·simp [e]
  have e2 : ¬ t.parts[q].tag = s := fun h => e h.symm
  simp [e, e2]
 ·split <;> omega
 have hseen := hl t.parts[q].tag
 have hb : (gt t.parts[q].tag).isSome = true ↔ ∃ j, ∃ hj : j < q, (t.parts[j]'(by omega)).tag = t.parts[q].tag := by
  rw [hseen, any_take (by omega)]; simp
 simp only [lbW, tgW, if_neg h8, true_and]
 by_cases hc : (gt t.parts[q].tag).isSome = true
 ·rw [if_pos hc]
  refine ⟨fun e => by omega, fun hh => ?_⟩
  obtain ⟨j, hj, e⟩ := hb.1 hc
  exact absurd e (hh j hj)
 rw [if_neg hc]
 exact ⟨fun _ j hj e => hc (hb.2 ⟨j, hj, e⟩), fun _ => by omega⟩
theorem pa_bad8 {t : Tp} {at_ : Int} {q : Nat} (hq : q < t.parts.length) (h8 : t.kind = 8) (hn : nameB t.parts[q].label = false) : ¬ paOk t at_ q := by
 rintro ⟨_, h1, -⟩
 rw [if_pos h8, hn] at h1
 exact absurd h1.1 (by simp)
theorem pa_badT {t : Tp} {at_ : Int} {q : Nat} (hq : q < t.parts.length) (h8 : ¬ t.kind = 8) (hn : t.parts[q].tag < 0 ∨ 255 < t.parts[q].tag) : ¬ paOk t at_ q := by
 rintro ⟨_, h1, -⟩
 rw [if_neg h8] at h1
 omega
def vaOk (t : Tp) (p : Pa) : Prop := if t.kind = 8 then nameB p.label = true else 0 ≤ p.tag ∧ p.tag ≤ 255
theorem pa_lt {t : Tp} {at_ : Int} {j : Nat} (h : paOk t at_ j) : ∃ hj : j < t.parts.length, t.parts[j].label = lbW t t.parts[j] ∧ t.parts[j].tag = tgW t t.parts[j] := by
 obtain ⟨hj, h1, -⟩ := h
 refine ⟨hj, ?_⟩
 unfold lbW tgW
 by_cases h8 : t.kind = 8
 ·rw [if_pos h8] at h1; simp [h8, h1.2]
 rw [if_neg h8] at h1; simp [h8, h1.1]
theorem pa_iff {t : Tp} {at_ : Int} {q m : Nat} (hno : ∀ k, k < q → paOk t at_ k) (hq : q < t.parts.length) (hv : vaOk t t.parts[q]) (hsn : m = q + 1 ↔ ∀ j (hj : j < q), ¬ (lbW t t.parts[j] = lbW t t.parts[q] ∧ tgW t t.parts[j] = tgW t t.parts[q])) :
  paOk t at_ q ↔ (t.parts[q].label = lbW t t.parts[q] ∧ t.parts[q].tag = tgW t t.parts[q]) ∧ 0 ≤ t.parts[q].ty ∧ t.parts[q].ty < at_ ∧ m = q + 1 := by
 constructor
 ·intro h
  obtain ⟨_, e1, e2⟩ := pa_lt h
  obtain ⟨_, -, h2, h3, h4⟩ := h
  refine ⟨⟨e1, e2⟩, h2, h3, hsn.2 fun j hj hh => h4 j hj ?_⟩
  obtain ⟨_, d1, d2⟩ := pa_lt (hno j hj)
  rw [d1, d2, e1, e2]; exact hh
 rintro ⟨⟨e1, e2⟩, h2, h3, h4⟩
 refine ⟨hq, ?_, h2, h3, fun j hj hh => hsn.1 h4 j hj ?_⟩
 ·unfold vaOk at hv
  unfold lbW at e1
  unfold tgW at e2
  by_cases h8 : t.kind = 8
  ·rw [if_pos h8] at hv e2 ⊢; exact ⟨hv, e2⟩
  rw [if_neg h8] at hv e1 ⊢; exact ⟨e1, hv⟩
 obtain ⟨_, d1, d2⟩ := pa_lt (hno j hj)
 rw [← d1, ← d2, ← e1, ← e2]; exact hh
theorem vaOk_8 {t : Tp} {p : Pa} (h8 : t.kind = 8) (h : nameB p.label = true) : vaOk t p := by unfold vaOk; rw [if_pos h8]; exact h
theorem vaOk_T {t : Tp} {p : Pa} (h8 : ¬ t.kind = 8) (h : 0 ≤ p.tag ∧ p.tag ≤ 255) : vaOk t p := by unfold vaOk; rw [if_neg h8]; exact h
/-- a type that a machine can hold -/
structure TLim (t : Tp) : Prop where
 len : t.parts.length * 32 ≤ 140737488351232
 lb : ∀ p ∈ t.parts, p.label.length ≤ 9223372036854775807
 tg : ∀ p ∈ t.parts, -9223372036854775808 ≤ p.tag ∧ p.tag ≤ 9223372036854775807

set_option maxHeartbeats 4000000 in
theorem tparts_spec (t : Tp) (pv : Value) (at_ most : Int) (w0 : World) (hS00 : Sl w0 3 pv t.parts.length (pas t.parts)) (hl : TLim t) : Ca Tryd.prog 54 #[.agg (tcell t pv).toArray, .int .i64 at_, .int .i64 most] w0 (fun v w' => v = .bool (partsB t at_ most) ∧ Ext w0 w') := by
 have hlen := hl.len
 refine Ca.of Tryd.func54 Tryd.ntmps54 rfl rfl (We (Wb (Wa rfl (o_boxB rfl ?_))))
 intro w3 hC3 hx3 hs3
 obtain ⟨b3, hb3⟩ : ∃ b, b = w0.heap.size := ⟨_, rfl⟩
 rw [← hb3] at hC3 ⊢
 replace hC3 : w3.heap[b3]? = some (.cells (tcell t pv).toArray 49 (0, 0)) := hC3
 have hx := hx3
 refine Wa rfl (Wg vB (Wc (We (We (Wb (WL.cut (fun e1 w1 => e1 22 = .bool (!decide (1 ≤ t.parts.length ∧ (t.parts.length : Int) ≤ most)) ∧ e1 1 = .int .i64 at_ ∧ e1 3 = .pointer (some ⟨b3, 0, none⟩) ∧ w1.heap[b3]? = some (.cells (tcell t pv).toArray 49 (0, 0)) ∧ Ext w0 w1) ?_ ?_))))))
 ·-- region 1
  refine Wa rfl (Wl 3 TI49 rfl TI47 rfl rfl (Wa rfl (Wk TI47 rfl rfl (Wh hC3 rfl) (Wa rfl (Ws TI47 rfl (hS00.ext hx) (Wa rfl (o_lt rfl rfl (Wa rfl (Wf vB (Wq 4 rfl (fun g16 => ?_) (fun g16 => ?_)))))))))))
  ·skip
   refine Wi rfl (g16) rfl (Wi rfl (g16) rfl (Wi rfl (g16) rfl (Wi rfl (g16) rfl (Wi rfl (g16) rfl (Wa rfl (o_pickT rfl (g16) ?_))))))
   exact Wc (⟨congrArg Value.bool (by first | (have := of_decide_eq_true g16; rw [eq_comm]; simp only [Bool.not_eq_true', decide_eq_false_iff_not]; omega) | (have := of_decide_eq_false g16; rw [Bool.eq_iff_iff]; simp only [Bool.or_eq_true, Bool.not_eq_true', decide_eq_false_iff_not, decide_eq_true_eq]; omega)), rfl, rfl, hC3, hx⟩)
  skip
  refine Wj rfl (g16) rfl (Wl 3 TI49 rfl TI47 rfl rfl (Wj rfl (g16) rfl (Wk TI47 rfl rfl (Wh hC3 rfl) (Wj rfl (g16) rfl (Ws TI47 rfl (hS00.ext hx) (Wj rfl (g16) rfl (Wf vI (Wj rfl (g16) rfl (o_gt rfl rfl (Wa rfl (o_pickO rfl rfl ?_)))))))))))
  exact Wc (⟨congrArg Value.bool (by first | (have := of_decide_eq_true g16; rw [eq_comm]; simp only [Bool.not_eq_true', decide_eq_false_iff_not]; omega) | (have := of_decide_eq_false g16; rw [Bool.eq_iff_iff]; simp only [Bool.or_eq_true, Bool.not_eq_true', decide_eq_false_iff_not, decide_eq_true_eq]; omega)), rfl, rfl, hC3, hx⟩)
 rintro e w ⟨h22, h1, h3, hC3, hx⟩
 refine Wn h22 (fun c22 => ?_) (fun c22 => ?_)
 ·try simp only [cs8] at c22
  refine We (Wb (Wa rfl (Wg vB (Wc (Wm (Wu rfl vB ?_))))))
  exact ⟨congrArg Value.bool (partsB_len c22).symm, hx⟩
 try simp only [cs8] at c22
 refine Wp (We (Wb (Wa rfl (o_mkM ?_))))
 have hML := MapN.made Tryd.prog 9 3 enS w
 have hxm : Ext w (w.alloc (.map #[] 0)) := Only.alloc w _
 obtain ⟨lb, hlb⟩ : ∃ b, b = w.heap.size := ⟨_, rfl⟩
 have hzlb : w0.heap.size ≤ lb := by rw [hlb]; exact hx.size
 rw [← hlb] at hML ⊢
 generalize w.alloc (.map #[] 0) = wm at hML hxm ⊢
 replace hC3 := hxm.blk hC3 (fun h => h)
 replace hx := hx.tr hxm
 have hlw := hML.lt
 refine Wa rfl (o_mkM ?_)
 have hMT := MapN.made Tryd.prog 3 3 enI wm
 have hxm : Ext wm (wm.alloc (.map #[] 0)) := Only.alloc wm _
 obtain ⟨tb, htb⟩ : ∃ b, b = wm.heap.size := ⟨_, rfl⟩
 have hztb : w0.heap.size ≤ tb := by rw [htb]; exact hx.size
 rw [← htb] at hMT ⊢
 generalize wm.alloc (.map #[] 0) = wn at hMT hxm ⊢
 replace hC3 := hxm.blk hC3 (fun h => h)
 replace hx := hx.tr hxm
 replace hML := hML.ext hxm
 have hne1 : ¬ tb = lb := by omega
 have hne2 : ¬ lb = tb := by omega
 refine Wa rfl (Wo (Wa rfl (Wo (Wc (We (We (Wb (Wa rfl (Wl 3 TI49 rfl TI47 rfl h3 (Wa rfl (Wk TI47 rfl rfl (Wh hC3 rfl) (Wa rfl (Ws TI47 rfl (hS00.ext hx) (Wa rfl (Wf vI (Wc (W.block (W.loop (fun e w => ∃ (q nl nt : Nat) (gl : List UInt8 → Option Int) (gt : Int → Option Int), q ≤ t.parts.length ∧ e 1 = .int .i64 at_ ∧ e 3 = .pointer (some ⟨b3, 0, none⟩) ∧ e 7 = .map (some lb) ∧ e 8 = .map (some tb) ∧ e 26 = pv ∧ e 27 = .int .i64 (t.parts.length : Int) ∧ e 28 = .int .i64 (q : Int) ∧ (∀ k, k < q → paOk t at_ k) ∧ w.heap[b3]? = some (.cells (tcell t pv).toArray 49 (0, 0)) ∧ MapN Tryd.prog 9 3 enS w lb nl gl ∧ MapN Tryd.prog 3 3 enI w tb nt gt ∧ PMap t q nl nt gl gt ∧ nl + nt = q ∧ Ext w0 w) (fun e w => t.parts.length - (intOf (e 28)).toNat) ?_ ?_))))))))))))))))))
 ·exact ⟨0, 0, 0, fun _ => none, fun _ => none, Nat.zero_le _, h1, h3, rfl, rfl, rfl, rfl, rfl, fun k hk => by omega, hC3, hML, hMT, PMap.zero t, rfl, hx⟩
 rintro e w ⟨q, nl, nt, gl, gt, hq, h1, h3, h7, h8, h26, h27, h28, hno, hC3, hML, hMT, hPM, hsum, hx⟩
 have hm28 := h28
 refine We (Wb (Wa rfl (o_lt h28 h27 (Wc (We (Wn rfl (fun c29 => ?_) (fun c29 => ?_)))))))
 ·try simp only [cs8] at c29
  have hq1 : q < t.parts.length := by omega
  obtain ⟨ub, uo, uc, hpv, huc⟩ := Sl.paq (hS00.ext hx) hq1
  rw [hpv] at h26
  obtain ⟨p, hp⟩ : ∃ p, p = t.parts[q] := ⟨_, rfl⟩
  rw [← hp] at huc
  have hlbl : p.label.length ≤ 9223372036854775807 := by rw [hp]; exact hl.lb _ (List.getElem_mem hq1)
  have htgl : -9223372036854775808 ≤ p.tag ∧ p.tag ≤ 9223372036854775807 := by rw [hp]; exact hl.tg _ (List.getElem_mem hq1)
  have hle := hPM.le
  refine Wp (We (W.block (We (Wb (Wa rfl (Wf h28 (Wa rfl (Wt (i := q) TI47 TI66 h26 h28 (by omega) (Wa rfl (o_ldA TI66 rfl rfl huc rfl (Wa rfl (o_alB TI66 ?_))))))))))))
  intro wa hCa hxa hsa
  refine Wa rfl (Wg vI (WL.u (o_stA TI66 rfl (show _ = Value.agg (paV p).toArray from rfl) rfl rfl hCa rfl ?_)))
  intro wb10 hC10 hob hsb
  have hxb := Ext.own hxa (Nat.le_refl _) hob
  obtain ⟨b10, hb10⟩ : ∃ b, b = w.heap.size := ⟨_, rfl⟩
  rw [← hb10] at hC10 ⊢
  clear hCa hxa hsa hob hsb
  replace hx := hx.tr hxb
  replace hML := hML.ext hxb
  replace hMT := hMT.ext hxb
  replace hC3 := hxb.blk hC3 (fun h => h)
  clear hxb
  refine Wc (We (Wb (Wa rfl (Wl 2 TI66 rfl TI3 rfl rfl (Wa rfl (Wk TI3 rfl rfl (Wh hC10 rfl) (Wa rfl (o_bldC (cs := [(.string ⟨#[]⟩), (.int .i64 0), _]) TI66 (Sizes.cons TI9 (Sizes.cons TI3 (Sizes.cons TI3 Sizes.nil))) rfl (lcp vI lnp) rfl rfl (Wa rfl (o_alB TI66 ?_))))))))))
  intro wa hCa hxa hsa
  refine WL.u (o_stA TI66 rfl (show _ = Value.agg ([st [], .int .i64 0, .int .i64 p.ty]).toArray from rfl) rfl rfl hCa rfl ?_)
  intro wb11 hC11 hob hsb
  have hxb := Ext.own hxa (Nat.le_refl _) hob
  obtain ⟨b11, hb11⟩ : ∃ b, b = wb10.heap.size := ⟨_, rfl⟩
  rw [← hb11] at hC11 ⊢
  clear hCa hxa hsa hob hsb
  have hne : ¬ b10 = b11 := by have := blk_lt3 hC10; omega
  have hz11 : w0.heap.size ≤ b11 := by rw [hb11]; exact hx.size
  replace hx := hx.tr hxb
  replace hML := hML.ext hxb
  replace hMT := hMT.ext hxb
  replace hC3 := hxb.blk hC3 (fun h => h)
  replace hC10 := hxb.blk hC10 (fun h => h)
  clear hxb
  refine Wc (We (We (Wb (Wa rfl (Wl 0 TI49 rfl TI3 rfl h3 (Wa rfl (Wk TI3 rfl rfl (Wh hC3 rfl) (Wa rfl (o_eq rfl rfl (Wc (W.cut (fun e1 w1 => ∃ (nl2 nt2 : Nat) (gl2 : List UInt8 → Option Int) (gt2 : Int → Option Int), e1 1 = .int .i64 at_ ∧ e1 3 = .pointer (some ⟨b3, 0, none⟩) ∧ e1 7 = .map (some lb) ∧ e1 8 = .map (some tb) ∧ e1 9 = .int .i64 (q : Int) ∧ e1 10 = .pointer (some ⟨b10, 0, none⟩) ∧ e1 11 = .pointer (some ⟨b11, 0, none⟩) ∧ e1 26 = (.slice (some ⟨ub, uo, none⟩) t.parts.length uc) ∧ e1 27 = .int .i64 (t.parts.length : Int) ∧ e1 28 = .int .i64 (q : Int) ∧ w1.heap[b3]? = some (.cells (tcell t pv).toArray 49 (0, 0)) ∧ w1.heap[b10]? = some (.cells (paV p).toArray 66 (0, 0)) ∧ w1.heap[b11]? = some (.cells #[st (lbW t p), .int .i64 (tgW t p), .int .i64 p.ty] 66 (0, 0)) ∧ MapN Tryd.prog 9 3 enS w1 lb nl2 gl2 ∧ MapN Tryd.prog 3 3 enI w1 tb nt2 gt2 ∧ PMap t (q + 1) nl2 nt2 gl2 gt2 ∧ (nl2 + nt2 = q + 1 ↔ ∀ j (hj : j < q), ¬ (lbW t t.parts[j] = lbW t p ∧ tgW t t.parts[j] = tgW t p)) ∧ vaOk t p ∧ Ext w0 w1) ?_ ?_)))))))))))
  ·-- both ways
   refine Wn rfl (fun c38 => ?_) (fun c38 => ?_)
   ·try simp only [cs8] at c38
    have hk8 : t.kind = 8 := by simpa using c38
    refine We (Wb (Wa rfl (Wl 0 TI66 rfl TI9 rfl rfl (Wa rfl (Wk TI9 rfl rfl (Wh hC10 rfl) (Wa rfl (Wl 0 TI66 rfl TI9 rfl rfl (WL.u (o_stB TI9 rfl (show _ = st p.label from rfl) rfl hC11 (show 0 < 3 by decide) ?_)))))))))
    intro wst hC11n ho hs41
    have hC11n0 := hC11n
    replace hC10 := ho.blk hC10 hne
    replace hC3 := ho.blk hC3 (blk_ne3 hC3 hC11 (by decide))
    replace hML := hML.only ho (fun e => map_blk_ne hML.is hC11 e.symm)
    replace hMT := hMT.only ho (fun e => map_blk_ne hMT.is hC11 e.symm)
    replace hx := hx.trans' ho (fun _ h => h) (fun b hb e => by omega)
    replace hC11 : wst.heap[b11]? = some (.cells #[st (lbW t p), .int .i64 (tgW t p), .int .i64 p.ty] 66 (0, 0)) := by simp only [lbW, tgW, if_pos hk8]; exact hC11n
    refine Wc (We (Wb (Wa rfl (Wf h7 (Wa rfl (Wl 0 TI66 rfl TI9 rfl rfl (Wa rfl (Wk TI9 rfl rfl (Wh hC10 rfl) (Wa rfl (Wf vI (WL.u (o_muN enS_inj MT90 rfl hML rfl (keyS Tryd.underlying9 (by rw [maxLen_eq]; omega)) rfl (wf_i64 (by omega)) (by rw [maxLen_eq]; omega) ?_))))))))))))
    intro wq hMq hoq hsq
    replace hC10 := hoq.blk hC10 (map_blk_ne hML.is hC10)
    replace hC11 := hoq.blk hC11 (map_blk_ne hML.is hC11)
    replace hC3 := hoq.blk hC3 (map_blk_ne hML.is hC3)
    replace hMT := hMT.only hoq hne1
    replace hx := hx.trans' hoq (fun _ h => h) (fun b hb e => by omega)
    obtain ⟨hPM2, hcnt⟩ := hPM.step8 hq1 hk8 hsum (q : Int)
    rw [← hp] at hPM2 hcnt
    replace hML := hMq
    refine Wc (We (Wb (Wa rfl (Wl 0 TI66 rfl TI9 rfl rfl (Wa rfl (Wk TI9 rfl rfl (Wh hC10 rfl) (Wa rfl (o_call Tryd.call31 (lc rfl ln) ((name_spec p.label _ hlbl).mono ?_)))))))))
    rintro v48 w48 ⟨rfl, rfl⟩
    refine Wa rfl (o_not' rfl (Wc (Wn rfl (fun c49 => ?_) (fun c49 => ?_))))
    ·try simp only [cs8] at c49
     have hnm : nameB p.label = false := by simpa using c49
     refine We (Wb (Wa rfl (Wg vB (Wc (Wm (Wu rfl vB ?_))))))
     exact ⟨congrArg Value.bool (partsB_no hq1 (pa_bad8 hq1 hk8 (hp ▸ hnm))).symm, hx⟩
    try simp only [cs8] at c49
    have hnm : nameB p.label = true := by simpa using c49
    have hval : vaOk t p := vaOk_8 hk8 hnm
    refine Wp ?_
    exact ⟨_, _, _, _, h1, h3, h7, h8, rfl, rfl, rfl, h26, h27, h28, hC3, hC10, hC11, hML, hMT, hPM2, hcnt, hval, hx⟩
   try simp only [cs8] at c38
   have hk8 : ¬ t.kind = 8 := by simpa using c38
   refine We (Wb (Wa rfl (Wl 1 TI66 rfl TI3 rfl rfl (Wa rfl (Wk TI3 rfl rfl (Wh hC10 rfl) (Wa rfl (Wl 1 TI66 rfl TI3 rfl rfl (WL.u (o_stB TI3 rfl (show _ = Value.int .i64 p.tag from rfl) rfl hC11 (show 1 < 3 by decide) ?_)))))))))
   intro wst hC11n ho hs41
   have hC11n0 := hC11n
   replace hC10 := ho.blk hC10 hne
   replace hC3 := ho.blk hC3 (blk_ne3 hC3 hC11 (by decide))
   replace hML := hML.only ho (fun e => map_blk_ne hML.is hC11 e.symm)
   replace hMT := hMT.only ho (fun e => map_blk_ne hMT.is hC11 e.symm)
   replace hx := hx.trans' ho (fun _ h => h) (fun b hb e => by omega)
   replace hC11 : wst.heap[b11]? = some (.cells #[st (lbW t p), .int .i64 (tgW t p), .int .i64 p.ty] 66 (0, 0)) := by simp only [lbW, tgW, if_neg hk8]; exact hC11n
   refine Wc (We (Wb (Wa rfl (Wf h8 (Wa rfl (Wl 1 TI66 rfl TI3 rfl rfl (Wa rfl (Wk TI3 rfl rfl (Wh hC10 rfl) (Wa rfl (Wf vI (WL.u (o_muN enI_inj MT140 rfl hMT rfl (keyI Tryd.underlying3 (by omega)) rfl (wf_i64 (by omega)) (by rw [maxLen_eq]; omega) ?_))))))))))))
   intro wq hMq hoq hsq
   replace hC10 := hoq.blk hC10 (map_blk_ne hMT.is hC10)
   replace hC11 := hoq.blk hC11 (map_blk_ne hMT.is hC11)
   replace hC3 := hoq.blk hC3 (map_blk_ne hMT.is hC3)
   replace hML := hML.only hoq hne2
   replace hx := hx.trans' hoq (fun _ h => h) (fun b hb e => by omega)
   obtain ⟨hPM2, hcnt⟩ := hPM.stepT hq1 hk8 hsum (q : Int)
   rw [← hp] at hPM2 hcnt
   replace hMT := hMq
   refine Wc (We ?_)
   by_cases hneg : p.tag < 0
   ·skip
    have hbt : p.tag < 0 ∨ 255 < p.tag := .inl hneg
    refine Wb (Wa rfl (Wl 1 TI66 rfl TI3 rfl rfl (Wa rfl (Wk TI3 rfl rfl (Wh hC10 rfl) (Wa rfl (o_lt rfl rfl (Wa rfl (Wf vB (Wi rfl (by simp [hneg]) rfl (Wi rfl (by simp [hneg]) rfl (Wi rfl (by simp [hneg]) rfl (Wa rfl (o_pickT rfl (by simp [hneg]) (Wc (W.condT' rfl (rfl) (We (Wb (Wa rfl (Wg vB (Wc (Wm (Wu rfl vB ?_))))))))))))))))))))))
    exact ⟨congrArg Value.bool (partsB_no hq1 (pa_badT hq1 hk8 (hp ▸ hbt))).symm, hx⟩
   skip
   refine Wb (Wa rfl (Wl 1 TI66 rfl TI3 rfl rfl (Wa rfl (Wk TI3 rfl rfl (Wh hC10 rfl) (Wa rfl (o_lt rfl rfl (Wa rfl (Wf vB (Wj rfl (by simp [hneg]) rfl (Wl 1 TI66 rfl TI3 rfl rfl (Wj rfl (by simp [hneg]) rfl (Wk TI3 rfl rfl (Wh hC10 rfl) (Wj rfl (by simp [hneg]) rfl (o_gt rfl rfl (Wa rfl (o_pickO rfl rfl (Wc (Wn rfl (fun c64 => ?_) (fun c64 => ?_)))))))))))))))))))
   ·try simp only [cs8] at c64
    have hbt : p.tag < 0 ∨ 255 < p.tag := c64
    refine We (Wb (Wa rfl (Wg vB (Wc (Wm (Wu rfl vB ?_))))))
    exact ⟨congrArg Value.bool (partsB_no hq1 (pa_badT hq1 hk8 (hp ▸ hbt))).symm, hx⟩
   try simp only [cs8] at c64
   have hval : vaOk t p := vaOk_T hk8 ⟨by omega, by omega⟩
   refine Wp ?_
   exact ⟨_, _, _, _, h1, h3, h7, h8, rfl, rfl, rfl, h26, h27, h28, hC3, hC10, hC11, hML, hMT, hPM2, hcnt, hval, hx⟩
  rintro e w ⟨nl2, nt2, gl2, gt2, h1, h3, h7, h8, h9, h10, h11, h26, h27, h28, hC3, hC10, hC11, hML, hMT, hPM, hcnt, hval, hx⟩
  refine We ?_
  have hle2 := hPM.le
  by_cases hA : p.label = lbW t p ∧ p.tag = tgW t p
  by_cases hB : 0 ≤ p.ty
  by_cases hC : p.ty < at_
  by_cases hD : nl2 + nt2 = q + 1
  ·skip
   refine Wb (Wa rfl (o_ldA TI66 rfl h10 (show Cells _ b10 0 (paV p) from Cells.of hC10 0 _ (by simp)) rfl (Wa rfl (o_ldA TI66 rfl h11 (show Cells _ b11 0 [st (lbW t p), .int .i64 (tgW t p), .int .i64 p.ty] from Cells.of hC11 0 _ (by simp)) rfl (Wa rfl (o_neR TI66 (by kernel_rfl) (by kernel_rfl) rfl rfl (.str TI9 (by decide) rfl rfl (.int TI3 (by decide) rfl rfl (.int TI3 (by decide) rfl rfl .nil))) (Wa rfl (Wf vB (Wj rfl (by simpa using hA) rfl (Wl 2 TI66 rfl TI3 rfl h10 (Wj rfl (by simpa using hA) rfl (Wk TI3 rfl rfl (Wh hC10 rfl) (Wj rfl (by simpa using hA) rfl (o_lt rfl rfl (Wa rfl (o_pickO rfl rfl (Wa rfl (Wf vB (Wj rfl (by simp; exact ⟨hA, hB⟩) rfl (Wl 2 TI66 rfl TI3 rfl h10 (Wj rfl (by simp; exact ⟨hA, hB⟩) rfl (Wk TI3 rfl rfl (Wh hC10 rfl) (Wj rfl (by simp; exact ⟨hA, hB⟩) rfl (Wf h1 (Wj rfl (by simp; exact ⟨hA, hB⟩) rfl (o_ge rfl rfl (Wa rfl (o_pickO rfl rfl (Wa rfl (Wf vB (Wj rfl (by simp; exact ⟨⟨hA, hB⟩, hC⟩) rfl (Wf h7 (Wj rfl (by simp; exact ⟨⟨hA, hB⟩, hC⟩) rfl (o_lenM Tryd.underlying90 rfl hML (Wj rfl (by simp; exact ⟨⟨hA, hB⟩, hC⟩) rfl (Wf h8 (Wj rfl (by simp; exact ⟨⟨hA, hB⟩, hC⟩) rfl (o_lenM Tryd.underlying140 rfl hMT (Wj rfl (by simp; exact ⟨⟨hA, hB⟩, hC⟩) rfl (o_addi rfl rfl (by omega) (Wj rfl (by simp; exact ⟨⟨hA, hB⟩, hC⟩) rfl (Wf h9 (Wj rfl (by simp; exact ⟨⟨hA, hB⟩, hC⟩) rfl (o_addi rfl rfl (by omega) (Wj rfl (by simp; exact ⟨⟨hA, hB⟩, hC⟩) rfl (o_ne rfl rfl (Wa rfl (o_pickO rfl rfl (Wc (W.condF' rfl (by simp; exact ⟨⟨⟨hA, hB⟩, hC⟩, by omega⟩) (Wp (Wb (Wa rfl (o_addi h28 rfl (by omega) (Wa rfl (Wf vI (Wc (⟨⟨q + 1, nl2, nt2, gl2, gt2, by omega, h1, h3, h7, h8, h26.trans hpv.symm, h27, rfl, fun k hk => ?_, hC3, hML, hMT, hPM, by omega, hx⟩, ?_⟩))))))))))))))))))))))))))))))))))))))))))))))))))))))))))
   ·rcases Nat.lt_or_ge k q with h | h
    ·exact hno k h
    rw [show k = q by omega]
    exact (pa_iff hno hq1 (hp ▸ hval) (hp ▸ hcnt)).2 ⟨hp ▸ hA, hp ▸ hB, hp ▸ hC, by omega⟩
   show t.parts.length - ((q : Int) + 1).toNat < _
   rw [hm28]; simp [intOf]; omega
  ·skip
   have hbad : ¬ paOk t at_ q := fun hh => by
    have h4 := ((pa_iff hno hq1 (hp ▸ hval) (hp ▸ hcnt)).1 hh).2.2.2
    omega
   refine Wb (Wa rfl (o_ldA TI66 rfl h10 (show Cells _ b10 0 (paV p) from Cells.of hC10 0 _ (by simp)) rfl (Wa rfl (o_ldA TI66 rfl h11 (show Cells _ b11 0 [st (lbW t p), .int .i64 (tgW t p), .int .i64 p.ty] from Cells.of hC11 0 _ (by simp)) rfl (Wa rfl (o_neR TI66 (by kernel_rfl) (by kernel_rfl) rfl rfl (.str TI9 (by decide) rfl rfl (.int TI3 (by decide) rfl rfl (.int TI3 (by decide) rfl rfl .nil))) (Wa rfl (Wf vB (Wj rfl (by simpa using hA) rfl (Wl 2 TI66 rfl TI3 rfl h10 (Wj rfl (by simpa using hA) rfl (Wk TI3 rfl rfl (Wh hC10 rfl) (Wj rfl (by simpa using hA) rfl (o_lt rfl rfl (Wa rfl (o_pickO rfl rfl (Wa rfl (Wf vB (Wj rfl (by simp; exact ⟨hA, hB⟩) rfl (Wl 2 TI66 rfl TI3 rfl h10 (Wj rfl (by simp; exact ⟨hA, hB⟩) rfl (Wk TI3 rfl rfl (Wh hC10 rfl) (Wj rfl (by simp; exact ⟨hA, hB⟩) rfl (Wf h1 (Wj rfl (by simp; exact ⟨hA, hB⟩) rfl (o_ge rfl rfl (Wa rfl (o_pickO rfl rfl (Wa rfl (Wf vB (Wj rfl (by simp; exact ⟨⟨hA, hB⟩, hC⟩) rfl (Wf h7 (Wj rfl (by simp; exact ⟨⟨hA, hB⟩, hC⟩) rfl (o_lenM Tryd.underlying90 rfl hML (Wj rfl (by simp; exact ⟨⟨hA, hB⟩, hC⟩) rfl (Wf h8 (Wj rfl (by simp; exact ⟨⟨hA, hB⟩, hC⟩) rfl (o_lenM Tryd.underlying140 rfl hMT (Wj rfl (by simp; exact ⟨⟨hA, hB⟩, hC⟩) rfl (o_addi rfl rfl (by omega) (Wj rfl (by simp; exact ⟨⟨hA, hB⟩, hC⟩) rfl (Wf h9 (Wj rfl (by simp; exact ⟨⟨hA, hB⟩, hC⟩) rfl (o_addi rfl rfl (by omega) (Wj rfl (by simp; exact ⟨⟨hA, hB⟩, hC⟩) rfl (o_ne rfl rfl (Wa rfl (o_pickO rfl rfl (Wc (W.condT' rfl (by simp only [Bool.or_eq_true, Bool.not_eq_true', decide_eq_false_iff_not]; right; omega) (We (Wb (Wa rfl (Wg vB (Wc (Wm (Wu rfl vB ?_)))))))))))))))))))))))))))))))))))))))))))))))))))))))))
   exact ⟨congrArg Value.bool (partsB_no hq1 hbad).symm, hx⟩
  ·skip
   have hbad : ¬ paOk t at_ q := fun hh => by
    have h4 := ((pa_iff hno hq1 (hp ▸ hval) (hp ▸ hcnt)).1 hh).2.2.1
    rw [← hp] at h4; exact hC h4
   refine Wb (Wa rfl (o_ldA TI66 rfl h10 (show Cells _ b10 0 (paV p) from Cells.of hC10 0 _ (by simp)) rfl (Wa rfl (o_ldA TI66 rfl h11 (show Cells _ b11 0 [st (lbW t p), .int .i64 (tgW t p), .int .i64 p.ty] from Cells.of hC11 0 _ (by simp)) rfl (Wa rfl (o_neR TI66 (by kernel_rfl) (by kernel_rfl) rfl rfl (.str TI9 (by decide) rfl rfl (.int TI3 (by decide) rfl rfl (.int TI3 (by decide) rfl rfl .nil))) (Wa rfl (Wf vB (Wj rfl (by simpa using hA) rfl (Wl 2 TI66 rfl TI3 rfl h10 (Wj rfl (by simpa using hA) rfl (Wk TI3 rfl rfl (Wh hC10 rfl) (Wj rfl (by simpa using hA) rfl (o_lt rfl rfl (Wa rfl (o_pickO rfl rfl (Wa rfl (Wf vB (Wj rfl (by simp; exact ⟨hA, hB⟩) rfl (Wl 2 TI66 rfl TI3 rfl h10 (Wj rfl (by simp; exact ⟨hA, hB⟩) rfl (Wk TI3 rfl rfl (Wh hC10 rfl) (Wj rfl (by simp; exact ⟨hA, hB⟩) rfl (Wf h1 (Wj rfl (by simp; exact ⟨hA, hB⟩) rfl (o_ge rfl rfl (Wa rfl (o_pickO rfl rfl (Wa rfl (Wf vB (Wi rfl (by rw [decide_eq_true (show at_ ≤ p.ty by omega)]; simp) rfl (Wi rfl (by rw [decide_eq_true (show at_ ≤ p.ty by omega)]; simp) rfl (Wi rfl (by rw [decide_eq_true (show at_ ≤ p.ty by omega)]; simp) rfl (Wi rfl (by rw [decide_eq_true (show at_ ≤ p.ty by omega)]; simp) rfl (Wi rfl (by rw [decide_eq_true (show at_ ≤ p.ty by omega)]; simp) rfl (Wi rfl (by rw [decide_eq_true (show at_ ≤ p.ty by omega)]; simp) rfl (Wi rfl (by rw [decide_eq_true (show at_ ≤ p.ty by omega)]; simp) rfl (Wi rfl (by rw [decide_eq_true (show at_ ≤ p.ty by omega)]; simp) rfl (Wa rfl (o_pickT rfl (by rw [decide_eq_true (show at_ ≤ p.ty by omega)]; simp) (Wc (W.condT' rfl (rfl) (We (Wb (Wa rfl (Wg vB (Wc (Wm (Wu rfl vB ?_)))))))))))))))))))))))))))))))))))))))))))))))))
   exact ⟨congrArg Value.bool (partsB_no hq1 hbad).symm, hx⟩
  ·skip
   have hbad : ¬ paOk t at_ q := fun hh => by
    have h4 := ((pa_iff hno hq1 (hp ▸ hval) (hp ▸ hcnt)).1 hh).2.1
    rw [← hp] at h4; exact hB h4
   refine Wb (Wa rfl (o_ldA TI66 rfl h10 (show Cells _ b10 0 (paV p) from Cells.of hC10 0 _ (by simp)) rfl (Wa rfl (o_ldA TI66 rfl h11 (show Cells _ b11 0 [st (lbW t p), .int .i64 (tgW t p), .int .i64 p.ty] from Cells.of hC11 0 _ (by simp)) rfl (Wa rfl (o_neR TI66 (by kernel_rfl) (by kernel_rfl) rfl rfl (.str TI9 (by decide) rfl rfl (.int TI3 (by decide) rfl rfl (.int TI3 (by decide) rfl rfl .nil))) (Wa rfl (Wf vB (Wj rfl (by simpa using hA) rfl (Wl 2 TI66 rfl TI3 rfl h10 (Wj rfl (by simpa using hA) rfl (Wk TI3 rfl rfl (Wh hC10 rfl) (Wj rfl (by simpa using hA) rfl (o_lt rfl rfl (Wa rfl (o_pickO rfl rfl (Wa rfl (Wf vB (Wi rfl (by rw [decide_eq_true (show p.ty < 0 by omega)]; simp) rfl (Wi rfl (by rw [decide_eq_true (show p.ty < 0 by omega)]; simp) rfl (Wi rfl (by rw [decide_eq_true (show p.ty < 0 by omega)]; simp) rfl (Wi rfl (by rw [decide_eq_true (show p.ty < 0 by omega)]; simp) rfl (Wa rfl (o_pickT rfl (by rw [decide_eq_true (show p.ty < 0 by omega)]; simp) (Wa rfl (Wf vB (Wi rfl (rfl) rfl (Wi rfl (rfl) rfl (Wi rfl (rfl) rfl (Wi rfl (rfl) rfl (Wi rfl (rfl) rfl (Wi rfl (rfl) rfl (Wi rfl (rfl) rfl (Wi rfl (rfl) rfl (Wa rfl (o_pickT rfl (rfl) (Wc (W.condT' rfl (rfl) (We (Wb (Wa rfl (Wg vB (Wc (Wm (Wu rfl vB ?_)))))))))))))))))))))))))))))))))))))))))))))
   exact ⟨congrArg Value.bool (partsB_no hq1 hbad).symm, hx⟩
  skip
  have hbad : ¬ paOk t at_ q := fun hh => by
   have h4 := ((pa_iff hno hq1 (hp ▸ hval) (hp ▸ hcnt)).1 hh).1
   rw [← hp] at h4; exact hA h4
  refine Wb (Wa rfl (o_ldA TI66 rfl h10 (show Cells _ b10 0 (paV p) from Cells.of hC10 0 _ (by simp)) rfl (Wa rfl (o_ldA TI66 rfl h11 (show Cells _ b11 0 [st (lbW t p), .int .i64 (tgW t p), .int .i64 p.ty] from Cells.of hC11 0 _ (by simp)) rfl (Wa rfl (o_neR TI66 (by kernel_rfl) (by kernel_rfl) rfl rfl (.str TI9 (by decide) rfl rfl (.int TI3 (by decide) rfl rfl (.int TI3 (by decide) rfl rfl .nil))) (Wa rfl (Wf vB (Wi rfl (by first | (simp; exact fun h1 h2 => hA ⟨h1, h2⟩) | (simp; exact Classical.not_and_iff_not_or_not.1 hA)) rfl (Wi rfl (by first | (simp; exact fun h1 h2 => hA ⟨h1, h2⟩) | (simp; exact Classical.not_and_iff_not_or_not.1 hA)) rfl (Wi rfl (by first | (simp; exact fun h1 h2 => hA ⟨h1, h2⟩) | (simp; exact Classical.not_and_iff_not_or_not.1 hA)) rfl (Wa rfl (o_pickT rfl (by first | (simp; exact fun h1 h2 => hA ⟨h1, h2⟩) | (simp; exact Classical.not_and_iff_not_or_not.1 hA)) (Wa rfl (Wf vB (Wi rfl (rfl) rfl (Wi rfl (rfl) rfl (Wi rfl (rfl) rfl (Wi rfl (rfl) rfl (Wa rfl (o_pickT rfl (rfl) (Wa rfl (Wf vB (Wi rfl (rfl) rfl (Wi rfl (rfl) rfl (Wi rfl (rfl) rfl (Wi rfl (rfl) rfl (Wi rfl (rfl) rfl (Wi rfl (rfl) rfl (Wi rfl (rfl) rfl (Wi rfl (rfl) rfl (Wa rfl (o_pickT rfl (rfl) (Wc (W.condT' rfl (rfl) (We (Wb (Wa rfl (Wg vB (Wc (Wm (Wu rfl vB ?_))))))))))))))))))))))))))))))))))))))))))
  exact ⟨congrArg Value.bool (partsB_no hq1 hbad).symm, hx⟩
 try simp only [cs8] at c29
 have hq1 : q = t.parts.length := by omega
 rw [hq1] at hno
 refine W.exit (We (Wb (Wa rfl (Wg vB (Wc (Wm (Wu rfl vB ?_)))))))
 exact ⟨congrArg Value.bool (partsB_yes c22 hno).symm, hx⟩
end Go.Proofs.YtpbflfgigfdohaaDoor

namespace Go.Proofs.YtpbflfgigfdohaaDoor
open Go Go.Vc Go.RowKit Go.Proofs

open Classical in
noncomputable def tpB (t : Tp) (at_ : Int) : Bool := decide (tpOk t at_)
theorem tpB_no {t : Tp} {at_ : Int} (h : ¬ tpOk t at_) : tpB t at_ = false := by unfold tpB; simp only [decide_eq_false_iff_not]; exact h
theorem tpB_iff {t : Tp} {at_ : Int} : tpB t at_ = true ↔ tpOk t at_ := by unfold tpB; simp only [decide_eq_true_eq]
theorem partsB_iff {t : Tp} {at_ : Int} : partsB t at_ 64 = true ↔ partsOk t at_ := by
 unfold partsB partsOk
 simp only [decide_eq_true_eq]
 constructor
 ·rintro ⟨h1, h2, h3⟩; exact ⟨h1, by omega, h3⟩
 rintro ⟨h1, h2, h3⟩; exact ⟨h1, by omega, h3⟩
theorem len0 {t : Tp} : ((t.parts.length : Nat) : Int) = 0 ↔ t.parts = [] := by
 rw [show ((t.parts.length : Nat) : Int) = 0 ↔ t.parts.length = 0 by omega]; exact List.length_eq_zero_iff
theorem tpB_123 {t : Tp} {at_ : Int} (hk : t.kind = 1 ∨ t.kind = 2 ∨ t.kind = 3) (hn : numOk t.kind t.n) : tpB t at_ = (decide (t.elem = 0) && decide (((t.parts.length : Nat) : Int) = 0)) := by
 rw [Bool.eq_iff_iff, tpB_iff, Bool.and_eq_true, decide_eq_true_eq, decide_eq_true_eq, len0, tpOk, if_pos hk]
 exact ⟨fun h => h.2, fun h => ⟨hn, h⟩⟩
theorem tpB_456 {t : Tp} {at_ : Int} (hk : t.kind = 4 ∨ t.kind = 5 ∨ t.kind = 6) (hn : numOk t.kind t.n) : tpB t at_ = (decide (0 ≤ t.elem ∧ t.elem < at_) && decide (((t.parts.length : Nat) : Int) = 0)) := by
 rw [Bool.eq_iff_iff, tpB_iff, Bool.and_eq_true, decide_eq_true_eq, decide_eq_true_eq, len0, tpOk, if_neg (by omega), if_pos hk]
 exact ⟨fun h => ⟨⟨h.2.1, h.2.2.1⟩, h.2.2.2⟩, fun h => ⟨hn, h.1.1, h.1.2, h.2⟩⟩
theorem tpB_78 {t : Tp} {at_ : Int} (hk : t.kind = 7 ∨ t.kind = 8) (hn : numOk t.kind t.n) : tpB t at_ = (decide (t.elem = 0) && partsB t at_ 64) := by
 rw [Bool.eq_iff_iff, tpB_iff, Bool.and_eq_true, decide_eq_true_eq, partsB_iff, tpOk, if_neg (by omega), if_neg (by omega)]
 exact ⟨fun h => ⟨h.2.2.1, h.2.2.2⟩, fun h => ⟨hn, hk, h⟩⟩
theorem tpB_else {t : Tp} {at_ : Int} (h : ¬ (t.kind = 1 ∨ t.kind = 2 ∨ t.kind = 3) ∧ ¬ (t.kind = 4 ∨ t.kind = 5 ∨ t.kind = 6) ∧ ¬ (t.kind = 7 ∨ t.kind = 8)) : tpB t at_ = false := by
 refine tpB_no fun hh => ?_
 rw [tpOk, if_neg h.1, if_neg h.2.1] at hh
 exact h.2.2 hh.2.1

set_option maxHeartbeats 4000000 in
theorem tright_spec (t : Tp) (pv : Value) (at_ : Int) (w0 : World) (hS00 : Sl w0 3 pv t.parts.length (pas t.parts)) (hl : TLim t) : Ca Tryd.prog 29 #[.agg (tcell t pv).toArray, .int .i64 at_] w0 (fun v w' => v = .bool (tpB t at_) ∧ Ext w0 w') := by
 refine Ca.of Tryd.func29 Tryd.ntmps29 rfl rfl (We (Wb (Wa rfl (o_boxB rfl ?_))))
 intro w2 hC2 hx2 hs2
 obtain ⟨b2, hb2⟩ : ∃ b, b = w0.heap.size := ⟨_, rfl⟩
 rw [← hb2] at hC2 ⊢
 replace hC2 : w2.heap[b2]? = some (.cells (tcell t pv).toArray 49 (0, 0)) := hC2
 have hx := hx2
 refine Wa rfl (Wg vB (Wc (We (We (Wb (Wa rfl (Wl 0 TI49 rfl TI3 rfl rfl (Wa rfl (Wk TI3 rfl rfl (Wh hC2 rfl) (Wa rfl (Wl 1 TI49 rfl TI3 rfl rfl (Wa rfl (Wk TI3 rfl rfl (Wh hC2 rfl) (Wa rfl (o_call Tryd.call53 (lc rfl (lc rfl ln)) ((tnumber_spec t.kind t.n _).mono ?_))))))))))))))))
 rintro v10 w10 ⟨rfl, rfl⟩
 refine Wa rfl (o_not' rfl (Wc (Wn rfl (fun c11 => ?_) (fun c11 => ?_))))
 ·try simp only [cs8] at c11
  have hnk : ¬ numOk t.kind t.n := by simpa using c11
  refine We (Wb (Wa rfl (Wg vB (Wc (Wm (Wu rfl vB ?_))))))
  exact ⟨congrArg Value.bool (tpB_no (fun h => hnk h.1)).symm, hx⟩
 try simp only [cs8] at c11
 have hnk : numOk t.kind t.n := by simpa using c11
 refine Wp (We (Wb (WL.cut (fun e1 w1 => e1 5 = .bool (decide (0 ≤ t.elem ∧ t.elem < at_)) ∧ e1 1 = .int .i64 at_ ∧ e1 2 = .pointer (some ⟨b2, 0, none⟩) ∧ w1.heap[b2]? = some (.cells (tcell t pv).toArray 49 (0, 0)) ∧ Ext w0 w1) ?_ ?_)))
 ·-- region 3
  refine Wa rfl (Wl 2 TI49 rfl TI3 rfl rfl (Wa rfl (Wk TI3 rfl rfl (Wh hC2 rfl) (Wa rfl (o_ge rfl rfl (Wa rfl (Wf vB (Wq 3 rfl (fun g15 => ?_) (fun g15 => ?_)))))))))
  ·skip
   refine Wj rfl (g15) rfl (Wl 2 TI49 rfl TI3 rfl rfl (Wj rfl (g15) rfl (Wk TI3 rfl rfl (Wh hC2 rfl) (Wj rfl (g15) rfl (Wf vI (Wj rfl (g15) rfl (o_lt rfl rfl (Wa rfl (Ww rfl rfl (Wa rfl (Wg vB ?_)))))))))))
   exact Wc (⟨congrArg Value.bool (by first | (have := of_decide_eq_false g15; rw [eq_comm, decide_eq_false_iff_not]; omega) | (have := of_decide_eq_true g15; rw [Bool.eq_iff_iff, Bool.and_eq_true, decide_eq_true_eq, decide_eq_true_eq, decide_eq_true_eq])), rfl, rfl, hC2, hx⟩)
  skip
  refine Wi rfl (g15) rfl (Wi rfl (g15) rfl (Wi rfl (g15) rfl (Wi rfl (g15) rfl (Wa rfl (Wv rfl (g15) (Wa rfl (Wg vB ?_)))))))
  exact Wc (⟨congrArg Value.bool (by first | (have := of_decide_eq_false g15; rw [eq_comm, decide_eq_false_iff_not]; omega) | (have := of_decide_eq_true g15; rw [Bool.eq_iff_iff, Bool.and_eq_true, decide_eq_true_eq, decide_eq_true_eq, decide_eq_true_eq])), rfl, rfl, hC2, hx⟩)
 rintro e w ⟨h5, h1, h2, hC2, hx⟩
 refine We (We (Wb (Wa rfl (Wl 0 TI49 rfl TI3 rfl h2 (Wa rfl (Wk TI3 rfl rfl (Wh hC2 rfl) (Wc (W.block (We (We ?_))))))))))
 by_cases k1 : t.kind = 1
 rotate_left
 by_cases k2 : t.kind = 2
 rotate_left
 by_cases k3 : t.kind = 3
 rotate_left
 by_cases k4 : t.kind = 4
 rotate_left
 by_cases k5 : t.kind = 5
 rotate_left
 by_cases k6 : t.kind = 6
 rotate_left
 by_cases k8 : t.kind = 8
 rotate_left
 by_cases k7 : t.kind = 7
 ·skip
  have hkk : t.kind = 7 ∨ t.kind = 8 := by omega
  refine Wb (Wa rfl (o_eq rfl rfl (Wa rfl (Wg vB (Wc (W.condF' rfl (decide_eq_false k1) (We (Wb (Wa rfl (o_eq rfl rfl (Wa rfl (Wg vB (Wc (W.condF' rfl (decide_eq_false k2) (Wb (Wa rfl (o_eq rfl rfl (Wa rfl (Wg vB (Wc (W.condF' rfl (decide_eq_false k3) (We (We (Wb (Wa rfl (o_eq rfl rfl (Wa rfl (Wg vB (Wc (W.condF' rfl (decide_eq_false k4) (We (Wb (Wa rfl (o_eq rfl rfl (Wa rfl (Wg vB (Wc (W.condF' rfl (decide_eq_false k5) (Wb (Wa rfl (o_eq rfl rfl (Wa rfl (Wg vB (Wc (W.condF' rfl (decide_eq_false k6) (We (Wb (Wa rfl (o_eq rfl rfl (Wa rfl (Wg vB (Wc (W.condF' rfl (decide_eq_false k8) ?_)))))))))))))))))))))))))))))))))))))))))))))))))))))
  refine We (Wb (Wa rfl (o_eq rfl rfl (Wa rfl (Wg vB (Wc (W.condT' rfl (decide_eq_true k7) (We (Wb (Wa rfl (Wl 2 TI49 rfl TI3 rfl h2 (Wa rfl (Wk TI3 rfl rfl (Wh hC2 rfl) (Wa rfl (o_eq rfl rfl (Wa rfl (Wf vB (Wq 3 rfl (fun g62 => ?_) (fun g62 => ?_)))))))))))))))))))
  ·skip
   refine Wj rfl (g62) rfl (o_ldA TI49 rfl h2 (show Cells _ b2 0 (tcell t pv) from Cells.of hC2 0 _ (by simp)) rfl (Wj rfl (g62) rfl (Wf h1 (Wj rfl (g62) rfl (o_call Tryd.call54 (lc rfl (lc rfl (lc rfl ln))) ((tparts_spec t pv at_ 64 _ (hS00.ext hx) hl).mono ?_))))))
   rintro v65 w65 ⟨rfl, hx65⟩
   replace hx := hx.tr hx65
   refine Wa rfl (Ww rfl rfl (Wa rfl (Wg vB (Wc (Wm (Wu rfl vB ?_))))))
   exact ⟨congrArg Value.bool (by first | exact (tpB_78 hkk hnk).symm | (rw [tpB_78 hkk hnk, g62]; rfl)), hx⟩
  skip
  refine Wi rfl (g62) rfl (Wi rfl (g62) rfl (Wi rfl (g62) rfl (Wa rfl (Wv rfl (g62) (Wa rfl (Wg vB (Wc (Wm (Wu rfl vB ?_)))))))))
  exact ⟨congrArg Value.bool (by first | exact (tpB_78 hkk hnk).symm | (rw [tpB_78 hkk hnk, g62]; rfl)), hx⟩
 ·skip
  skip
  refine Wb (Wa rfl (o_eq rfl rfl (Wa rfl (Wg vB (Wc (W.condF' rfl (decide_eq_false k1) (We (Wb (Wa rfl (o_eq rfl rfl (Wa rfl (Wg vB (Wc (W.condF' rfl (decide_eq_false k2) (Wb (Wa rfl (o_eq rfl rfl (Wa rfl (Wg vB (Wc (W.condF' rfl (decide_eq_false k3) (We (We (Wb (Wa rfl (o_eq rfl rfl (Wa rfl (Wg vB (Wc (W.condF' rfl (decide_eq_false k4) (We (Wb (Wa rfl (o_eq rfl rfl (Wa rfl (Wg vB (Wc (W.condF' rfl (decide_eq_false k5) (Wb (Wa rfl (o_eq rfl rfl (Wa rfl (Wg vB (Wc (W.condF' rfl (decide_eq_false k6) (We (Wb (Wa rfl (o_eq rfl rfl (Wa rfl (Wg vB (Wc (W.condF' rfl (decide_eq_false k8) ?_)))))))))))))))))))))))))))))))))))))))))))))))))))))
  refine We (Wb (Wa rfl (o_eq rfl rfl (Wa rfl (Wg vB (Wc (W.condF' rfl (decide_eq_false k7) (Wp (We (Wb (Wa rfl (Wg vB (Wc (Wm (Wu rfl vB ?_)))))))))))))))
  exact ⟨congrArg Value.bool (tpB_else ⟨by omega, by omega, by omega⟩).symm, hx⟩
 ·skip
  have hkk : t.kind = 1 ∨ t.kind = 2 ∨ t.kind = 3 := by omega
  refine Wb (Wa rfl (o_eq rfl rfl (Wa rfl (Wg vB (Wc (W.condT' rfl (decide_eq_true k1) (Wp (W.condT' rfl (decide_eq_true k1) (We (Wb (Wa rfl (Wl 2 TI49 rfl TI3 rfl h2 (Wa rfl (Wk TI3 rfl rfl (Wh hC2 rfl) (Wa rfl (o_eq rfl rfl (Wa rfl (Wf vB (Wq 3 rfl (fun g30 => ?_) (fun g30 => ?_))))))))))))))))))))
  ·skip
   refine Wj rfl (g30) rfl (Wl 3 TI49 rfl TI47 rfl h2 (Wj rfl (g30) rfl (Wk TI47 rfl rfl (Wh hC2 rfl) (Wj rfl (g30) rfl (Ws TI47 rfl (hS00.ext hx) (Wj rfl (g30) rfl (o_eq rfl rfl (Wa rfl (Ww rfl rfl (Wa rfl (Wg vB (Wc (Wm (Wu rfl vB ?_))))))))))))))
   exact ⟨congrArg Value.bool (by first | exact (tpB_123 hkk hnk).symm | (rw [tpB_123 hkk hnk, g30]; rfl)), hx⟩
  skip
  refine Wi rfl (g30) rfl (Wi rfl (g30) rfl (Wi rfl (g30) rfl (Wi rfl (g30) rfl (Wa rfl (Wv rfl (g30) (Wa rfl (Wg vB (Wc (Wm (Wu rfl vB ?_))))))))))
  exact ⟨congrArg Value.bool (by first | exact (tpB_123 hkk hnk).symm | (rw [tpB_123 hkk hnk, g30]; rfl)), hx⟩
 ·skip
  have hkk : t.kind = 1 ∨ t.kind = 2 ∨ t.kind = 3 := by omega
  refine Wb (Wa rfl (o_eq rfl rfl (Wa rfl (Wg vB (Wc (W.condF' rfl (decide_eq_false k1) (We (Wb (Wa rfl (o_eq rfl rfl (Wa rfl (Wg vB (Wc (W.condT' rfl (decide_eq_true k2) (Wp (W.condT' rfl (decide_eq_true k2) (We (Wb (Wa rfl (Wl 2 TI49 rfl TI3 rfl h2 (Wa rfl (Wk TI3 rfl rfl (Wh hC2 rfl) (Wa rfl (o_eq rfl rfl (Wa rfl (Wf vB (Wq 3 rfl (fun g30 => ?_) (fun g30 => ?_))))))))))))))))))))))))))))
  ·skip
   refine Wj rfl (g30) rfl (Wl 3 TI49 rfl TI47 rfl h2 (Wj rfl (g30) rfl (Wk TI47 rfl rfl (Wh hC2 rfl) (Wj rfl (g30) rfl (Ws TI47 rfl (hS00.ext hx) (Wj rfl (g30) rfl (o_eq rfl rfl (Wa rfl (Ww rfl rfl (Wa rfl (Wg vB (Wc (Wm (Wu rfl vB ?_))))))))))))))
   exact ⟨congrArg Value.bool (by first | exact (tpB_123 hkk hnk).symm | (rw [tpB_123 hkk hnk, g30]; rfl)), hx⟩
  skip
  refine Wi rfl (g30) rfl (Wi rfl (g30) rfl (Wi rfl (g30) rfl (Wi rfl (g30) rfl (Wa rfl (Wv rfl (g30) (Wa rfl (Wg vB (Wc (Wm (Wu rfl vB ?_))))))))))
  exact ⟨congrArg Value.bool (by first | exact (tpB_123 hkk hnk).symm | (rw [tpB_123 hkk hnk, g30]; rfl)), hx⟩
 ·skip
  have hkk : t.kind = 1 ∨ t.kind = 2 ∨ t.kind = 3 := by omega
  refine Wb (Wa rfl (o_eq rfl rfl (Wa rfl (Wg vB (Wc (W.condF' rfl (decide_eq_false k1) (We (Wb (Wa rfl (o_eq rfl rfl (Wa rfl (Wg vB (Wc (W.condF' rfl (decide_eq_false k2) (Wb (Wa rfl (o_eq rfl rfl (Wa rfl (Wg vB (Wc (W.condT' rfl (decide_eq_true k3) (We (Wb (Wa rfl (Wl 2 TI49 rfl TI3 rfl h2 (Wa rfl (Wk TI3 rfl rfl (Wh hC2 rfl) (Wa rfl (o_eq rfl rfl (Wa rfl (Wf vB (Wq 3 rfl (fun g30 => ?_) (fun g30 => ?_)))))))))))))))))))))))))))))))))
  ·skip
   refine Wj rfl (g30) rfl (Wl 3 TI49 rfl TI47 rfl h2 (Wj rfl (g30) rfl (Wk TI47 rfl rfl (Wh hC2 rfl) (Wj rfl (g30) rfl (Ws TI47 rfl (hS00.ext hx) (Wj rfl (g30) rfl (o_eq rfl rfl (Wa rfl (Ww rfl rfl (Wa rfl (Wg vB (Wc (Wm (Wu rfl vB ?_))))))))))))))
   exact ⟨congrArg Value.bool (by first | exact (tpB_123 hkk hnk).symm | (rw [tpB_123 hkk hnk, g30]; rfl)), hx⟩
  skip
  refine Wi rfl (g30) rfl (Wi rfl (g30) rfl (Wi rfl (g30) rfl (Wi rfl (g30) rfl (Wa rfl (Wv rfl (g30) (Wa rfl (Wg vB (Wc (Wm (Wu rfl vB ?_))))))))))
  exact ⟨congrArg Value.bool (by first | exact (tpB_123 hkk hnk).symm | (rw [tpB_123 hkk hnk, g30]; rfl)), hx⟩
 ·skip
  have hkk : t.kind = 4 ∨ t.kind = 5 ∨ t.kind = 6 := by omega
  refine Wb (Wa rfl (o_eq rfl rfl (Wa rfl (Wg vB (Wc (W.condF' rfl (decide_eq_false k1) (We (Wb (Wa rfl (o_eq rfl rfl (Wa rfl (Wg vB (Wc (W.condF' rfl (decide_eq_false k2) (Wb (Wa rfl (o_eq rfl rfl (Wa rfl (Wg vB (Wc (W.condF' rfl (decide_eq_false k3) (We (We (Wb (Wa rfl (o_eq rfl rfl (Wa rfl (Wg vB (Wc (W.condT' rfl (decide_eq_true k4) (Wp (W.condT' rfl (decide_eq_true k4) (We (Wb (Wa rfl (Wf h5 (Wa rfl (Wf vB (Wq 1 rfl (fun g41 => ?_) (fun g41 => ?_))))))))))))))))))))))))))))))))))))))))
  ·skip
   refine Wj rfl (g41) rfl (Wl 3 TI49 rfl TI47 rfl h2 (Wj rfl (g41) rfl (Wk TI47 rfl rfl (Wh hC2 rfl) (Wj rfl (g41) rfl (Ws TI47 rfl (hS00.ext hx) (Wj rfl (g41) rfl (o_eq rfl rfl (Wa rfl (Ww rfl rfl (Wa rfl (Wg vB (Wc (Wm (Wu rfl vB ?_))))))))))))))
   exact ⟨congrArg Value.bool (by first | exact (tpB_456 hkk hnk).symm | (rw [tpB_456 hkk hnk, g41]; rfl)), hx⟩
  skip
  refine Wi rfl (g41) rfl (Wi rfl (g41) rfl (Wi rfl (g41) rfl (Wi rfl (g41) rfl (Wa rfl (Wv rfl (g41) (Wa rfl (Wg vB (Wc (Wm (Wu rfl vB ?_))))))))))
  exact ⟨congrArg Value.bool (by first | exact (tpB_456 hkk hnk).symm | (rw [tpB_456 hkk hnk, g41]; rfl)), hx⟩
 ·skip
  have hkk : t.kind = 4 ∨ t.kind = 5 ∨ t.kind = 6 := by omega
  refine Wb (Wa rfl (o_eq rfl rfl (Wa rfl (Wg vB (Wc (W.condF' rfl (decide_eq_false k1) (We (Wb (Wa rfl (o_eq rfl rfl (Wa rfl (Wg vB (Wc (W.condF' rfl (decide_eq_false k2) (Wb (Wa rfl (o_eq rfl rfl (Wa rfl (Wg vB (Wc (W.condF' rfl (decide_eq_false k3) (We (We (Wb (Wa rfl (o_eq rfl rfl (Wa rfl (Wg vB (Wc (W.condF' rfl (decide_eq_false k4) (We (Wb (Wa rfl (o_eq rfl rfl (Wa rfl (Wg vB (Wc (W.condT' rfl (decide_eq_true k5) (Wp (W.condT' rfl (decide_eq_true k5) (We (Wb (Wa rfl (Wf h5 (Wa rfl (Wf vB (Wq 1 rfl (fun g41 => ?_) (fun g41 => ?_))))))))))))))))))))))))))))))))))))))))))))))))
  ·skip
   refine Wj rfl (g41) rfl (Wl 3 TI49 rfl TI47 rfl h2 (Wj rfl (g41) rfl (Wk TI47 rfl rfl (Wh hC2 rfl) (Wj rfl (g41) rfl (Ws TI47 rfl (hS00.ext hx) (Wj rfl (g41) rfl (o_eq rfl rfl (Wa rfl (Ww rfl rfl (Wa rfl (Wg vB (Wc (Wm (Wu rfl vB ?_))))))))))))))
   exact ⟨congrArg Value.bool (by first | exact (tpB_456 hkk hnk).symm | (rw [tpB_456 hkk hnk, g41]; rfl)), hx⟩
  skip
  refine Wi rfl (g41) rfl (Wi rfl (g41) rfl (Wi rfl (g41) rfl (Wi rfl (g41) rfl (Wa rfl (Wv rfl (g41) (Wa rfl (Wg vB (Wc (Wm (Wu rfl vB ?_))))))))))
  exact ⟨congrArg Value.bool (by first | exact (tpB_456 hkk hnk).symm | (rw [tpB_456 hkk hnk, g41]; rfl)), hx⟩
 ·skip
  have hkk : t.kind = 4 ∨ t.kind = 5 ∨ t.kind = 6 := by omega
  refine Wb (Wa rfl (o_eq rfl rfl (Wa rfl (Wg vB (Wc (W.condF' rfl (decide_eq_false k1) (We (Wb (Wa rfl (o_eq rfl rfl (Wa rfl (Wg vB (Wc (W.condF' rfl (decide_eq_false k2) (Wb (Wa rfl (o_eq rfl rfl (Wa rfl (Wg vB (Wc (W.condF' rfl (decide_eq_false k3) (We (We (Wb (Wa rfl (o_eq rfl rfl (Wa rfl (Wg vB (Wc (W.condF' rfl (decide_eq_false k4) (We (Wb (Wa rfl (o_eq rfl rfl (Wa rfl (Wg vB (Wc (W.condF' rfl (decide_eq_false k5) (Wb (Wa rfl (o_eq rfl rfl (Wa rfl (Wg vB (Wc (W.condT' rfl (decide_eq_true k6) (We (Wb (Wa rfl (Wf h5 (Wa rfl (Wf vB (Wq 1 rfl (fun g41 => ?_) (fun g41 => ?_)))))))))))))))))))))))))))))))))))))))))))))))))))))
  ·skip
   refine Wj rfl (g41) rfl (Wl 3 TI49 rfl TI47 rfl h2 (Wj rfl (g41) rfl (Wk TI47 rfl rfl (Wh hC2 rfl) (Wj rfl (g41) rfl (Ws TI47 rfl (hS00.ext hx) (Wj rfl (g41) rfl (o_eq rfl rfl (Wa rfl (Ww rfl rfl (Wa rfl (Wg vB (Wc (Wm (Wu rfl vB ?_))))))))))))))
   exact ⟨congrArg Value.bool (by first | exact (tpB_456 hkk hnk).symm | (rw [tpB_456 hkk hnk, g41]; rfl)), hx⟩
  skip
  refine Wi rfl (g41) rfl (Wi rfl (g41) rfl (Wi rfl (g41) rfl (Wi rfl (g41) rfl (Wa rfl (Wv rfl (g41) (Wa rfl (Wg vB (Wc (Wm (Wu rfl vB ?_))))))))))
  exact ⟨congrArg Value.bool (by first | exact (tpB_456 hkk hnk).symm | (rw [tpB_456 hkk hnk, g41]; rfl)), hx⟩
 skip
 have hkk : t.kind = 7 ∨ t.kind = 8 := by omega
 refine Wb (Wa rfl (o_eq rfl rfl (Wa rfl (Wg vB (Wc (W.condF' rfl (decide_eq_false k1) (We (Wb (Wa rfl (o_eq rfl rfl (Wa rfl (Wg vB (Wc (W.condF' rfl (decide_eq_false k2) (Wb (Wa rfl (o_eq rfl rfl (Wa rfl (Wg vB (Wc (W.condF' rfl (decide_eq_false k3) (We (We (Wb (Wa rfl (o_eq rfl rfl (Wa rfl (Wg vB (Wc (W.condF' rfl (decide_eq_false k4) (We (Wb (Wa rfl (o_eq rfl rfl (Wa rfl (Wg vB (Wc (W.condF' rfl (decide_eq_false k5) (Wb (Wa rfl (o_eq rfl rfl (Wa rfl (Wg vB (Wc (W.condF' rfl (decide_eq_false k6) (We (Wb (Wa rfl (o_eq rfl rfl (Wa rfl (Wg vB (Wc (W.condT' rfl (decide_eq_true k8) ?_)))))))))))))))))))))))))))))))))))))))))))))))))))))
 refine We (Wb (Wa rfl (Wl 2 TI49 rfl TI3 rfl h2 (Wa rfl (Wk TI3 rfl rfl (Wh hC2 rfl) (Wa rfl (o_eq rfl rfl (Wa rfl (Wf vB (Wq 3 rfl (fun g52 => ?_) (fun g52 => ?_)))))))))))
 ·skip
  refine Wj rfl (g52) rfl (o_ldA TI49 rfl h2 (show Cells _ b2 0 (tcell t pv) from Cells.of hC2 0 _ (by simp)) rfl (Wj rfl (g52) rfl (Wf h1 (Wj rfl (g52) rfl (o_call Tryd.call54 (lc rfl (lc rfl (lc rfl ln))) ((tparts_spec t pv at_ 64 _ (hS00.ext hx) hl).mono ?_))))))
  rintro v55 w55 ⟨rfl, hx55⟩
  replace hx := hx.tr hx55
  refine Wa rfl (Ww rfl rfl (Wa rfl (Wg vB (Wc (Wm (Wu rfl vB ?_))))))
  exact ⟨congrArg Value.bool (by first | exact (tpB_78 hkk hnk).symm | (rw [tpB_78 hkk hnk, g52]; rfl)), hx⟩
 skip
 refine Wi rfl (g52) rfl (Wi rfl (g52) rfl (Wi rfl (g52) rfl (Wa rfl (Wv rfl (g52) (Wa rfl (Wg vB (Wc (Wm (Wu rfl vB ?_)))))))))
 exact ⟨congrArg Value.bool (by first | exact (tpB_78 hkk hnk).symm | (rw [tpB_78 hkk hnk, g52]; rfl)), hx⟩
end Go.Proofs.YtpbflfgigfdohaaDoor

namespace Go.Proofs.YtpbflfgigfdohaaDoor
open Go Go.Vc Go.RowKit Go.Proofs

theorem depL_get {L : List Tp} {i j : Nat} (hi : i ≤ L.length) (hj : j < i) : (depL (L.take i) []).getD j 0 = dpI L j := by
 unfold dpI
 rw [depL_take_eq L i hi, List.getD_eq_getElem?_getD, List.getD_eq_getElem?_getD, List.getElem?_take, if_pos hj]
/-- the depth of the element; of the first q parts too -/
def bsD (L : List Tp) (t : Tp) : Nat := if t.kind = 4 ∨ t.kind = 5 ∨ t.kind = 6 then dpI L t.elem.toNat else 0
def mxD (L : List Tp) (t : Tp) (q : Nat) : Nat := (t.parts.take q).foldl (fun m p => max m (dpI L p.ty.toNat)) (bsD L t)
theorem mxD_zero (L : List Tp) (t : Tp) : mxD L t 0 = bsD L t := by simp [mxD]
theorem mxD_succ {L : List Tp} {t : Tp} {q : Nat} (hq : q < t.parts.length) : mxD L t (q + 1) = max (mxD L t q) (dpI L t.parts[q].ty.toNat) := by
 unfold mxD
 rw [List.take_succ_eq_append_getElem hq, List.foldl_append]; rfl
theorem tp_elem {t : Tp} {at_ : Int} (h : tpOk t at_) (hk : t.kind = 4 ∨ t.kind = 5 ∨ t.kind = 6) : 0 ≤ t.elem ∧ t.elem < at_ := by
 obtain ⟨-, h2⟩ := h
 rw [if_neg (by omega), if_pos hk] at h2
 exact ⟨h2.1, h2.2.1⟩
theorem tp_part {t : Tp} {at_ : Int} (h : tpOk t at_) {q : Nat} (hq : q < t.parts.length) : 0 ≤ t.parts[q].ty ∧ t.parts[q].ty < at_ := by
 obtain ⟨-, h2⟩ := h
 have hne : ¬ t.parts = [] := by intro e; rw [e] at hq; simp at hq
 split at h2
 ·exact absurd h2.2 hne
 split at h2
 ·exact absurd h2.2.2 hne
 obtain ⟨_, -, h3, h4, -⟩ := h2.2.2.2.2 q hq
 exact ⟨h3, h4⟩
theorem foldl_cong {α β : Type} {f g : β → α → β} : ∀ (l : List α) (b : β), (∀ b, ∀ a ∈ l, f b a = g b a) → l.foldl f b = l.foldl g b
 | [], _, _ => rfl
 | a :: l, b, h => by rw [List.foldl_cons, List.foldl_cons, h b a (List.mem_cons_self ..)]; exact foldl_cong l _ fun b x hx => h b x (List.mem_cons_of_mem _ hx)
theorem dpI_mx {L : List Tp} {i : Nat} (hi : i < L.length) (hok : tpOk L[i] (i : Int)) : dpI L i = mxD L L[i] L[i].parts.length + 1 := by
 rw [dpI_at hi, dpT1, mxD, List.take_length, bsD]
 congr 1
 have hb : (if L[i].kind = 4 ∨ L[i].kind = 5 ∨ L[i].kind = 6 then (depL (L.take i) []).getD L[i].elem.toNat 0 else 0) = if L[i].kind = 4 ∨ L[i].kind = 5 ∨ L[i].kind = 6 then dpI L L[i].elem.toNat else 0 := by
  split
  ·rename_i hk
   have := tp_elem hok hk
   exact depL_get (by omega) (by omega)
  rfl
 rw [hb]
 refine foldl_cong _ _ fun b a ha => ?_
 obtain ⟨q, hq, rfl⟩ := List.getElem_of_mem ha
 have := tp_part hok hq
 rw [depL_get (by omega) (by omega)]
theorem mxD_le {L : List Tp} {i : Nat} (hi : i < L.length) (hok : tpOk L[i] (i : Int)) (hd : ∀ j, j < i → ¬ 64 < dpI L j) : ∀ q, q ≤ L[i].parts.length → mxD L L[i] q ≤ 64
 | 0, _ => by
  rw [mxD_zero, bsD]
  split
  ·rename_i hk
   have := tp_elem hok hk
   have := hd L[i].elem.toNat (by omega)
   omega
  omega
 | q + 1, hq => by
  rw [mxD_succ (by omega)]
  have h1 := mxD_le hi hok hd q (by omega)
  have h2 := tp_part hok (q := q) (by omega)
  have h3 := hd L[i].parts[q].ty.toNat (by omega)
  omega
def dpV (L : List Tp) : Int × Int := (dpF L).getD (0, 0)
theorem dpV_hit {L : List Tp} {i : Nat} (hi : i < L.length) (h : 64 < dpI L i) (hb : ∀ j, j < i → ¬ 64 < dpI L j) : dpF L = some (83, (i : Int)) := firstN_hit hi (by rw [if_pos h]) (fun j hj => if_neg (hb j hj))
theorem dpV_no {L : List Tp} (h : ∀ j, j < L.length → ¬ 64 < dpI L j) : dpF L = none := firstN_miss fun j hj => if_neg (h j hj)
/-- what the machine can hold of a list of types -/
structure LLim (L : List Tp) : Prop where
 len : L.length * 48 ≤ 140737488351232
 ty : ∀ t ∈ L, TLim t

set_option maxHeartbeats 4000000 in
theorem tdeep_spec (L : List Tp) (lv : Value) (V : Nat → Value) (w0 : World) (hT : TypR w0 L lv V) (hok : ∀ i (hi : i < L.length), tpOk L[i] (i : Int)) (hl : LLim L) : Ca Tryd.prog 30 #[lv] w0 (fun v w' => v = .agg #[.int .i64 (dpV L).1, .int .i64 (dpV L).2] ∧ Ext w0 w') := by
 have hlen := hl.len
 refine Ca.of Tryd.func30 Tryd.ntmps30 rfl rfl (We (Wb (Wa rfl (o_alB TI32 ?_))))
 intro wb hC2 hx hsb
 obtain ⟨c2, hc2⟩ : ∃ c, c = w0.heap.size := ⟨_, rfl⟩
 rw [← hc2] at hC2 ⊢
 replace hC2 : wb.heap[c2]? = some (.cells #[.int .i64 0, .int .i64 0] 32 (0, 0)) := hC2
 refine Wc (We (Wb (Wa rfl (Wf (by first | exact vS | exact rfl) (Wa rfl (Ws TI26 rfl (hT.ext hx).row (Wa rfl (o_mk2 TI57 TI3 (l := L.length) (n := L.length) rfl rfl (Nat.le_refl _) (by omega) (by omega) ?_))))))))
 have hro := own_made1 (w := wb) (el := 3) (l := L.length) (n := L.length) (z := .int .i64 0) rfl (Nat.le_refl _) (by omega)
 have hxm : Ext wb (wb.alloc (.cells (madeCells (Value.int .i64 0).cells (L.length * 1)) 3)) := Only.alloc wb _
 generalize wb.alloc (.cells (madeCells (Value.int .i64 0).cells (L.length * 1)) 3) = wt at hro hxm ⊢
 obtain ⟨B, hB⟩ : ∃ b, b = wb.heap.size := ⟨_, rfl⟩
 have hzB : w0.heap.size ≤ B := by rw [hB]; exact hx.size
 rw [← hB] at hro ⊢
 replace hro : wt.ownsRow B 3 1 (.slice (some ⟨B, 0, none⟩) L.length L.length) L.length (dps L.length (fun _ => 0)) := by rw [dps_zero]; exact hro
 replace hx := hx.tr hxm
 replace hC2 := hxm.blk hC2 (fun h => h)
 refine Wa rfl (Wg (by first | exact vS | exact rfl) (Wc (We (We (Wb (Wa rfl (Wf (by first | exact vS | exact rfl) (Wa rfl (Ws TI26 rfl (hT.ext hx).row (Wa rfl (Wf vI (Wc (W.block (W.loop (fun e w => ∃ (i : Nat) (f : Nat → Nat), i ≤ L.length ∧ e 2 = .pointer (some ⟨c2, 0, none⟩) ∧ e 3 = (.slice (some ⟨B, 0, none⟩) L.length L.length) ∧ e 11 = lv ∧ e 12 = .int .i64 (L.length : Int) ∧ e 13 = .int .i64 (i : Int) ∧ w.ownsRow B 3 1 (.slice (some ⟨B, 0, none⟩) L.length L.length) L.length (dps L.length f) ∧ (∀ j, j < i → f j = dpI L j) ∧ (∀ j, j < i → ¬ 64 < dpI L j) ∧ (∀ j, i ≤ j → f j = 0) ∧ w.heap[c2]? = some (.cells #[.int .i64 0, .int .i64 0] 32 (0, 0)) ∧ Ext w0 w) (fun e w => L.length - (intOf (e 13)).toNat) ?_ ?_))))))))))))))
 ·exact ⟨0, fun _ => 0, Nat.zero_le _, rfl, rfl, rfl, rfl, rfl, hro, fun j hj => by omega, fun j hj => by omega, fun j hj => rfl, hC2, hx⟩
 rintro e w ⟨i, f, hi, h2, h3, h11, h12, h13, hro, hf, hd, hz, hC2, hx⟩
 have hm13 := h13
 refine We (Wb (Wa rfl (o_lt h13 h12 (Wc (We (Wn rfl (fun c14 => ?_) (fun c14 => ?_)))))))
 ·try simp only [cs8] at c14
  have hi1 : i < L.length := by omega
  obtain ⟨tb, to_, tc, hlv, htc, hty⟩ := (hT.ext hx).atk hi1
  rw [hlv] at h11
  have hoki := hok i hi1
  have hmx := mxD_le hi1 hoki hd
  have hdm := dpI_mx hi1 hoki
  have htl := (hl.ty _ (List.getElem_mem hi1)).len
  obtain ⟨t, ht⟩ : ∃ t, t = L[i] := ⟨_, rfl⟩
  rw [← ht] at htc hty hoki hmx hdm htl
  have hpt := fun q (hq : q < t.parts.length) => tp_part hoki hq
  refine Wp (We (W.block (We (Wb (Wa rfl (Wf h13 (Wa rfl (Wt (i := i) TI26 TI49 h11 h13 (by omega) (Wa rfl (o_ldA TI49 rfl rfl htc rfl (Wa rfl (o_alB TI49 ?_))))))))))))
  intro wa hCa hxa hsa
  refine Wa rfl (Wg vI (WL.u (o_stA TI49 rfl (show _ = Value.agg (tcell t (V i)).toArray from rfl) rfl (List.all_eq_true.2 (tcell_all (sl_one1 hty))) hCa rfl ?_)))
  intro wb5 hC5 hob hsb
  have hxb := Ext.own hxa (Nat.le_refl _) hob
  obtain ⟨b5, hb5⟩ : ∃ b, b = w.heap.size := ⟨_, rfl⟩
  rw [← hb5] at hC5 ⊢
  clear hCa hxa hsa hob hsb
  replace hx := hx.tr hxb
  replace hro := Wr hro hxb
  replace hC2 := hxb.blk hC2 (fun h => h)
  clear hxb
  refine Wc (We (We (Wb (Wa rfl (Wl 0 TI49 rfl TI3 rfl rfl (Wa rfl (Wk TI3 rfl rfl (Wh hC5 rfl) (Wc (W.block (We (We ?_)))))))))))
  replace hty := fun w9 (h9 : Ext w0 w9) => (show Sl w9 3 (V i) t.parts.length (pas t.parts) from by have := (hT.ext h9).tys i hi1; rw [pasT_at hi1, ← ht] at this; exact this)
  refine Wb (Wa rfl (o_eq rfl rfl (Wa rfl (Wg vB (Wc (W.cut (fun e1 w1 => e1 20 = .bool (decide (t.kind = 4 ∨ t.kind = 5 ∨ t.kind = 6)) ∧ e1 2 = .pointer (some ⟨c2, 0, none⟩) ∧ e1 3 = (.slice (some ⟨B, 0, none⟩) L.length L.length) ∧ e1 4 = .int .i64 (i : Int) ∧ e1 5 = .pointer (some ⟨b5, 0, none⟩) ∧ e1 11 = (.slice (some ⟨tb, to_, none⟩) L.length tc) ∧ e1 12 = .int .i64 (L.length : Int) ∧ e1 13 = .int .i64 (i : Int) ∧ w1.ownsRow B 3 1 (.slice (some ⟨B, 0, none⟩) L.length L.length) L.length (dps L.length f) ∧ w1.heap[c2]? = some (.cells #[.int .i64 0, .int .i64 0] 32 (0, 0)) ∧ w1.heap[b5]? = some (.cells (tcell t (V i)).toArray 49 (0, 0)) ∧ Ext w0 w1) ?_ ?_))))))
  ·-- both ways
   refine Wn rfl (fun c20 => ?_) (fun c20 => ?_)
   ·try simp only [cs8] at c20
    try have hk4 : t.kind = 4 ∨ t.kind = 5 ∨ t.kind = 6 := c20
    try have hel := tp_elem hoki hk4
    try have hen : t.elem = ((t.elem.toNat : Nat) : Int) := by omega
    refine Wp ?_
    exact ⟨congrArg Value.bool (by simp_all), h2, h3, rfl, rfl, h11, h12, h13, hro, hC2, hC5, hx⟩
   try simp only [cs8] at c20
   try have hk4 : ¬ (t.kind = 4 ∨ t.kind = 5 ∨ t.kind = 6) := c20
   refine We (Wb (Wa rfl (o_eq rfl rfl (Wa rfl (Wg vB (Wc (Wn rfl (fun c20 => ?_) (fun c20 => ?_))))))))
   ·try simp only [cs8] at c20
    try have hk4 : t.kind = 4 ∨ t.kind = 5 ∨ t.kind = 6 := c20
    try have hel := tp_elem hoki hk4
    try have hen : t.elem = ((t.elem.toNat : Nat) : Int) := by omega
    refine Wp ?_
    exact ⟨congrArg Value.bool (by simp_all), h2, h3, rfl, rfl, h11, h12, h13, hro, hC2, hC5, hx⟩
   try simp only [cs8] at c20
   try have hk4 : ¬ (t.kind = 4 ∨ t.kind = 5 ∨ t.kind = 6) := c20
   refine Wb (Wa rfl (o_eq rfl rfl (Wa rfl (Wg vB (Wc ?_)))))
   exact ⟨congrArg Value.bool (by simp_all), h2, h3, rfl, rfl, h11, h12, h13, hro, hC2, hC5, hx⟩
  rintro e w ⟨h20, h2, h3, h4, h5, h11, h12, h13, hro, hC2, hC5, hx⟩
  refine W.cut (fun e1 w1 => ∃ f2 : Nat → Nat, e1 2 = .pointer (some ⟨c2, 0, none⟩) ∧ e1 3 = (.slice (some ⟨B, 0, none⟩) L.length L.length) ∧ e1 4 = .int .i64 (i : Int) ∧ e1 5 = .pointer (some ⟨b5, 0, none⟩) ∧ e1 11 = (.slice (some ⟨tb, to_, none⟩) L.length tc) ∧ e1 12 = .int .i64 (L.length : Int) ∧ e1 13 = .int .i64 (i : Int) ∧ w1.ownsRow B 3 1 (.slice (some ⟨B, 0, none⟩) L.length L.length) L.length (dps L.length f2) ∧ (∀ j, ¬ j = i → f2 j = f j) ∧ f2 i = bsD L t ∧ w1.heap[c2]? = some (.cells #[.int .i64 0, .int .i64 0] 32 (0, 0)) ∧ w1.heap[b5]? = some (.cells (tcell t (V i)).toArray 49 (0, 0)) ∧ Ext w0 w1) ?_ ?_
  ·-- both ways
   refine Wn h20 (fun c20 => ?_) (fun c20 => ?_)
   ·try simp only [cs8] at c20
    try have hk4 : t.kind = 4 ∨ t.kind = 5 ∨ t.kind = 6 := c20
    try have hel := tp_elem hoki hk4
    try have hen : t.elem = ((t.elem.toNat : Nat) : Int) := by omega
    refine Wb (Wa rfl (Wf h3 (Wa rfl (Wf h4 (Wa rfl (Wf h3 (Wa rfl (Wl 2 TI49 rfl TI3 rfl h5 (Wa rfl (Wk TI3 rfl rfl (Wh hC5 rfl) (Wa rfl (Wt (i := t.elem.toNat) TI57 TI3 (show _ = Value.slice (some ⟨B, 0, none⟩) L.length L.length from rfl) (show _ = Value.int .i64 ((t.elem.toNat : Nat) : Int) from by rw [← hen]; rfl) (by omega) (Wa rfl (Wk TI3 rfl rfl (show World.cell? _ ⟨B, 0 + t.elem.toNat * 1, none⟩ = some (iv (f (t.elem.toNat))) from by rw [Nat.zero_add, Nat.mul_one]; exact own_cell hro (dps_at (by omega))) (Wa rfl (Wt (i := i) TI57 TI3 (show _ = Value.slice (some ⟨B, 0, none⟩) L.length L.length from rfl) (show _ = Value.int .i64 ((i : Nat) : Int) from rfl) (by omega) (WL.u (o_stRj TI3 rfl (show 0 + i * 1 = i by omega) (show _ = iv (f t.elem.toNat) from rfl) rfl hro (show Value.ownBlock (Value.slice (some ⟨B, 0, none⟩) L.length L.length) = some B from rfl) (by omega) ?_))))))))))))))))))
    intro w31 hr31 ho31 hs31
    rw [dps_set] at hr31
    replace hC2 := ho31.blk hC2 (fun h => own_off hro hC2 (by decide) h)
    try replace hC5 := ho31.blk hC5 (fun h => own_off hro hC5 (by decide) h)
    replace hx := hx.trans' ho31 (fun _ h => h) (fun b hb h => by have := (hro.lt b h).1; omega)
    replace hro := hr31
    refine Wc ?_
    first | exact ⟨updN f i (f t.elem.toNat), h2, h3, h4, h5, h11, h12, h13, hro, fun j hj => if_neg hj, by unfold updN bsD; rw [if_pos rfl, if_pos hk4, hf _ (by omega)], hC2, hC5, hx⟩ | exact ⟨f, h2, h3, h4, h5, h11, h12, h13, hro, fun j hj => rfl, by unfold bsD; rw [if_neg hk4]; exact hz i (Nat.le_refl _), hC2, hC5, hx⟩
   try simp only [cs8] at c20
   try have hk4 : ¬ (t.kind = 4 ∨ t.kind = 5 ∨ t.kind = 6) := c20
   refine Wp ?_
   first | exact ⟨updN f i (f t.elem.toNat), h2, h3, h4, h5, h11, h12, h13, hro, fun j hj => if_neg hj, by unfold updN bsD; rw [if_pos rfl, if_pos hk4, hf _ (by omega)], hC2, hC5, hx⟩ | exact ⟨f, h2, h3, h4, h5, h11, h12, h13, hro, fun j hj => rfl, by unfold bsD; rw [if_neg hk4]; exact hz i (Nat.le_refl _), hC2, hC5, hx⟩
  rintro e w ⟨f2, h2, h3, h4, h5, h11, h12, h13, hro, hf2, hfi, hC2, hC5, hx⟩
  refine We (We (Wb (Wa rfl (Wl 3 TI49 rfl TI47 rfl h5 (Wa rfl (Wk TI47 rfl rfl (Wh hC5 rfl) (Wa rfl (Ws TI47 rfl (hty _ hx) (Wa rfl (Wf vI (Wc (W.block (W.loop (fun e w => ∃ (q : Nat) (f : Nat → Nat), q ≤ t.parts.length ∧ e 2 = .pointer (some ⟨c2, 0, none⟩) ∧ e 3 = (.slice (some ⟨B, 0, none⟩) L.length L.length) ∧ e 4 = .int .i64 (i : Int) ∧ e 11 = (.slice (some ⟨tb, to_, none⟩) L.length tc) ∧ e 12 = .int .i64 (L.length : Int) ∧ e 13 = .int .i64 (i : Int) ∧ e 33 = V i ∧ e 34 = .int .i64 (t.parts.length : Int) ∧ e 35 = .int .i64 (q : Int) ∧ w.ownsRow B 3 1 (.slice (some ⟨B, 0, none⟩) L.length L.length) L.length (dps L.length f) ∧ (∀ j, j < i → f j = dpI L j) ∧ f i = mxD L t q ∧ (∀ j, i < j → f j = 0) ∧ w.heap[c2]? = some (.cells #[.int .i64 0, .int .i64 0] 32 (0, 0)) ∧ Ext w0 w) (fun e w => t.parts.length - (intOf (e 35)).toNat) ?_ ?_)))))))))))))
  ·exact ⟨0, f2, Nat.zero_le _, h2, h3, h4, h11, h12, h13, rfl, rfl, rfl, hro, fun j hj => by rw [hf2 j (by omega)]; exact hf j hj, by rw [mxD_zero]; exact hfi, fun j hj => by rw [hf2 j (by omega)]; exact hz j (by omega), hC2, hx⟩
  rintro e w ⟨q, f, hq, h2, h3, h4, h11, h12, h13, h33, h34, h35, hro, hf, hfi, hz, hC2, hx⟩
  have hm35 := h35
  refine We (Wb (Wa rfl (o_lt h35 h34 (Wc (We (Wn rfl (fun c36 => ?_) (fun c36 => ?_)))))))
  ·try simp only [cs8] at c36
   have hq1 : q < t.parts.length := by omega
   obtain ⟨ub, uo, uc, hV, huc⟩ := Sl.paq (hty _ hx) hq1
   rw [hV] at h33
   have hptq := hpt q hq1
   obtain ⟨p, hp⟩ : ∃ p, p = t.parts[q] := ⟨_, rfl⟩
   rw [← hp] at huc hptq
   have hen : p.ty = ((p.ty.toNat : Nat) : Int) := by omega
   refine Wp (We (W.block (We (Wb (Wa rfl (Wt (i := q) TI47 TI66 h33 h35 (by omega) (Wa rfl (o_ldA TI66 rfl rfl huc rfl (Wa rfl (o_alB TI66 ?_))))))))))
   intro wa hCa hxa hsa
   refine WL.u (o_stA TI66 rfl (show _ = Value.agg (paV p).toArray from rfl) rfl rfl hCa rfl ?_)
   intro wb7 hC7 hob hsb
   have hxb := Ext.own hxa (Nat.le_refl _) hob
   obtain ⟨b7, hb7⟩ : ∃ b, b = w.heap.size := ⟨_, rfl⟩
   rw [← hb7] at hC7 ⊢
   clear hCa hxa hsa hob hsb
   replace hx := hx.tr hxb
   replace hro := Wr hro hxb
   replace hC2 := hxb.blk hC2 (fun h => h)
   clear hxb
   refine Wc ?_
   have hxd := Only.drew wb7
   replace hx := hx.tr hxd
   replace hro := Wr hro hxd
   replace hC2 := hxd.blk hC2 (fun h => h)
   replace hC7 := hxd.blk hC7 (fun h => h)
   refine W.tail 13 rfl (by kernel_rfl) (WS.c rfl ((SO.o rfl (Wf h3 ⟨rfl, rfl⟩))) (WS.c rfl ((SO.o rfl (Wf h4 ⟨rfl, rfl⟩))) (WS.c rfl ((SO.o rfl (Wf h3 ⟨rfl, rfl⟩))) (WS.c rfl ((SO.o rfl (Wf h4 ⟨rfl, rfl⟩))) (WS.c rfl ((SO.o rfl (Wt (i := i) TI57 TI3 (show _ = Value.slice (some ⟨B, 0, none⟩) L.length L.length from rfl) (show _ = Value.int .i64 ((i : Nat) : Int) from rfl) (by omega) ⟨rfl, rfl⟩))) (WS.c rfl ((SO.o rfl (Wk TI3 rfl rfl (show World.cell? _ ⟨B, 0 + i * 1, none⟩ = some (iv (f (i))) from by rw [Nat.zero_add, Nat.mul_one]; exact own_cell hro (dps_at (by omega))) ⟨rfl, rfl⟩))) (WS.c rfl ((SO.o rfl (Wf h3 ⟨rfl, rfl⟩))) (WS.c rfl ((SO.o rfl (Wl 2 TI66 rfl TI3 rfl rfl ⟨rfl, rfl⟩))) (WS.c rfl ((SO.o rfl (Wk TI3 rfl rfl (Wh hC7 rfl) ⟨rfl, rfl⟩))) (WS.c rfl ((SO.o rfl (Wt (i := p.ty.toNat) TI57 TI3 (show _ = Value.slice (some ⟨B, 0, none⟩) L.length L.length from rfl) (show _ = Value.int .i64 ((p.ty.toNat : Nat) : Int) from by rw [← hen]; rfl) (by omega) ⟨rfl, rfl⟩))) (WS.c rfl ((SO.o rfl (Wk TI3 rfl rfl (show World.cell? _ ⟨B, 0 + p.ty.toNat * 1, none⟩ = some (iv (f (p.ty.toNat))) from by rw [Nat.zero_add, Nat.mul_one]; exact own_cell hro (dps_at (by omega))) ⟨rfl, rfl⟩))) (WS.c rfl ((SO.r (r_max (a := f i) (b := f p.ty.toNat) rfl rfl))) (WS.c rfl ((SO.o rfl (Wt (i := i) TI57 TI3 (show _ = Value.slice (some ⟨B, 0, none⟩) L.length L.length from rfl) (show _ = Value.int .i64 ((i : Nat) : Int) from rfl) (by omega) ⟨rfl, rfl⟩))) (WS.nil (WL.u (o_stRj TI3 rfl (show 0 + i * 1 = i by omega) (show _ = iv (max (f i) (f p.ty.toNat)) from rfl) rfl hro (show Value.ownBlock (Value.slice (some ⟨B, 0, none⟩) L.length L.length) = some B from rfl) (by omega) ?_))))))))))))))))
   intro w51 hr51 ho51 hs51
   rw [dps_set] at hr51
   replace hC2 := ho51.blk hC2 (fun h => own_off hro hC2 (by decide) h)
   try replace hC5 := ho51.blk hC5 (fun h => own_off hro hC5 (by decide) h)
   replace hx := hx.trans' ho51 (fun _ h => h) (fun b hb h => by have := (hro.lt b h).1; omega)
   replace hro := hr51
   refine Wc (Wb (Wa rfl (o_addi h35 rfl (by omega) (Wa rfl (Wf vI (Wc (⟨⟨q + 1, updN f i (max (f i) (f p.ty.toNat)), by omega, h2, h3, h4, h11, h12, h13, h33.trans hV.symm, h34, rfl, hro, fun j hj => ?_, ?_, fun j hj => ?_, hC2, hx⟩, ?_⟩)))))))
   ·unfold updN; rw [if_neg (by omega)]; exact hf j hj
   ·unfold updN; rw [if_pos rfl, mxD_succ hq1, ← hp, hfi, hf _ (by omega)]
   ·unfold updN; rw [if_neg (by omega)]; exact hz j hj
   show t.parts.length - ((q : Int) + 1).toNat < _
   rw [hm35]; simp [intOf]; omega
  try simp only [cs8] at c36
  have hq1 : q = t.parts.length := by omega
  rw [hq1] at hfi
  rw [← hfi] at hdm
  have hdi : dpI L i = f i + 1 := hdm
  have hmi : f i ≤ 64 := by rw [hfi]; exact hmx _ (Nat.le_refl _)
  refine W.exit (We (Wb (Wa rfl (Wf h3 (Wa rfl (Wf h4 (Wa rfl (Wt (i := i) TI57 TI3 (show _ = Value.slice (some ⟨B, 0, none⟩) L.length L.length from rfl) (show _ = Value.int .i64 ((i : Nat) : Int) from rfl) (by omega) (Wa rfl (Wk TI3 rfl rfl (show World.cell? _ ⟨B, 0 + i * 1, none⟩ = some (iv (f (i))) from by rw [Nat.zero_add, Nat.mul_one]; exact own_cell hro (dps_at (by omega))) (Wa rfl (o_addi (a := ((f i : Nat) : Int)) (b := 1) rfl rfl (by omega) (Wa rfl (Wt (i := i) TI57 TI3 (show _ = Value.slice (some ⟨B, 0, none⟩) L.length L.length from rfl) (show _ = Value.int .i64 ((i : Nat) : Int) from rfl) (by omega) (WL.u (o_stRj TI3 rfl (show 0 + i * 1 = i by omega) (show _ = iv (f i + 1) from congrArg (Value.int .i64) (by simp)) rfl hro (show Value.ownBlock (Value.slice (some ⟨B, 0, none⟩) L.length L.length) = some B from rfl) (by omega) ?_))))))))))))))))
  intro w58 hr58 ho58 hs58
  rw [dps_set] at hr58
  replace hC2 := ho58.blk hC2 (fun h => own_off hro hC2 (by decide) h)
  try replace hC5 := ho58.blk hC5 (fun h => own_off hro hC5 (by decide) h)
  replace hx := hx.trans' ho58 (fun _ h => h) (fun b hb h => by have := (hro.lt b h).1; omega)
  replace hro := hr58
  refine Wc (We (Wb (Wa rfl (Wf h3 (Wa rfl (Wf h4 (Wa rfl (Wt (i := i) TI57 TI3 (show _ = Value.slice (some ⟨B, 0, none⟩) L.length L.length from rfl) (show _ = Value.int .i64 ((i : Nat) : Int) from rfl) (by omega) (Wa rfl (Wk TI3 rfl rfl (show World.cell? _ ⟨B, 0 + i * 1, none⟩ = some (iv (f i + 1)) from by rw [Nat.zero_add, Nat.mul_one]; exact (own_cell hro (dps_at (by omega))).trans (by unfold updN; rw [if_pos rfl])) (Wa rfl (o_gt (a := ((f i + 1 : Nat) : Int)) (b := 64) rfl rfl (Wc (Wn rfl (fun c63 => ?_) (fun c63 => ?_)))))))))))))))
  ·try simp only [cs8] at c63
   have hgt : 64 < dpI L i := by omega
   refine We ?_
   skip
   skip
   refine Wb (Wa rfl (Wf h4 (Wa rfl (o_bldC (cs := [(.int .i64 83), _]) TI32 (Sizes.cons TI30 (Sizes.cons TI3 Sizes.nil)) rfl (lcp vI (lcp vI lnp)) rfl rfl (WL.u (o_stA TI32 h2 (show _ = Value.agg #[.int .i64 83, .int .i64 (i : Int)] from rfl) rfl rfl hC2 rfl ?_))))))
   intro wz hCz hoz hsz
   replace hx := hx.trans' hoz (fun _ h => h) (fun b hb he => by omega)
   refine Wc (Wm (retC rfl TI32 rfl h2 (show Cells _ c2 0 [.int .i64 83, .int .i64 (i : Int)] from Cells.of hCz 0 _ (by simp)) rfl ?_))
   exact ⟨by unfold dpV; rw [dpV_hit hi1 hgt hd]; rfl, hx⟩
  try simp only [cs8] at c63
  have hle64 : ¬ 64 < f i + 1 := by omega
  refine Wp (Wb (Wa rfl (o_addi h13 rfl (by omega) (Wa rfl (Wf vI (Wc (⟨⟨i + 1, updN f i (f i + 1), by omega, h2, h3, h11.trans hlv.symm, h12, rfl, hro, fun j hj => ?_, fun j hj => ?_, fun j hj => ?_, hC2, hx⟩, ?_⟩)))))))
  ·unfold updN
   by_cases e : j = i
   ·rw [if_pos e, e]; exact hdi.symm
   rw [if_neg e]; exact hf j (by omega)
  ·by_cases e : j = i
   ·rw [e, hdi]; exact hle64
   exact hd j (by omega)
  ·unfold updN
   rw [if_neg (by omega)]; exact hz j (by omega)
  show L.length - ((i : Int) + 1).toNat < _
  rw [hm13]; simp [intOf]; omega
 try simp only [cs8] at c14
 have hi1 : i = L.length := by omega
 rw [hi1] at hd
 refine W.exit (We ?_)
 skip
 skip
 refine Wb (Wa rfl (o_bldC (cs := [(.int .i64 0), (.int .i64 0)]) TI32 (Sizes.cons TI30 (Sizes.cons TI3 Sizes.nil)) rfl lnp rfl rfl (WL.u (o_stA TI32 h2 (show _ = Value.agg #[.int .i64 0, .int .i64 0] from rfl) rfl rfl hC2 rfl ?_))))
 intro wz hCz hoz hsz
 replace hx := hx.trans' hoz (fun _ h => h) (fun b hb he => by omega)
 refine Wc (Wm (retC rfl TI32 rfl h2 (show Cells _ c2 0 [.int .i64 0, .int .i64 0] from Cells.of hCz 0 _ (by simp)) rfl ?_))
 exact ⟨by unfold dpV; rw [dpV_no hd]; rfl, hx⟩
end Go.Proofs.YtpbflfgigfdohaaDoor

namespace Go.Proofs.YtpbflfgigfdohaaDoor
open Go Go.Vc Go.RowKit Go.Proofs

noncomputable def scV (L : List Tp) (R : List Ro) : Int × Int := (scF L R).getD (0, 0)
theorem sc_tp {L : List Tp} {R : List Ro} {i : Nat} (hi : i < L.length) (h : ¬ tpOk L[i] (i : Int)) (hb : ∀ j (hj : j < L.length), j < i → tpOk L[j] (j : Int)) : scV L R = (92, (i : Int)) := by
 have h1 : tpF L = some (92, (i : Int)) := firstN_hit hi (by rw [tgetD_at hi, if_neg h]) (fun j hj => by rw [tgetD_at (by omega), if_pos (hb j (by omega) hj)])
 unfold scV scF
 rw [h1]; rfl
theorem sc_tpn {L : List Tp} (hb : ∀ j (hj : j < L.length), tpOk L[j] (j : Int)) : tpF L = none := firstN_miss fun j hj => by rw [tgetD_at hj, if_pos (hb j hj)]
theorem dp_nz {L : List Tp} {v : Int × Int} (h : dpF L = some v) : v.1 = 83 := by
 obtain ⟨i, hi, h1⟩ := firstN_some h
 split at h1
 ·cases h1; rfl
 cases h1
theorem dpV_iff {L : List Tp} : (dpV L).1 = 0 ↔ dpF L = none := by
 unfold dpV
 cases h : dpF L with
 | none => simp
 | some v => have := dp_nz h; simp [this]
theorem sc_dp {L : List Tp} {R : List Ro} (hb : tpF L = none) (h : ¬ (dpV L).1 = 0) : scV L R = dpV L := by
 unfold scV scF
 rw [hb, Option.none_or]
 unfold dpV at h ⊢
 cases hd : dpF L with
 | none => rw [hd] at h; simp at h
 | some v => rfl
theorem rgetD_at8 {R : List Ro} {k : Nat} (hk : k < R.length) : R.getD k ro0 = R[k] := by simp [List.getD_eq_getElem?_getD, hk]
theorem sc_ro {L : List Tp} {R : List Ro} (h1 : tpF L = none) (h2 : dpF L = none) {q : Nat} (hq : q < R.length) (h : ¬ roOk L.length R q) (hb : ∀ j, j < q → roOk L.length R j) : scV L R = (92, (L.length : Int) + (q : Int)) := by
 have h3 : roF L.length R = some (92, (L.length : Int) + (q : Int)) := firstN_hit hq (by rw [if_neg h]) (fun j hj => by rw [if_pos (hb j hj)])
 unfold scV scF
 rw [h1, h2, h3]; rfl
theorem sc_ok {L : List Tp} {R : List Ro} (h1 : tpF L = none) (h2 : dpF L = none) (hb : ∀ j, j < R.length → roOk L.length R j) : scV L R = (0, 0) := by
 have h3 : roF L.length R = none := firstN_miss fun j hj => by rw [if_pos (hb j hj)]
 unfold scV scF
 rw [h1, h2, h3]; rfl
def mN (R : List Ro) (q : Nat) (gl : List UInt8 → Option Int) (nm : List UInt8) : Nat := if (gl nm).isSome = true then q else q + 1
theorem mN_iff {R : List Ro} {q : Nat} {gl : List UInt8 → Option Int} (hq : q < R.length) (hg : ∀ s, (gl s).isSome = (R.take q).any (fun z => decide (z.name = s))) : mN R q gl R[q].name = q + 1 ↔ ∀ j, j < q → (R.getD j ro0).name ≠ (R.getD q ro0).name := by
 have hb : (gl R[q].name).isSome = true ↔ ∃ j, ∃ hj : j < q, (R[j]'(by omega)).name = R[q].name := by
  rw [hg, any_take (by omega)]; simp
 unfold mN
 rw [rgetD_at8 hq]
 by_cases hc : (gl R[q].name).isSome = true
 ·rw [if_pos hc]
  refine ⟨fun e => by omega, fun hh => ?_⟩
  obtain ⟨j, hj, e⟩ := hb.1 hc
  exact absurd (by rw [rgetD_at8 (by omega)]; exact e) (hh j hj)
 rw [if_neg hc]
 exact ⟨fun _ j hj e => hc (hb.2 ⟨j, hj, by rw [rgetD_at8 (by omega)] at e; exact e⟩), fun _ => rfl⟩
theorem ro_iff {n q : Nat} {R : List Ro} {gl : List UInt8 → Option Int} (hq : q < R.length) (hg : ∀ s, (gl s).isSome = (R.take q).any (fun z => decide (z.name = s))) :
  roOk n R q ↔ q < 256 ∧ nameB R[q].name = true ∧ 0 ≤ R[q].ty ∧ R[q].ty < (n : Int) ∧ mN R q gl R[q].name = q + 1 := by
 rw [mN_iff hq hg, roOk, rgetD_at8 hq]
theorem gl_step {R : List Ro} {q : Nat} {gl : List UInt8 → Option Int} (hq : q < R.length) (hg : ∀ s, (gl s).isSome = (R.take q).any (fun z => decide (z.name = s))) (v : Int) : ∀ s, ((fun c => if c = R[q].name then some v else gl c) s : Option Int).isSome = (R.take (q + 1)).any (fun z => decide (z.name = s)) := fun s => by
 rw [any_snoc hq, ← hg s]
 by_cases e : s = R[q].name
 ·simp [e]
 have e2 : ¬ R[q].name = s := fun h => e h.symm
 simp [e, e2]
/-- what the machine can hold of a list of roots -/
structure RLim (R : List Ro) : Prop where
 len : R.length * 24 ≤ 140737488351232
 nm : ∀ r ∈ R, r.name.length ≤ 9223372036854775807

set_option maxHeartbeats 4000000 in
theorem tcheck_spec (L : List Tp) (R : List Ro) (tv rv : Value) (V : Nat → Value) (w0 : World) (hS : SchR w0 L R tv rv V) (hlL : LLim L) (hlR : RLim R) : Ca Tryd.prog 11 #[.agg #[tv, rv]] w0 (fun v w' => v = .agg #[.int .i64 (scV L R).1, .int .i64 (scV L R).2] ∧ Ext w0 w') := by
 have hlen := hlL.len
 have hlr := hlR.len
 have hT := hS.ty
 have hR0 := hS.ro
 refine Ca.of Tryd.func11 Tryd.ntmps11 rfl rfl (We (Wb (Wa rfl (o_boxB rfl ?_))))
 intro w1 hC1 hx1 hs1
 obtain ⟨b1, hb1⟩ : ∃ b, b = w0.heap.size := ⟨_, rfl⟩
 rw [← hb1] at hC1 ⊢
 replace hC1 : w1.heap[b1]? = some (.cells ([tv, rv]).toArray 29 (0, 0)) := hC1
 have hx := hx1
 refine Wa rfl (o_alB TI32 ?_)
 intro wb hC2 hxb hsb
 have hq1 := (Array.getElem?_eq_some_iff.1 hC1).1
 have hqx := hx.size
 replace hx := hx.tr hxb
 replace hC1 := hxb.blk hC1 (fun h => h)
 obtain ⟨c2, hc2⟩ : ∃ c, c = w1.heap.size := ⟨_, rfl⟩
 rw [← hc2] at hC2 ⊢
 have hz2 : w0.heap.size ≤ c2 := by rw [hc2]; exact hqx
 replace hC2 : wb.heap[c2]? = some (.cells #[.int .i64 0, .int .i64 0] 32 (0, 0)) := hC2
 clear hxb hq1
 refine Wc (We (We (Wb (Wa rfl (Wl 0 TI29 rfl TI26 rfl rfl (Wa rfl (Wk TI26 rfl rfl (Wh hC1 rfl) (Wa rfl (Ws TI26 rfl (hT.ext hx).row (Wa rfl (Wf vI (Wc (W.block (W.loop (fun e w => ∃ i : Nat, i ≤ L.length ∧ e 1 = .pointer (some ⟨b1, 0, none⟩) ∧ e 2 = .pointer (some ⟨c2, 0, none⟩) ∧ e 10 = tv ∧ e 11 = .int .i64 (L.length : Int) ∧ e 12 = .int .i64 (i : Int) ∧ (∀ j (hj : j < L.length), j < i → tpOk L[j] (j : Int)) ∧ w.heap[b1]? = some (.cells #[tv, rv] 29 (0, 0)) ∧ w.heap[c2]? = some (.cells #[.int .i64 0, .int .i64 0] 32 (0, 0)) ∧ Ext w0 w) (fun e w => L.length - (intOf (e 12)).toNat) ?_ ?_))))))))))))))
 ·exact ⟨0, Nat.zero_le _, rfl, rfl, rfl, rfl, rfl, fun j hj h => by omega, hC1, hC2, hx⟩
 rintro e w ⟨i, hi, h1, h2, h10, h11, h12, hok, hC1, hC2, hx⟩
 have hm12 := h12
 refine We (Wb (Wa rfl (o_lt h12 h11 (Wc (We (Wn rfl (fun c13 => ?_) (fun c13 => ?_)))))))
 ·try simp only [cs8] at c13
  have hi1 : i < L.length := by omega
  obtain ⟨tb, to_, tc, hlv, htc, hty⟩ := (hT.ext hx).atk hi1
  rw [hlv] at h10
  have htl := hlL.ty _ (List.getElem_mem hi1)
  obtain ⟨t, ht⟩ : ∃ t, t = L[i] := ⟨_, rfl⟩
  rw [← ht] at htc hty htl
  refine Wp (We (W.block (We (Wb (Wa rfl (Wf h12 (Wa rfl (Wt (i := i) TI26 TI49 h10 h12 (by omega) (Wa rfl (o_ldA TI49 rfl rfl htc rfl (Wa rfl (o_alB TI49 ?_))))))))))))
  intro wa hCa hxa hsa
  refine Wa rfl (Wg vI (WL.u (o_stA TI49 rfl (show _ = Value.agg (tcell t (V i)).toArray from rfl) rfl (List.all_eq_true.2 (tcell_all (sl_one1 hty))) hCa rfl ?_)))
  intro wb4 hC4 hob hsb
  have hxb := Ext.own hxa (Nat.le_refl _) hob
  obtain ⟨b4, hb4⟩ : ∃ b, b = w.heap.size := ⟨_, rfl⟩
  rw [← hb4] at hC4 ⊢
  clear hCa hxa hsa hob hsb
  replace hx := hx.tr hxb
  replace hC1 := hxb.blk hC1 (fun h => h)
  replace hC2 := hxb.blk hC2 (fun h => h)
  replace hty := hty.ext hxb
  clear hxb
  refine Wc (We (Wb (Wa rfl (o_ldA TI49 rfl rfl (show Cells _ b4 0 (tcell t (V i)) from Cells.of hC4 0 _ (by simp)) rfl (Wa rfl (Wf vI (Wa rfl (o_call Tryd.call29 (lc rfl (lc rfl ln)) ((tright_spec t (V i) (i : Int) _ hty htl).mono ?_)))))))))
  rintro v19 w19 ⟨rfl, hx19⟩
  replace hx := hx.tr hx19
  replace hC1 := hx19.blk hC1 (fun h => h)
  replace hC2 := hx19.blk hC2 (fun h => h)
  refine Wa rfl (o_not' rfl (Wc (Wn rfl (fun c20 => ?_) (fun c20 => ?_))))
  ·try simp only [cs8] at c20
   have hti : ¬ tpOk t (i : Int) := by rw [← tpB_iff]; simpa using c20
   refine We ?_
   skip
   skip
   refine Wb (Wa rfl (Wf vI (Wa rfl (o_bldC (cs := [(.int .i64 92), _]) TI32 (Sizes.cons TI30 (Sizes.cons TI3 Sizes.nil)) rfl (lcp vI (lcp vI lnp)) rfl rfl (WL.u (o_stA TI32 h2 (show _ = Value.agg #[.int .i64 92, .int .i64 (i : Int)] from rfl) rfl rfl hC2 rfl ?_))))))
   intro wz hCz hoz hsz
   replace hx := hx.trans' hoz (fun _ h => h) (fun b hb he => by omega)
   refine Wc (Wm (retC rfl TI32 rfl h2 (show Cells _ c2 0 [.int .i64 92, .int .i64 (i : Int)] from Cells.of hCz 0 _ (by simp)) rfl ?_))
   exact ⟨by rw [sc_tp hi1 (ht ▸ hti) hok], hx⟩
  try simp only [cs8] at c20
  have hti : tpOk t (i : Int) := by rw [← tpB_iff]; simpa using c20
  refine Wp (Wb (Wa rfl (o_addi h12 rfl (by omega) (Wa rfl (Wf vI (Wc (⟨⟨i + 1, by omega, h1, h2, h10.trans hlv.symm, h11, rfl, fun j hj h => ?_, hC1, hC2, hx⟩, ?_⟩)))))))
  ·rcases Nat.lt_or_ge j i with h5 | h5
   ·exact hok j hj h5
   have e : j = i := by omega
   subst e; exact ht ▸ hti
  show L.length - ((i : Int) + 1).toNat < _
  rw [hm12]; simp [intOf]; omega
 try simp only [cs8] at c13
 have hi1 : i = L.length := by omega
 have hok2 : ∀ j (hj : j < L.length), tpOk L[j] (j : Int) := fun j hj => hok j hj (by omega)
 have htn := sc_tpn hok2
 refine W.exit (We (We (Wb (Wa rfl (Wl 0 TI29 rfl TI26 rfl h1 (Wa rfl (Wk TI26 rfl rfl (Wh hC1 rfl) (Wa rfl (o_call Tryd.call30 (lc rfl ln) ((tdeep_spec L tv V _ (hT.ext hx) hok2 hlL).mono ?_))))))))))
 rintro v26 w26 ⟨rfl, hx26⟩
 replace hx := hx.tr hx26
 replace hC1 := hx26.blk hC1 (fun h => h)
 replace hC2 := hx26.blk hC2 (fun h => h)
 refine Wa rfl (o_alB TI32 ?_)
 intro wa hCa hxa hsa
 refine WL.u (o_stA TI32 rfl (show _ = Value.agg ([.int .i64 (dpV L).1, .int .i64 (dpV L).2]).toArray from rfl) rfl rfl hCa rfl ?_)
 intro wb5 hC5 hob hsb
 have hxb := Ext.own hxa (Nat.le_refl _) hob
 obtain ⟨b5, hb5⟩ : ∃ b, b = w26.heap.size := ⟨_, rfl⟩
 rw [← hb5] at hC5 ⊢
 clear hCa hxa hsa hob hsb
 replace hx := hx.tr hxb
 replace hC1 := hxb.blk hC1 (fun h => h)
 replace hC2 := hxb.blk hC2 (fun h => h)
 clear hxb
 refine Wc (We (Wb (Wa rfl (Wl 0 TI32 rfl TI30 rfl rfl (Wa rfl (Wk TI30 rfl rfl (Wh hC5 rfl) (Wa rfl (o_ne rfl rfl (Wc (Wn rfl (fun c29 => ?_) (fun c29 => ?_)))))))))))
 ·try simp only [cs8] at c29
  have hdv : ¬ (dpV L).1 = 0 := by simpa using c29
  refine We ?_
  skip
  skip
  refine Wb (Wa rfl (o_ldA TI32 rfl rfl (show Cells _ b5 0 [.int .i64 (dpV L).1, .int .i64 (dpV L).2] from Cells.of hC5 0 _ (by simp)) rfl (WL.u (o_stA TI32 h2 (show _ = Value.agg #[.int .i64 (dpV L).1, .int .i64 (dpV L).2] from rfl) rfl rfl hC2 rfl ?_))))
  intro wz hCz hoz hsz
  replace hx := hx.trans' hoz (fun _ h => h) (fun b hb he => by omega)
  refine Wc (Wm (retC rfl TI32 rfl h2 (show Cells _ c2 0 [.int .i64 (dpV L).1, .int .i64 (dpV L).2] from Cells.of hCz 0 _ (by simp)) rfl ?_))
  exact ⟨by rw [sc_dp htn hdv], hx⟩
 try simp only [cs8] at c29
 have hdn : dpF L = none := dpV_iff.1 (by simpa using c29)
 refine Wp (We (Wb (Wa rfl (o_mkM ?_))))
 have hML := MapN.made Tryd.prog 9 3 enS wb5
 have hxm : Ext wb5 (wb5.alloc (.map #[] 0)) := Only.alloc wb5 _
 obtain ⟨lb, hlb⟩ : ∃ b, b = wb5.heap.size := ⟨_, rfl⟩
 have hzlb : w0.heap.size ≤ lb := by rw [hlb]; exact hx.size
 rw [← hlb] at hML ⊢
 generalize wb5.alloc (.map #[] 0) = wm at hML hxm ⊢
 replace hx := hx.tr hxm
 replace hC1 := hxm.blk hC1 (fun h => h)
 replace hC2 := hxm.blk hC2 (fun h => h)
 refine Wa rfl (Wo (Wc (We (We (Wb (Wa rfl (Wl 1 TI29 rfl TI27 rfl h1 (Wa rfl (Wk TI27 rfl rfl (Wh hC1 rfl) (Wa rfl (Ws TI27 rfl (hR0.ext hx) (Wa rfl (Wf vI (Wc (W.block (W.loop (fun e w => ∃ (q : Nat) (gl : List UInt8 → Option Int), q ≤ R.length ∧ e 1 = .pointer (some ⟨b1, 0, none⟩) ∧ e 2 = .pointer (some ⟨c2, 0, none⟩) ∧ e 6 = .map (some lb) ∧ e 33 = rv ∧ e 34 = .int .i64 (R.length : Int) ∧ e 35 = .int .i64 (q : Int) ∧ (∀ j, j < q → roOk L.length R j) ∧ MapN Tryd.prog 9 3 enS w lb q gl ∧ (∀ s, (gl s).isSome = (R.take q).any (fun z => decide (z.name = s))) ∧ w.heap[b1]? = some (.cells #[tv, rv] 29 (0, 0)) ∧ w.heap[c2]? = some (.cells #[.int .i64 0, .int .i64 0] 32 (0, 0)) ∧ Ext w0 w) (fun e w => R.length - (intOf (e 35)).toNat) ?_ ?_))))))))))))))))
 ·exact ⟨0, fun _ => none, Nat.zero_le _, h1, h2, rfl, rfl, rfl, rfl, fun j hj => by omega, hML, fun s => rfl, hC1, hC2, hx⟩
 rintro e w ⟨q, gl, hq, h1, h2, h6, h33, h34, h35, hno, hML, hgl, hC1, hC2, hx⟩
 have hm35 := h35
 refine We (Wb (Wa rfl (o_lt h35 h34 (Wc (We (Wn rfl (fun c36 => ?_) (fun c36 => ?_)))))))
 ·try simp only [cs8] at c36
  have hq1 : q < R.length := by omega
  obtain ⟨ub, uo, uc, hrv, huc⟩ := Sl.roq (hR0.ext hx) hq1
  rw [hrv] at h33
  have hgl2 := gl_step hq1 hgl (q : Int)
  have hnl : R[q].name.length ≤ 9223372036854775807 := hlR.nm _ (List.getElem_mem hq1)
  obtain ⟨r, hr⟩ : ∃ r, r = R[q] := ⟨_, rfl⟩
  rw [← hr] at huc hgl2 hnl
  refine Wp (We (W.block (We (Wb (Wa rfl (Wf h35 (Wa rfl (Wt (i := q) TI27 TI51 h33 h35 (by omega) (Wa rfl (o_ldA TI51 rfl rfl huc rfl (Wa rfl (o_alB TI51 ?_))))))))))))
  intro wa hCa hxa hsa
  refine Wa rfl (Wg vI (WL.u (o_stA TI51 rfl (show _ = Value.agg (roV r).toArray from rfl) rfl rfl hCa rfl ?_)))
  intro wb8 hC8 hob hsb
  have hxb := Ext.own hxa (Nat.le_refl _) hob
  obtain ⟨b8, hb8⟩ : ∃ b, b = w.heap.size := ⟨_, rfl⟩
  rw [← hb8] at hC8 ⊢
  clear hCa hxa hsa hob hsb
  replace hx := hx.tr hxb
  replace hC1 := hxb.blk hC1 (fun h => h)
  replace hC2 := hxb.blk hC2 (fun h => h)
  replace hML := hML.ext hxb
  clear hxb
  refine Wc (We (Wb (Wa rfl (Wf h6 (Wa rfl (Wl 0 TI51 rfl TI9 rfl rfl (Wa rfl (Wk TI9 rfl rfl (Wh hC8 rfl) (Wa rfl (Wf vI (WL.u (o_muN enS_inj MT90 rfl hML rfl (keyS Tryd.underlying9 (by rw [maxLen_eq]; omega)) rfl (wf_i64 (by omega)) (by rw [maxLen_eq]; omega) ?_))))))))))))
  intro wq hMq hoq hsq
  replace hC1 := hoq.blk hC1 (map_blk_ne hML.is hC1)
  replace hC2 := hoq.blk hC2 (map_blk_ne hML.is hC2)
  replace hC8 := hoq.blk hC8 (map_blk_ne hML.is hC8)
  replace hx := hx.trans' hoq (fun _ h => h) (fun b hb e => by omega)
  replace hML : MapN Tryd.prog 9 3 enS wq lb (mN R q gl r.name) _ := hMq
  refine Wc (We ?_)
  by_cases hN : nameB r.name = true
  by_cases hD : mN R q gl r.name = q + 1
  by_cases hB : 0 ≤ r.ty
  by_cases hC : r.ty < (L.length : Int)
  by_cases hE : q < 256
  ·skip
   refine Wb (Wa rfl (Wl 0 TI51 rfl TI9 rfl rfl (Wa rfl (Wk TI9 rfl rfl (Wh hC8 rfl) (Wa rfl (o_call Tryd.call31 (lc rfl ln) ((name_spec r.name _ hnl).mono ?_)))))))
   rintro v46 w46 ⟨rfl, rfl⟩
   refine Wa rfl (o_not' rfl (Wa rfl (Wf vB (Wj rfl (by simp [hN]) rfl (Wf h6 (Wj rfl (by simp [hN]) rfl (o_lenM Tryd.underlying90 rfl hML (Wj rfl (by simp [hN]) rfl (Wf vI (Wj rfl (by simp [hN]) rfl (o_addi rfl rfl (by omega) (Wj rfl (by simp [hN]) rfl (o_ne rfl rfl (Wa rfl (o_pickO rfl rfl (Wa rfl (Wf vB (Wj rfl (by simp [hN, hD]) rfl (Wl 1 TI51 rfl TI3 rfl rfl (Wj rfl (by simp [hN, hD]) rfl (Wk TI3 rfl rfl (Wh hC8 rfl) (Wj rfl (by simp [hN, hD]) rfl (o_lt rfl rfl (Wa rfl (o_pickO rfl rfl (Wa rfl (Wf vB (Wj rfl (by simp [hN, hD, hB]) rfl (Wl 1 TI51 rfl TI3 rfl rfl (Wj rfl (by simp [hN, hD, hB]) rfl (Wk TI3 rfl rfl (Wh hC8 rfl) (Wj rfl (by simp [hN, hD, hB]) rfl (Wl 0 TI29 rfl TI26 rfl h1 (Wj rfl (by simp [hN, hD, hB]) rfl (Wk TI26 rfl rfl (Wh hC1 rfl) (Wj rfl (by simp [hN, hD, hB]) rfl (Ws TI26 rfl (hT.ext hx).row (Wj rfl (by simp [hN, hD, hB]) rfl (o_ge rfl rfl (Wa rfl (o_pickO rfl rfl (Wa rfl (Wf vB (Wj rfl (by simp [hN, hD, hB, hC]) rfl (Wf vI (Wj rfl (by simp [hN, hD, hB, hC]) rfl (o_ge rfl rfl (Wa rfl (o_pickO rfl rfl (Wc (W.condF' rfl (by simp [hN, hD, hB, hC]; omega) (Wp (Wb (Wa rfl (o_addi h35 rfl (by omega) (Wa rfl (Wf vI (Wc (⟨⟨q + 1, _, by omega, h1, h2, h6, h33.trans hrv.symm, h34, rfl, fun j hj => ?_, (by rw [hD] at hML; exact hML), hgl2, hC1, hC2, hx⟩, ?_⟩)))))))))))))))))))))))))))))))))))))))))))))))))))))))))))
   ·rcases Nat.lt_or_ge j q with h | h
    ·exact hno j h
    rw [show j = q by omega]
    exact (ro_iff hq1 hgl).2 ⟨hE, hr ▸ hN, hr ▸ hB, hr ▸ hC, hr ▸ hD⟩
   show R.length - ((q : Int) + 1).toNat < _
   rw [hm35]; simp [intOf]; omega
  ·skip
   have hbad : ¬ roOk L.length R q := fun hh => by
    have h4 := ((ro_iff hq1 hgl).1 hh).1
    exact hE h4
   refine Wb (Wa rfl (Wl 0 TI51 rfl TI9 rfl rfl (Wa rfl (Wk TI9 rfl rfl (Wh hC8 rfl) (Wa rfl (o_call Tryd.call31 (lc rfl ln) ((name_spec r.name _ hnl).mono ?_)))))))
   rintro v46 w46 ⟨rfl, rfl⟩
   refine Wa rfl (o_not' rfl (Wa rfl (Wf vB (Wj rfl (by simp [hN]) rfl (Wf h6 (Wj rfl (by simp [hN]) rfl (o_lenM Tryd.underlying90 rfl hML (Wj rfl (by simp [hN]) rfl (Wf vI (Wj rfl (by simp [hN]) rfl (o_addi rfl rfl (by omega) (Wj rfl (by simp [hN]) rfl (o_ne rfl rfl (Wa rfl (o_pickO rfl rfl (Wa rfl (Wf vB (Wj rfl (by simp [hN, hD]) rfl (Wl 1 TI51 rfl TI3 rfl rfl (Wj rfl (by simp [hN, hD]) rfl (Wk TI3 rfl rfl (Wh hC8 rfl) (Wj rfl (by simp [hN, hD]) rfl (o_lt rfl rfl (Wa rfl (o_pickO rfl rfl (Wa rfl (Wf vB (Wj rfl (by simp [hN, hD, hB]) rfl (Wl 1 TI51 rfl TI3 rfl rfl (Wj rfl (by simp [hN, hD, hB]) rfl (Wk TI3 rfl rfl (Wh hC8 rfl) (Wj rfl (by simp [hN, hD, hB]) rfl (Wl 0 TI29 rfl TI26 rfl h1 (Wj rfl (by simp [hN, hD, hB]) rfl (Wk TI26 rfl rfl (Wh hC1 rfl) (Wj rfl (by simp [hN, hD, hB]) rfl (Ws TI26 rfl (hT.ext hx).row (Wj rfl (by simp [hN, hD, hB]) rfl (o_ge rfl rfl (Wa rfl (o_pickO rfl rfl (Wa rfl (Wf vB (Wj rfl (by simp [hN, hD, hB, hC]) rfl (Wf vI (Wj rfl (by simp [hN, hD, hB, hC]) rfl (o_ge rfl rfl (Wa rfl (o_pickO rfl rfl (Wc (W.condT' rfl (by rw [decide_eq_true (show (256 : Int) ≤ (q : Int) by omega)]; simp) (We ?_))))))))))))))))))))))))))))))))))))))))))))))))))))
   skip
   skip
   refine Wb (Wa rfl (Wl 0 TI29 rfl TI26 rfl h1 (Wa rfl (Wk TI26 rfl rfl (Wh hC1 rfl) (Wa rfl (Ws TI26 rfl (hT.ext hx).row (Wa rfl (Wf vI (Wa rfl (o_addi rfl rfl (by omega) (Wa rfl (o_bldC (cs := [(.int .i64 92), _]) TI32 (Sizes.cons TI30 (Sizes.cons TI3 Sizes.nil)) rfl (lcp vI (lcp vI lnp)) rfl rfl (WL.u (o_stA TI32 h2 (show _ = Value.agg #[.int .i64 92, .int .i64 ((L.length : Int) + (q : Int))] from rfl) rfl rfl hC2 rfl ?_))))))))))))))
   intro wz hCz hoz hsz
   replace hx := hx.trans' hoz (fun _ h => h) (fun b hb he => by omega)
   refine Wc (Wm (retC rfl TI32 rfl h2 (show Cells _ c2 0 [.int .i64 92, .int .i64 ((L.length : Int) + (q : Int))] from Cells.of hCz 0 _ (by simp)) rfl ?_))
   exact ⟨by rw [sc_ro htn hdn hq1 hbad hno], hx⟩
  ·skip
   have hbad : ¬ roOk L.length R q := fun hh => by
    have h4 := ((ro_iff hq1 hgl).1 hh).2.2.2.1
    rw [← hr] at h4
    exact hC h4
   refine Wb (Wa rfl (Wl 0 TI51 rfl TI9 rfl rfl (Wa rfl (Wk TI9 rfl rfl (Wh hC8 rfl) (Wa rfl (o_call Tryd.call31 (lc rfl ln) ((name_spec r.name _ hnl).mono ?_)))))))
   rintro v46 w46 ⟨rfl, rfl⟩
   refine Wa rfl (o_not' rfl (Wa rfl (Wf vB (Wj rfl (by simp [hN]) rfl (Wf h6 (Wj rfl (by simp [hN]) rfl (o_lenM Tryd.underlying90 rfl hML (Wj rfl (by simp [hN]) rfl (Wf vI (Wj rfl (by simp [hN]) rfl (o_addi rfl rfl (by omega) (Wj rfl (by simp [hN]) rfl (o_ne rfl rfl (Wa rfl (o_pickO rfl rfl (Wa rfl (Wf vB (Wj rfl (by simp [hN, hD]) rfl (Wl 1 TI51 rfl TI3 rfl rfl (Wj rfl (by simp [hN, hD]) rfl (Wk TI3 rfl rfl (Wh hC8 rfl) (Wj rfl (by simp [hN, hD]) rfl (o_lt rfl rfl (Wa rfl (o_pickO rfl rfl (Wa rfl (Wf vB (Wj rfl (by simp [hN, hD, hB]) rfl (Wl 1 TI51 rfl TI3 rfl rfl (Wj rfl (by simp [hN, hD, hB]) rfl (Wk TI3 rfl rfl (Wh hC8 rfl) (Wj rfl (by simp [hN, hD, hB]) rfl (Wl 0 TI29 rfl TI26 rfl h1 (Wj rfl (by simp [hN, hD, hB]) rfl (Wk TI26 rfl rfl (Wh hC1 rfl) (Wj rfl (by simp [hN, hD, hB]) rfl (Ws TI26 rfl (hT.ext hx).row (Wj rfl (by simp [hN, hD, hB]) rfl (o_ge rfl rfl (Wa rfl (o_pickO rfl rfl (Wa rfl (Wf vB (Wi rfl (by rw [decide_eq_true (show (L.length : Int) ≤ r.ty by omega)]; simp) rfl (Wi rfl (by rw [decide_eq_true (show (L.length : Int) ≤ r.ty by omega)]; simp) rfl (Wa rfl (o_pickT rfl (by rw [decide_eq_true (show (L.length : Int) ≤ r.ty by omega)]; simp) (Wc (W.condT' rfl (rfl) (We ?_))))))))))))))))))))))))))))))))))))))))))))))))))
   skip
   skip
   refine Wb (Wa rfl (Wl 0 TI29 rfl TI26 rfl h1 (Wa rfl (Wk TI26 rfl rfl (Wh hC1 rfl) (Wa rfl (Ws TI26 rfl (hT.ext hx).row (Wa rfl (Wf vI (Wa rfl (o_addi rfl rfl (by omega) (Wa rfl (o_bldC (cs := [(.int .i64 92), _]) TI32 (Sizes.cons TI30 (Sizes.cons TI3 Sizes.nil)) rfl (lcp vI (lcp vI lnp)) rfl rfl (WL.u (o_stA TI32 h2 (show _ = Value.agg #[.int .i64 92, .int .i64 ((L.length : Int) + (q : Int))] from rfl) rfl rfl hC2 rfl ?_))))))))))))))
   intro wz hCz hoz hsz
   replace hx := hx.trans' hoz (fun _ h => h) (fun b hb he => by omega)
   refine Wc (Wm (retC rfl TI32 rfl h2 (show Cells _ c2 0 [.int .i64 92, .int .i64 ((L.length : Int) + (q : Int))] from Cells.of hCz 0 _ (by simp)) rfl ?_))
   exact ⟨by rw [sc_ro htn hdn hq1 hbad hno], hx⟩
  ·skip
   have hbad : ¬ roOk L.length R q := fun hh => by
    have h4 := ((ro_iff hq1 hgl).1 hh).2.2.1
    rw [← hr] at h4
    exact hB h4
   refine Wb (Wa rfl (Wl 0 TI51 rfl TI9 rfl rfl (Wa rfl (Wk TI9 rfl rfl (Wh hC8 rfl) (Wa rfl (o_call Tryd.call31 (lc rfl ln) ((name_spec r.name _ hnl).mono ?_)))))))
   rintro v46 w46 ⟨rfl, rfl⟩
   refine Wa rfl (o_not' rfl (Wa rfl (Wf vB (Wj rfl (by simp [hN]) rfl (Wf h6 (Wj rfl (by simp [hN]) rfl (o_lenM Tryd.underlying90 rfl hML (Wj rfl (by simp [hN]) rfl (Wf vI (Wj rfl (by simp [hN]) rfl (o_addi rfl rfl (by omega) (Wj rfl (by simp [hN]) rfl (o_ne rfl rfl (Wa rfl (o_pickO rfl rfl (Wa rfl (Wf vB (Wj rfl (by simp [hN, hD]) rfl (Wl 1 TI51 rfl TI3 rfl rfl (Wj rfl (by simp [hN, hD]) rfl (Wk TI3 rfl rfl (Wh hC8 rfl) (Wj rfl (by simp [hN, hD]) rfl (o_lt rfl rfl (Wa rfl (o_pickO rfl rfl (Wa rfl (Wf vB (Wi rfl (by rw [decide_eq_true (show r.ty < 0 by omega)]; simp) rfl (Wi rfl (by rw [decide_eq_true (show r.ty < 0 by omega)]; simp) rfl (Wi rfl (by rw [decide_eq_true (show r.ty < 0 by omega)]; simp) rfl (Wi rfl (by rw [decide_eq_true (show r.ty < 0 by omega)]; simp) rfl (Wi rfl (by rw [decide_eq_true (show r.ty < 0 by omega)]; simp) rfl (Wi rfl (by rw [decide_eq_true (show r.ty < 0 by omega)]; simp) rfl (Wa rfl (o_pickT rfl (by rw [decide_eq_true (show r.ty < 0 by omega)]; simp) (Wa rfl (Wf vB (Wi rfl (rfl) rfl (Wi rfl (rfl) rfl (Wa rfl (o_pickT rfl (rfl) (Wc (W.condT' rfl (rfl) (We ?_))))))))))))))))))))))))))))))))))))))))))))
   skip
   skip
   refine Wb (Wa rfl (Wl 0 TI29 rfl TI26 rfl h1 (Wa rfl (Wk TI26 rfl rfl (Wh hC1 rfl) (Wa rfl (Ws TI26 rfl (hT.ext hx).row (Wa rfl (Wf vI (Wa rfl (o_addi rfl rfl (by omega) (Wa rfl (o_bldC (cs := [(.int .i64 92), _]) TI32 (Sizes.cons TI30 (Sizes.cons TI3 Sizes.nil)) rfl (lcp vI (lcp vI lnp)) rfl rfl (WL.u (o_stA TI32 h2 (show _ = Value.agg #[.int .i64 92, .int .i64 ((L.length : Int) + (q : Int))] from rfl) rfl rfl hC2 rfl ?_))))))))))))))
   intro wz hCz hoz hsz
   replace hx := hx.trans' hoz (fun _ h => h) (fun b hb he => by omega)
   refine Wc (Wm (retC rfl TI32 rfl h2 (show Cells _ c2 0 [.int .i64 92, .int .i64 ((L.length : Int) + (q : Int))] from Cells.of hCz 0 _ (by simp)) rfl ?_))
   exact ⟨by rw [sc_ro htn hdn hq1 hbad hno], hx⟩
  ·skip
   have hbad : ¬ roOk L.length R q := fun hh => by
    have h4 := ((ro_iff hq1 hgl).1 hh).2.2.2.2
    rw [← hr] at h4
    exact hD h4
   refine Wb (Wa rfl (Wl 0 TI51 rfl TI9 rfl rfl (Wa rfl (Wk TI9 rfl rfl (Wh hC8 rfl) (Wa rfl (o_call Tryd.call31 (lc rfl ln) ((name_spec r.name _ hnl).mono ?_)))))))
   rintro v46 w46 ⟨rfl, rfl⟩
   refine Wa rfl (o_not' rfl (Wa rfl (Wf vB (Wj rfl (by simp [hN]) rfl (Wf h6 (Wj rfl (by simp [hN]) rfl (o_lenM Tryd.underlying90 rfl hML (Wj rfl (by simp [hN]) rfl (Wf vI (Wj rfl (by simp [hN]) rfl (o_addi rfl rfl (by omega) (Wj rfl (by simp [hN]) rfl (o_ne rfl rfl (Wa rfl (o_pickO rfl rfl (Wa rfl (Wf vB (Wi rfl (by rw [decide_eq_false (show ¬ ((mN R q gl r.name : Nat) : Int) = (q : Int) + 1 by omega)]; simp) rfl (Wi rfl (by rw [decide_eq_false (show ¬ ((mN R q gl r.name : Nat) : Int) = (q : Int) + 1 by omega)]; simp) rfl (Wi rfl (by rw [decide_eq_false (show ¬ ((mN R q gl r.name : Nat) : Int) = (q : Int) + 1 by omega)]; simp) rfl (Wa rfl (o_pickT rfl (by rw [decide_eq_false (show ¬ ((mN R q gl r.name : Nat) : Int) = (q : Int) + 1 by omega)]; simp) (Wa rfl (Wf vB (Wi rfl (rfl) rfl (Wi rfl (rfl) rfl (Wi rfl (rfl) rfl (Wi rfl (rfl) rfl (Wi rfl (rfl) rfl (Wi rfl (rfl) rfl (Wa rfl (o_pickT rfl (rfl) (Wa rfl (Wf vB (Wi rfl (rfl) rfl (Wi rfl (rfl) rfl (Wa rfl (o_pickT rfl (rfl) (Wc (W.condT' rfl (rfl) (We ?_)))))))))))))))))))))))))))))))))))))))))
   skip
   skip
   refine Wb (Wa rfl (Wl 0 TI29 rfl TI26 rfl h1 (Wa rfl (Wk TI26 rfl rfl (Wh hC1 rfl) (Wa rfl (Ws TI26 rfl (hT.ext hx).row (Wa rfl (Wf vI (Wa rfl (o_addi rfl rfl (by omega) (Wa rfl (o_bldC (cs := [(.int .i64 92), _]) TI32 (Sizes.cons TI30 (Sizes.cons TI3 Sizes.nil)) rfl (lcp vI (lcp vI lnp)) rfl rfl (WL.u (o_stA TI32 h2 (show _ = Value.agg #[.int .i64 92, .int .i64 ((L.length : Int) + (q : Int))] from rfl) rfl rfl hC2 rfl ?_))))))))))))))
   intro wz hCz hoz hsz
   replace hx := hx.trans' hoz (fun _ h => h) (fun b hb he => by omega)
   refine Wc (Wm (retC rfl TI32 rfl h2 (show Cells _ c2 0 [.int .i64 92, .int .i64 ((L.length : Int) + (q : Int))] from Cells.of hCz 0 _ (by simp)) rfl ?_))
   exact ⟨by rw [sc_ro htn hdn hq1 hbad hno], hx⟩
  skip
  have hbad : ¬ roOk L.length R q := fun hh => by
   have h4 := ((ro_iff hq1 hgl).1 hh).2.1
   rw [← hr] at h4
   exact hN h4
  refine Wb (Wa rfl (Wl 0 TI51 rfl TI9 rfl rfl (Wa rfl (Wk TI9 rfl rfl (Wh hC8 rfl) (Wa rfl (o_call Tryd.call31 (lc rfl ln) ((name_spec r.name _ hnl).mono ?_)))))))
  rintro v46 w46 ⟨rfl, rfl⟩
  refine Wa rfl (o_not' rfl (Wa rfl (Wf vB (Wi rfl (by simpa using hN) rfl (Wi rfl (by simpa using hN) rfl (Wi rfl (by simpa using hN) rfl (Wi rfl (by simpa using hN) rfl (Wi rfl (by simpa using hN) rfl (Wa rfl (o_pickT rfl (by simpa using hN) (Wa rfl (Wf vB (Wi rfl (rfl) rfl (Wi rfl (rfl) rfl (Wi rfl (rfl) rfl (Wa rfl (o_pickT rfl (rfl) (Wa rfl (Wf vB (Wi rfl (rfl) rfl (Wi rfl (rfl) rfl (Wi rfl (rfl) rfl (Wi rfl (rfl) rfl (Wi rfl (rfl) rfl (Wi rfl (rfl) rfl (Wa rfl (o_pickT rfl (rfl) (Wa rfl (Wf vB (Wi rfl (rfl) rfl (Wi rfl (rfl) rfl (Wa rfl (o_pickT rfl (rfl) (Wc (W.condT' rfl (rfl) (We ?_))))))))))))))))))))))))))))))))))))
  skip
  skip
  refine Wb (Wa rfl (Wl 0 TI29 rfl TI26 rfl h1 (Wa rfl (Wk TI26 rfl rfl (Wh hC1 rfl) (Wa rfl (Ws TI26 rfl (hT.ext hx).row (Wa rfl (Wf vI (Wa rfl (o_addi rfl rfl (by omega) (Wa rfl (o_bldC (cs := [(.int .i64 92), _]) TI32 (Sizes.cons TI30 (Sizes.cons TI3 Sizes.nil)) rfl (lcp vI (lcp vI lnp)) rfl rfl (WL.u (o_stA TI32 h2 (show _ = Value.agg #[.int .i64 92, .int .i64 ((L.length : Int) + (q : Int))] from rfl) rfl rfl hC2 rfl ?_))))))))))))))
  intro wz hCz hoz hsz
  replace hx := hx.trans' hoz (fun _ h => h) (fun b hb he => by omega)
  refine Wc (Wm (retC rfl TI32 rfl h2 (show Cells _ c2 0 [.int .i64 92, .int .i64 ((L.length : Int) + (q : Int))] from Cells.of hCz 0 _ (by simp)) rfl ?_))
  exact ⟨by rw [sc_ro htn hdn hq1 hbad hno], hx⟩
 try simp only [cs8] at c36
 have hq1 : q = R.length := by omega
 rw [hq1] at hno
 refine W.exit (We ?_)
 skip
 skip
 refine Wb (Wa rfl (o_bldC (cs := [(.int .i64 0), (.int .i64 0)]) TI32 (Sizes.cons TI30 (Sizes.cons TI3 Sizes.nil)) rfl lnp rfl rfl (WL.u (o_stA TI32 h2 (show _ = Value.agg #[.int .i64 0, .int .i64 0] from rfl) rfl rfl hC2 rfl ?_))))
 intro wz hCz hoz hsz
 replace hx := hx.trans' hoz (fun _ h => h) (fun b hb he => by omega)
 refine Wc (Wm (retC rfl TI32 rfl h2 (show Cells _ c2 0 [.int .i64 0, .int .i64 0] from Cells.of hCz 0 _ (by simp)) rfl ?_))
 exact ⟨by rw [sc_ok htn hdn hno], hx⟩
end Go.Proofs.YtpbflfgigfdohaaDoor
