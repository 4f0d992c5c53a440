/-
  Walks and lemmas. Written by program out of specs of mine.
-/
import Derived.WalkKit
import Derived.WalkSpells
import Derived.WalkLawsBesides
import Derived.Deep.Quiet
import Derived.StillTail
import Derived.StringKeys
import Derived.Laws.StructEq
import Derived.Laws.Externs
import Derived.Laws.Tables
import Derived.Scope
import Derived.Test.YtgcehajdldicfaaProg
import Derived.Laws.AppendOwn
import Derived.Maps.AppendAt
import Derived.Recover
import Derived.Lib.Bytealg
import Derived.SizedLaws
import Derived.ChangeArms
import Derived.ChangeSlices
import Derived.Maps.OwnSet
import Derived.Test.YtgcehajdldicfaaRows
import Derived.ProofKit
import Derived.OpenShut
import Derived.ShutString
import Derived.ChangeOld
import Derived.Below
import Derived.Test.YtgcehajdldicfaaKe6
set_option linter.unusedSimpArgs false
set_option linter.unusedVariables false
set_option maxRecDepth 100000
set_option linter.unusedSimpArgs false
set_option linter.unusedVariables false
set_option maxRecDepth 100000
namespace Go.Proofs.Ytgcehajdldicfaa
open Go Go.Vc Go.RowKit Go.Proofs
set_option maxHeartbeats 4000000 in
theorem rdepth_spec (D : List Df) (T : Nat → Tr) (dv : Value) (V : Nat → Value) (w0 : World) (hD : DefR w0 D dv V) (hlim : DOk D) (hT : Trd D T) (hkn : kn9 D) (hac : ∀ i, i < D.length → ¬ Relation.TransGen (Us (usesD D)) i i) : Ca Try.prog 29 #[.agg #[dv]] w0 (fun v w' => w'.ownsRow w0.heap.size 3 1 v D.length (dps D.length (depN D T)) ∧ Ext w0 w') := by
  have hlen := hlim.len
  obtain ⟨hto, htl⟩ := ord_told hkn hac
  have h256 := hT.n
  obtain ⟨BB, hBB⟩ : ∃ B, B = w0.heap.size := ⟨_, rfl⟩
  rw [← hBB]
  have hD00 := hD
  refine Ca.of Try.func29 Try.ntmps29 rfl rfl ?_
  refine W.seq ?_
  refine W.region ?_
  refine WL.c rfl (o_boxB rfl ?_)
  intro w1 hC1 hx1 hs1
  obtain ⟨b1, hb1⟩ : ∃ b, b = w0.heap.size := ⟨_, rfl⟩
  rw [← hb1] at hC1 ⊢
  replace hC1 : w1.heap[b1]? = some (.cells ([dv]).toArray 24 (0, 0)) := hC1
  have hx := hx1
  replace hD := hD.ext hx1
  refine WL.c rfl (o_ash (by first | exact (show _ = Value.slice _ _ _ from rfl) | exact rfl) ?_)
  refine WL.nil ?_
  refine W.seq ?_
  refine W.region ?_
  refine WL.c rfl (o_fa 0 TI24 rfl TI22 rfl rfl ?_)
  refine WL.c rfl (o_ld TI22 rfl rfl (cell_of hC1 rfl) ?_)
  refine WL.c rfl (o_lenR TI22 rfl hD.row ?_)
  refine WL.c rfl (o_mk2 TI34 TI3 (l := D.length) (n := D.length) rfl rfl (Nat.le_refl _) (by omega) (by omega) ?_)
  have hrv := own_made1 (w := w1) (el := 3) (l := D.length) (n := D.length) (z := .int .i64 0) rfl (Nat.le_refl _) (by omega)
  have hxb : Ext w1 (w1.alloc (.cells (madeCells (Value.int .i64 0).cells (D.length * 1)) 3)) := Only.alloc w1 _
  generalize w1.alloc (.cells (madeCells (Value.int .i64 0).cells (D.length * 1)) 3) = wt at hrv hxb ⊢
  obtain ⟨ov, hov⟩ : ∃ o, o = Value.slice (some ⟨w1.heap.size, 0, none⟩) D.length D.length := ⟨_, rfl⟩
  rw [← hov] at hrv ⊢
  replace hrv : wt.ownsRow w1.heap.size 3 1 ov D.length (dps D.length (fun _ => 0)) := by rw [dps_zero]; exact hrv
  replace hrv := own_mono hrv (show BB ≤ w1.heap.size by rw [hBB]; exact hx.size)
  replace hx := hx.tr hxb
  replace hD := hD.ext hxb
  replace hC1 := hxb.blk hC1 (fun h => h)
  clear hxb hov
  refine WL.c rfl (o_ash (by first | exact (show _ = Value.slice _ _ _ from rfl) | exact rfl) ?_)
  refine WL.nil ?_
  refine W.seq ?_
  refine W.region ?_
  refine WL.c rfl (o_ldA TI24 rfl rfl (show Cells _ b1 0 [dv] from Cells.of hC1 0 _ (by simp)) rfl ?_)
  refine WL.c rfl (o_call Try.call30 (lc rfl ln) ((rorder_spec D dv V _ hD hlim (fun i hi => uses_lt hkn hi) hac).mono ?_))
  rintro v11 w11 ⟨hro, hx11⟩
  have hvb : ∀ b, ov.ownBlock = some b → b < wt.heap.size := fun b hb => (hrv.lt b hb).2
  obtain ⟨B2, hB2⟩ : ∃ B, B = wt.heap.size := ⟨_, rfl⟩
  rw [← hB2] at hro hvb
  have hzB : BB ≤ B2 := by rw [hB2, hBB]; exact hx.size
  replace hx := hx.tr hx11
  replace hD := hD.ext hx11
  replace hC1 := hx11.blk hC1 (fun h => h)
  replace hrv := own_ext hrv hx11
  clear hx11
  refine WL.c rfl (o_ash (by first | exact (show _ = Value.slice _ _ _ from rfl) | exact rfl) ?_)
  refine WL.nil ?_
  refine W.seq ?_
  refine W.seq ?_
  refine W.region ?_
  refine WL.c rfl (o_ash (show _ = Value.int _ _ from rfl) ?_)
  refine WL.nil ?_
  refine W.block ?_
  refine W.loop (fun e w => ∃ (k : Nat), k ≤ (ordN D).length ∧ e 1 = .pointer (some ⟨b1, 0, none⟩) ∧ e 3 = ov ∧ e 4 = v11 ∧ e 5 = .int .i64 (k : Int) ∧ w.ownsRow B2 3 1 v11 (ordN D).length ((ordN D).map iv) ∧ w.ownsRow BB 3 1 ov D.length (dps D.length (depO (whD D) T ((ordN D).take k) (fun _ => 0))) ∧ w.heap[b1]? = some (.cells #[dv] 24 (0, 0)) ∧ DefR w D dv V ∧ Ext w0 w) (fun e w => (ordN D).length - (intOf (e 5)).toNat) ?_ ?_
  · exact ⟨0, Nat.zero_le _, rfl, rfl, rfl, rfl, hro, hrv, hC1, hD, hx⟩
  rintro e w ⟨k, hk, h1, h3, h4, h5, hro, hrv, hC1, hD, hx⟩
  have hm5 := h5
  refine W.seq ?_
  refine W.seq ?_
  refine W.region ?_
  refine WL.c rfl (o_mvh h5 ?_)
  refine WL.c rfl (o_mvh h4 ?_)
  refine WL.c rfl (o_lenR TI34 rfl (Sl.own hro) ?_)
  refine WL.c rfl (o_lt rfl rfl ?_)
  refine WL.nil ?_
  refine W.cond rfl (fun c15 => ?_) (fun c15 => ?_)
  · try simp only [cs8] at c15
    have hk1 : k < (ordN D).length := by omega
    have hi : (ordN D)[k] < D.length := hto.lt _ (List.getElem_mem hk1)
    obtain ⟨ub, uo, uc, hV11, hcell⟩ := Sl.at1 (Sl.own hro) hk1 (u := iv (ordN D)[k]) (by rw [List.getElem?_map, List.getElem?_eq_getElem hk1]; rfl)
    rw [hV11] at h4
    obtain ⟨i, hie⟩ : ∃ i, i = (ordN D)[k] := ⟨_, rfl⟩
    rw [← hie] at hi hcell
    obtain ⟨gb, go, gc, hdv, hgc, hty⟩ := hD.atk hi
    obtain ⟨tb, tc, htv, htb⟩ := own_some hrv (by omega)
    obtain ⟨dp, hdp⟩ : ∃ f, f = depO (whD D) T ((ordN D).take k) (fun _ => 0) := ⟨_, rfl⟩
    rw [← hdp] at hrv
    have hdb : ∀ j, dp j ≤ 2305843009213693952 := fun j => by
      rw [hdp]
      refine Nat.le_trans (depO_le (n := D.length) (B := 1954687338212) (fun i hi => ?_) _ _ 0 (fun i hi => hto.lt i (List.mem_of_mem_take hi)) (fun _ => Nat.le_refl _) j) ?_
      · rw [hT.fl i hi, tyD_at hi]; have := hlim.ty _ (List.getElem_mem hi); omega
      · rw [List.length_take]; have : min k (ordN D).length ≤ 256 := by omega
        omega
    have hfl := hT.fl i hi
    rw [tyD_at hi] at hfl
    refine W.skip ?_
    refine W.seq ?_
    refine W.block ?_
    obtain ⟨wd, hwd⟩ : ∃ wd, wd = w.drew := ⟨_, rfl⟩
    have hxd : Ext w wd := hwd ▸ Only.drew w
    replace hx := hx.tr hxd
    replace hD := hD.ext hxd
    replace hC1 := hxd.blk hC1 (fun h => h)
    replace hty := hty.ext hxd
    replace hro := own_ext hro hxd
    replace hrv := own_ext hrv hxd
    replace hcell := hxd.cell hcell (fun h => h)
    replace hgc := Cells.only hgc hxd (fun h => h)
    have hcall := fun w9 (hR : Ext wd w9) => high_all D dp ov dv V hdb hlen _ (T i) (Nat.le_refl _) D[i].ty [] (V i) 0 0 0 w9 (hT.wf i hi) (by rw [hfl, List.append_nil]; rfl) (hty.ext hR) (hlim.ty _ (List.getElem_mem hi)) (fun x hx => (hlim.ex _ (List.getElem_mem hi) x hx).1) (fun x hx h9 => hkn _ (List.getElem_mem hi) x (by rw [← hfl]; exact hx) h9) (hD.ext hR) (Sl.own (own_ext hrv hR))
    have hcl := hC1
    rw [hdv] at hcl
    have h3s := h3
    rw [htv] at h3s
    refine W.drawT 17 (Ext) [(1, fun v _ => v = _), (3, fun v _ => v = _), (4, fun v _ => v = _), (5, fun v _ => v = _)] rfl (by kernel_rfl) (Only.refl No) (fun _ _ _ h k => h.trans k) ⟨Mono.eq, Mono.eq, Mono.eq, Mono.eq, trivial⟩ ⟨h1, h3, h4, h5, trivial⟩ ?_
    refine WD.p rfl (fun e w hR hh => by obtain ⟨h3, -⟩ := hh; exact SG.n (o_mvh h3 ⟨rfl, Only.refl No _⟩)) ?_
    refine WD.p rfl (fun e w hR hh => by obtain ⟨h4, -⟩ := hh; exact SG.n (o_mvh h4 ⟨rfl, Only.refl No _⟩)) ?_
    refine WD.p rfl (fun e w hR hh => by obtain ⟨h5, -⟩ := hh; exact SG.n (o_mvh h5 ⟨rfl, Only.refl No _⟩)) ?_
    refine WD.p rfl (fun e w hR hh => by obtain ⟨h20, h19, -⟩ := hh; exact SG.n (o_ixB (i := k) TI34 TI3 h19 h20 (by omega) ⟨rfl, Only.refl No _⟩)) ?_
    refine WD.p rfl (fun e w hR hh => by obtain ⟨h21, -⟩ := hh; rw [← hwd] at hR; exact SG.n (o_ld TI3 rfl h21 (show World.cell? _ _ = some (.int .i64 (i : Int)) from hR.cell hcell (fun h => h)) ⟨rfl, Only.refl No _⟩)) ?_
    refine WD.p rfl (fun e w hR hh => by obtain ⟨h1, -⟩ := hh; rw [← hwd] at hR; exact SG.n (o_ldA TI24 rfl h1 (show Cells _ b1 0 [dv] from Cells.of (hR.blk hC1 (fun h => h)) 0 _ (by simp)) rfl ⟨rfl, Only.refl No _⟩)) ?_
    refine WD.p rfl (fun e w hR hh => by obtain ⟨h1, -⟩ := hh; exact SG.n (o_fa 0 TI24 rfl TI22 rfl h1 ⟨rfl, Only.refl No _⟩)) ?_
    refine WD.p rfl (fun e w hR hh => by obtain ⟨h24, -⟩ := hh; rw [← hwd] at hR; exact SG.n (o_ld TI22 rfl h24 (cell_of (hR.blk hcl (fun h => h)) rfl) ⟨rfl, Only.refl No _⟩)) ?_
    refine WD.p rfl (fun e w hR hh => by obtain ⟨h4, -⟩ := hh; exact SG.n (o_mvh h4 ⟨rfl, Only.refl No _⟩)) ?_
    refine WD.p rfl (fun e w hR hh => by obtain ⟨h5, -⟩ := hh; exact SG.n (o_mvh h5 ⟨rfl, Only.refl No _⟩)) ?_
    refine WD.p rfl (fun e w hR hh => by obtain ⟨h27, h26, -⟩ := hh; exact SG.n (o_ixB (i := k) TI34 TI3 h26 h27 (by omega) ⟨rfl, Only.refl No _⟩)) ?_
    refine WD.p rfl (fun e w hR hh => by obtain ⟨h28, -⟩ := hh; rw [← hwd] at hR; exact SG.n (o_ld TI3 rfl h28 (show World.cell? _ _ = some (.int .i64 (i : Int)) from hR.cell hcell (fun h => h)) ⟨rfl, Only.refl No _⟩)) ?_
    refine WD.p rfl (fun e w hR hh => by obtain ⟨h29, h25, -⟩ := hh; exact SG.n (o_ixB (i := i) TI22 TI39 h25 h29 (by omega) ⟨rfl, Only.refl No _⟩)) ?_
    refine WD.p rfl (fun e w hR hh => by obtain ⟨h30, -⟩ := hh; exact SG.n (o_fa 2 TI39 rfl TI37 rfl h30 ⟨rfl, Only.refl No _⟩)) ?_
    refine WD.p rfl (fun e w hR hh => by obtain ⟨h31, -⟩ := hh; rw [← hwd] at hR; exact SG.n (o_ld TI37 rfl h31 (Cells.only hgc hR (fun h => h) 2 _ rfl) ⟨rfl, Only.refl No _⟩)) ?_
    refine WD.p rfl (fun e w hR hh => by obtain ⟨h3, -⟩ := hh; exact SG.n (o_mvh h3 ⟨rfl, Only.refl No _⟩)) ?_
    refine WD.p rfl (fun e w hR hh => by obtain ⟨h33, h32, h23, -⟩ := hh; rw [← hwd] at hR; exact SG.n (o_call Try.call47 (lc h23 (lc h32 (lc rfl (lc h33 ln)))) ((hcall _ hR).mono (fun v w' ⟨h1, h2⟩ => ⟨h1, h2⟩)))) ?_
    rintro e w hR ⟨h34, h33, h32, h31, h30, h29, h28, h27, h26, h25, h24, h23, h22, h21, h20, h19, h18, h1, h3, h4, h5, -⟩
    rw [← hwd] at hR
    replace hx := hx.tr hR
    replace hD := hD.ext hR
    replace hC1 := hR.blk hC1 (fun h => h)
    replace hro := own_ext hro hR
    replace hrv := own_ext hrv hR
    rw [htv] at h18
    refine WL.c rfl (o_ixB (i := i) TI34 TI3 (show _ = Value.slice (some ⟨tb, 0, none⟩) D.length tc from h18) h22 (by omega) ?_)
    refine WL.u (o_stRj TI3 rfl (show 0 + i * 1 = i by omega) (show _ = iv (depT (whD D) dp (T i)) from h34) rfl hrv (show Value.ownBlock ov = some tb from htb) (by omega) ?_)
    intro w49 hrvN ho49 hs49
    have hlo : ∀ b, ov.ownBlock = some b → BB ≤ b := fun b hb => (hrv.lt b hb).1
    replace hC1 := ho49.blk hC1 (fun hb => own_off hrv hC1 (by decide) hb)
    replace hro := own_only hro ho49 (fun b hb he => by have h1 := hvb b he; have h2 := (hro.lt b hb).1; omega)
    replace hx := hx.trans' ho49 (fun _ h => h) (fun b hb he => by have := hlo b he; omega)
    replace hD := hD00.ext hx
    rw [dps_set, hdp, hie] at hrvN
    clear hcall
    refine WL.nil ?_
    refine W.region ?_
    refine WL.c rfl (o_mvh h5 ?_)
    refine WL.c rfl (o_addi rfl rfl (by omega) ?_)
    refine WL.c rfl (o_ash (show _ = Value.int _ _ from rfl) ?_)
    refine WL.nil ?_
    refine ⟨⟨k + 1, by omega, h1, h3, h4.trans hV11.symm, rfl, hro, by rw [depO_take hk1]; exact hrvN, hC1, hD, hx⟩, ?_⟩
    show (ordN D).length - ((k : Int) + 1).toNat < _
    rw [hm5]; simp [intOf]; omega
  · try simp only [cs8] at c15
    have hk1 : k = (ordN D).length := by omega
    rw [hk1, List.take_length] at hrv
    refine W.exit ?_
    refine W.seq ?_
    refine W.region ?_
    refine WL.c rfl (o_mvh h3 ?_)
    refine WL.c rfl (o_ash (by first | exact (show _ = Value.slice _ _ _ from rfl) | exact rfl) ?_)
    refine WL.nil ?_
    refine W.ret ?_
    refine ret1v rfl rfl ?_
    exact ⟨hrv, hx⟩
end Go.Proofs.Ytgcehajdldicfaa

set_option linter.unusedSimpArgs false
set_option linter.unusedVariables false
set_option maxRecDepth 100000
namespace Go.Proofs.Ytgcehajdldicfaa
open Go Go.Vc Go.RowKit Go.Proofs

theorem resA_zero {D : List Df} (h : (chkS D).2.2 = 0) {er at_ : Int} (hr : (resF D (TD D)).getD (0, 0) = (er, at_)) : (¬ er = 0 → resA D = some (er, at_)) ∧ (er = 0 → resA D = none) := by
  rw [← resA_ok h] at hr
  cases hc : resA D with
  | none =>
    rw [hc] at hr
    have h1 : (0 : Int) = er := congrArg Prod.fst hr
    exact ⟨fun hn => absurd h1.symm hn, fun _ => rfl⟩
  | some v =>
    rw [hc] at hr
    have h1 : v = (er, at_) := hr
    subst h1
    have := fA_nz (fA_res hc)
    exact ⟨fun _ => rfl, fun he => by simp at this; omega⟩
theorem flt_eq {D : List Df} {v : Int × Int} (h : fA D = some v) : (flt D).1 = v.1 ∧ (flt D).2 = v.2 := by rw [flt_some h]; exact ⟨rfl, rfl⟩
theorem flt_zero {D : List Df} (h : fA D = none) : (flt D).1 = 0 ∧ (flt D).2 = 0 := by rw [flt_none h]; exact ⟨rfl, rfl⟩
theorem flt_iff {D : List Df} : (flt D).1 = 0 ↔ fA D = none := ⟨fun h => flt_good (er := (flt D).1) (at_ := (flt D).2) rfl h, fun h => (flt_zero h).1⟩

set_option maxHeartbeats 4000000 in
theorem rnames_check_spec (D : List Df) (dv : Value) (V : Nat → Value) (w0 : World) (hD : DefR w0 D dv V) (hlim : DOk D) : Ca Try.prog 15 #[.agg #[dv]] w0 (fun v w' => v = .tuple #[.int .i64 (flt D).1, .int .i64 (flt D).2] ∧ Ext w0 w') := by
  have hlen := hlim.len
  refine Ca.of Try.func15 Try.ntmps15 rfl rfl ?_
  refine W.seq ?_
  refine W.region ?_
  refine WL.c rfl (o_boxB rfl ?_)
  intro w1 hC1 hx1 hs1
  obtain ⟨b1, hb1⟩ : ∃ b, b = w0.heap.size := ⟨_, rfl⟩
  rw [← hb1] at hC1 ⊢
  replace hC1 : w1.heap[b1]? = some (.cells ([dv]).toArray 24 (0, 0)) := hC1
  have hx := hx1
  replace hD := hD.ext hx1
  refine WL.c rfl (o_ash (show _ = Value.int _ _ from rfl) ?_)
  refine WL.c rfl (o_ash (show _ = Value.int _ _ from rfl) ?_)
  refine WL.nil ?_
  refine W.seq ?_
  refine W.region ?_
  refine WL.c rfl (o_ldA TI24 rfl rfl (show Cells _ b1 0 [dv] from Cells.of hC1 0 _ (by simp)) rfl ?_)
  refine WL.c rfl (o_call Try.call26 (lc rfl ln) ((rcheck_spec D dv V _ hD hlim.lim).mono ?_))
  rintro v14 w14 ⟨rfl, hx14⟩
  rw [show rs3 (chkS D) = .tuple #[.int .i64 ((chkS D).1 : Int), .int .i64 ((chkS D).2.1 : Int), .int .i64 ((chkS D).2.2 : Int)] from rfl]
  replace hx := hx.tr hx14
  replace hD := hD.ext hx14
  replace hC1 := hx14.blk hC1 (fun h => h)
  refine WL.c rfl (o_mvh (by first | exact (show _ = Value.tuple _ from rfl) | exact rfl) ?_)
  refine WL.c rfl (o_ext rfl rfl ?_)
  refine WL.c rfl (o_ext rfl rfl ?_)
  refine WL.c rfl (o_ext rfl rfl ?_)
  refine WL.c rfl (o_ash (show _ = Value.int _ _ from rfl) ?_)
  refine WL.c rfl (o_ash (show _ = Value.int _ _ from rfl) ?_)
  refine WL.c rfl (o_ash (show _ = Value.int _ _ from rfl) ?_)
  refine WL.nil ?_
  refine W.seq ?_
  refine W.seq ?_
  refine W.region ?_
  refine WL.c rfl (o_mvh (show _ = Value.int _ _ from rfl) ?_)
  refine WL.c rfl (o_ne rfl rfl ?_)
  refine WL.nil ?_
  refine W.cond rfl (fun c19 => ?_) (fun c19 => ?_)
  · try simp only [cs8] at c19
    have hck : ¬ (chkS D).2.2 = 0 := by intro h; simp [h] at c19
    refine W.seq ?_
    refine W.region ?_
    refine WL.c rfl (o_ash (show _ = Value.int _ _ from rfl) ?_)
    refine WL.c rfl (o_ash (show _ = Value.int _ _ from rfl) ?_)
    refine WL.nil ?_
    refine W.ret ?_
    refine ret2v rfl (show _ = Value.int _ _ from rfl) (show _ = Value.int _ _ from rfl) ?_
    obtain ⟨hf1, hf2⟩ := flt_eq (fA_res (resA_src hck))
    exact ⟨by rw [hf1, hf2], hx⟩
  · try simp only [cs8] at c19
    have hck : (chkS D).2.2 = 0 := by
      have h1 : ((chkS D).2.2 : Int) = 0 := by simpa using c19
      omega
    have hT := trd_of hck
    refine W.skip ?_
    refine W.seq ?_
    refine W.region ?_
    refine WL.c rfl (o_ldA TI24 rfl rfl (show Cells _ b1 0 [dv] from Cells.of hC1 0 _ (by simp)) rfl ?_)
    refine WL.c rfl (o_call Try.call27 (lc rfl ln) ((doubles_spec D (TD D) dv V _ hD hlim hT).mono ?_))
    rintro v22 w22 ⟨er, at_, rfl, hres, hx22⟩
    obtain ⟨hr1, hr2⟩ := resA_zero hck hres
    replace hx := hx.tr hx22
    replace hD := hD.ext hx22
    replace hC1 := hx22.blk hC1 (fun h => h)
    refine WL.c rfl (o_mvh (by first | exact (show _ = Value.tuple _ from rfl) | exact rfl) ?_)
    refine WL.c rfl (o_ext rfl rfl ?_)
    refine WL.c rfl (o_ext rfl rfl ?_)
    refine WL.c rfl (o_ash (show _ = Value.int _ _ from rfl) ?_)
    refine WL.c rfl (o_ash (show _ = Value.int _ _ from rfl) ?_)
    refine WL.nil ?_
    refine W.seq ?_
    refine W.seq ?_
    refine W.region ?_
    refine WL.c rfl (o_mvh (show _ = Value.int _ _ from rfl) ?_)
    refine WL.c rfl (o_ne rfl rfl ?_)
    refine WL.nil ?_
    refine W.cond rfl (fun c26 => ?_) (fun c26 => ?_)
    · try simp only [cs8] at c26
      have hne : ¬ er = 0 := by simpa using c26
      refine W.seq ?_
      refine W.region ?_
      refine WL.c rfl (o_mvh (show _ = Value.int _ _ from rfl) ?_)
      refine WL.c rfl (o_mvh (show _ = Value.int _ _ from rfl) ?_)
      refine WL.c rfl (o_ash (show _ = Value.int _ _ from rfl) ?_)
      refine WL.c rfl (o_ash (show _ = Value.int _ _ from rfl) ?_)
      refine WL.nil ?_
      refine W.ret ?_
      refine ret2v rfl (show _ = Value.int _ _ from rfl) (show _ = Value.int _ _ from rfl) ?_
      obtain ⟨hf1, hf2⟩ := flt_eq (fA_res (hr1 hne))
      exact ⟨by rw [hf1, hf2], hx⟩
    · try simp only [cs8] at c26
      have her : er = 0 := by simpa using c26
      have hra := hr2 her
      have hkn := kn9_of hra hck
      have hU : ∀ i, i < D.length → ∀ j ∈ usesD D i, j < D.length := fun i hi => uses_lt hkn hi
      refine W.skip ?_
      refine W.seq ?_
      refine W.region ?_
      refine WL.c rfl (o_ldA TI24 rfl rfl (show Cells _ b1 0 [dv] from Cells.of hC1 0 _ (by simp)) rfl ?_)
      refine WL.c rfl (o_call Try.call28 (lc rfl ln) ((leads_spec D dv V _ hD hlim hU).mono ?_))
      rintro v30 w30 ⟨hl, hx30⟩
      replace hl := own_mono hl hx.size
      replace hx := hx.tr hx30
      replace hD := hD.ext hx30
      replace hC1 := hx30.blk hC1 (fun h => h)
      refine WL.c rfl (o_ash (by first | exact (show _ = Value.slice _ _ _ from rfl) | exact rfl) ?_)
      refine WL.nil ?_
      refine W.seq ?_
      refine W.seq ?_
      refine W.region ?_
      refine WL.c rfl (o_ash (show _ = Value.int _ _ from rfl) ?_)
      refine WL.nil ?_
      refine W.block ?_
      refine W.loop (fun e w => ∃ i : Nat, i ≤ D.length ∧ e 1 = .pointer (some ⟨b1, 0, none⟩) ∧ e 8 = v30 ∧ e 9 = .int .i64 (i : Int) ∧ (∀ j, j < i → ¬ Relation.TransGen (Us (usesD D)) j j) ∧ w.ownsRow w0.heap.size 4 1 v30 D.length ((List.range D.length).map fun d => Value.bool (warN D D.length d d)) ∧ DefR w D dv V ∧ w.heap[b1]? = some (.cells #[dv] 24 (0, 0)) ∧ Ext w0 w) (fun e w => D.length - (intOf (e 9)).toNat) ?_ ?_
      · exact ⟨0, Nat.zero_le _, rfl, rfl, rfl, fun j hj => by omega, hl, hD, hC1, hx⟩
      rintro e w ⟨i, hi, h1, h8, h9, hno, hl, hD, hC1, hx⟩
      have hm9 := h9
      refine W.seq ?_
      refine W.seq ?_
      refine W.region ?_
      refine WL.c rfl (o_mvh h9 ?_)
      refine WL.c rfl (o_mvh h8 ?_)
      refine WL.c rfl (o_lenR TI46 rfl (Sl.own hl) ?_)
      refine WL.c rfl (o_lt rfl rfl ?_)
      refine WL.nil ?_
      refine W.cond rfl (fun c34 => ?_) (fun c34 => ?_)
      · try simp only [cs8] at c34
        have hi1 : i < D.length := by omega
        obtain ⟨tb, to_, tc, rfl, htc, hty⟩ := hD.atk hi1
        obtain ⟨ub, uo, uc, hVl, hcell⟩ := Sl.at1 (Sl.own hl) hi1 (u := .bool (warN D D.length i i)) (by rw [List.getElem?_map, List.getElem?_range hi1]; rfl)
        rw [hVl] at h8
        have hwi := war_iff hU (b := i) hi1
        refine W.skip ?_
        refine W.seq ?_
        refine W.block ?_
        refine W.seq ?_
        refine W.region ?_
        refine WL.c rfl (o_mvh h8 ?_)
        refine WL.c rfl (o_mvh h9 ?_)
        refine WL.c rfl (o_ixB (i := i) TI46 TI4 (show _ = Value.slice (some ⟨ub, uo, none⟩) D.length uc from rfl) (show _ = Value.int .i64 (i : Int) from rfl) (by omega) ?_)
        refine WL.c rfl (o_ld TI4 rfl rfl hcell ?_)
        refine WL.nil ?_
        refine W.cond rfl (fun c40 => ?_) (fun c40 => ?_)
        · try simp only [cs8] at c40
          have hring := hwi.1 c40
          refine W.seq ?_
          refine W.quiet rfl (by kernel_rfl) ?_
          refine WQ.c rfl ((QO.o rfl fun _ => o_fa 0 TI24 rfl TI22 rfl h1 ⟨rfl, rfl⟩)) ?_
          refine WQ.c rfl ((QO.o rfl fun _ => o_ld TI22 rfl rfl (cell_of hC1 rfl) ⟨rfl, rfl⟩)) ?_
          refine WQ.c rfl ((QO.o rfl fun _ => o_mvh h9 ⟨rfl, rfl⟩)) ?_
          refine WQ.c rfl ((QO.o rfl fun _ => o_ixB (i := i) TI22 TI39 (show _ = Value.slice (some ⟨tb, to_, none⟩) D.length tc from rfl) (show _ = Value.int .i64 (i : Int) from rfl) (by omega) ⟨rfl, rfl⟩)) ?_
          refine WQ.c rfl ((QO.o rfl fun _ => o_fa 1 TI39 rfl TI3 rfl rfl ⟨rfl, rfl⟩)) ?_
          refine WQ.c rfl ((QO.o rfl fun _ => o_ld TI3 rfl rfl (htc 1 _ rfl) ⟨rfl, rfl⟩)) ?_
          refine WQ.c rfl ((QO.o rfl fun _ => o_ash (show _ = Value.int _ _ from rfl) ⟨rfl, rfl⟩)) ?_
          refine WQ.c rfl ((QO.o rfl fun _ => o_ash (show _ = Value.int _ _ from rfl) ⟨rfl, rfl⟩)) ?_
          refine WQ.nil ?_
          intro nq
          replace hx := hx.tr (Only.drewN _ nq)
          refine W.ret ?_
          refine ret2v rfl (show _ = Value.int _ _ from rfl) (show _ = Value.int _ _ from rfl) ?_
          obtain ⟨hf1, hf2⟩ := flt_eq (fA_ring hra hi1 hring hno)
          exact ⟨by rw [hf1, hf2], hx⟩
        · try simp only [cs8] at c40
          have hnr : ¬ Relation.TransGen (Us (usesD D)) i i := fun h => by have := hwi.2 h; rw [this] at c40; cases c40
          refine W.skip ?_
          refine W.region ?_
          refine WL.c rfl (o_mvh h9 ?_)
          refine WL.c rfl (o_addi rfl rfl (by omega) ?_)
          refine WL.c rfl (o_ash (show _ = Value.int _ _ from rfl) ?_)
          refine WL.nil ?_
          refine ⟨⟨i + 1, by omega, h1, h8.trans hVl.symm, rfl, fun j hj => ?_, hl, hD, hC1, hx⟩, ?_⟩
          · rcases Nat.lt_or_ge j i with h | h
            · exact hno j h
            · rw [show j = i by omega]; exact hnr
          · show D.length - ((i : Int) + 1).toNat < _
            rw [hm9]; simp [intOf]; omega
      · try simp only [cs8] at c34
        have hi1 : i = D.length := by omega
        rw [hi1] at hno
        have hrn := ring_none hno
        refine W.exit ?_
        refine W.seq ?_
        refine W.region ?_
        refine WL.c rfl (o_ldA TI24 rfl h1 (show Cells _ b1 0 [dv] from Cells.of hC1 0 _ (by simp)) rfl ?_)
        refine WL.c rfl (o_call Try.call29 (lc rfl ln) ((rdepth_spec D (TD D) dv V _ hD hlim hT hkn hno).mono ?_))
        rintro v48 w48 ⟨hdp, hx48⟩
        replace hdp := own_mono hdp hx.size
        replace hx := hx.tr hx48
        replace hD := hD.ext hx48
        replace hC1 := hx48.blk hC1 (fun h => h)
        refine WL.c rfl (o_ash (by first | exact (show _ = Value.slice _ _ _ from rfl) | exact rfl) ?_)
        refine WL.nil ?_
        refine W.seq ?_
        refine W.seq ?_
        refine W.region ?_
        refine WL.c rfl (o_ash (show _ = Value.int _ _ from rfl) ?_)
        refine WL.nil ?_
        refine W.block ?_
        refine W.loop (fun e w => ∃ i : Nat, i ≤ D.length ∧ e 1 = .pointer (some ⟨b1, 0, none⟩) ∧ e 10 = v48 ∧ e 11 = .int .i64 (i : Int) ∧ (∀ j, j < i → ¬ 64 < depN D (TD D) j) ∧ w.ownsRow w0.heap.size 3 1 v48 D.length (dps D.length (depN D (TD D))) ∧ DefR w D dv V ∧ w.heap[b1]? = some (.cells #[dv] 24 (0, 0)) ∧ Ext w0 w) (fun e w => D.length - (intOf (e 11)).toNat) ?_ ?_
        · exact ⟨0, Nat.zero_le _, h1, rfl, rfl, fun j hj => by omega, hdp, hD, hC1, hx⟩
        rintro e w ⟨i, hi, h1, h10, h11, hnd, hdp, hD, hC1, hx⟩
        have hm11 := h11
        refine W.seq ?_
        refine W.seq ?_
        refine W.region ?_
        refine WL.c rfl (o_mvh h11 ?_)
        refine WL.c rfl (o_mvh h10 ?_)
        refine WL.c rfl (o_lenR TI34 rfl (Sl.own hdp) ?_)
        refine WL.c rfl (o_lt rfl rfl ?_)
        refine WL.nil ?_
        refine W.cond rfl (fun c52 => ?_) (fun c52 => ?_)
        · try simp only [cs8] at c52
          have hi1 : i < D.length := by omega
          obtain ⟨tb, to_, tc, rfl, htc, hty⟩ := hD.atk hi1
          obtain ⟨ub, uo, uc, hVd, hcell⟩ := Sl.at1 (Sl.own hdp) hi1 (dps_at hi1)
          rw [hVd] at h10
          refine W.skip ?_
          refine W.seq ?_
          refine W.block ?_
          refine W.seq ?_
          refine W.region ?_
          refine WL.c rfl (o_mvh h10 ?_)
          refine WL.c rfl (o_mvh h11 ?_)
          refine WL.c rfl (o_ixB (i := i) TI34 TI3 (show _ = Value.slice (some ⟨ub, uo, none⟩) D.length uc from rfl) (show _ = Value.int .i64 (i : Int) from rfl) (by omega) ?_)
          refine WL.c rfl (o_ld TI3 rfl rfl (show World.cell? _ _ = some (.int .i64 (depN D (TD D) i : Int)) from hcell) ?_)
          refine WL.c rfl (o_gt rfl rfl ?_)
          refine WL.nil ?_
          refine W.cond rfl (fun c59 => ?_) (fun c59 => ?_)
          · try simp only [cs8] at c59
            have hdeep : 64 < depN D (TD D) i := by omega
            refine W.seq ?_
            refine W.quiet rfl (by kernel_rfl) ?_
            refine WQ.c rfl ((QO.o rfl fun _ => o_fa 0 TI24 rfl TI22 rfl h1 ⟨rfl, rfl⟩)) ?_
            refine WQ.c rfl ((QO.o rfl fun _ => o_ld TI22 rfl rfl (cell_of hC1 rfl) ⟨rfl, rfl⟩)) ?_
            refine WQ.c rfl ((QO.o rfl fun _ => o_mvh h11 ⟨rfl, rfl⟩)) ?_
            refine WQ.c rfl ((QO.o rfl fun _ => o_ixB (i := i) TI22 TI39 (show _ = Value.slice (some ⟨tb, to_, none⟩) D.length tc from rfl) (show _ = Value.int .i64 (i : Int) from rfl) (by omega) ⟨rfl, rfl⟩)) ?_
            refine WQ.c rfl ((QO.o rfl fun _ => o_fa 1 TI39 rfl TI3 rfl rfl ⟨rfl, rfl⟩)) ?_
            refine WQ.c rfl ((QO.o rfl fun _ => o_ld TI3 rfl rfl (htc 1 _ rfl) ⟨rfl, rfl⟩)) ?_
            refine WQ.c rfl ((QO.o rfl fun _ => o_ash (show _ = Value.int _ _ from rfl) ⟨rfl, rfl⟩)) ?_
            refine WQ.c rfl ((QO.o rfl fun _ => o_ash (show _ = Value.int _ _ from rfl) ⟨rfl, rfl⟩)) ?_
            refine WQ.nil ?_
            intro nq
            replace hx := hx.tr (Only.drewN _ nq)
            refine W.ret ?_
            refine ret2v rfl (show _ = Value.int _ _ from rfl) (show _ = Value.int _ _ from rfl) ?_
            obtain ⟨hf1, hf2⟩ := flt_eq (fA_deep hra hrn hi1 hdeep hnd)
            exact ⟨by rw [hf1, hf2], hx⟩
          · try simp only [cs8] at c59
            have hdeep : ¬ 64 < depN D (TD D) i := by omega
            refine W.skip ?_
            refine W.region ?_
            refine WL.c rfl (o_mvh h11 ?_)
            refine WL.c rfl (o_addi rfl rfl (by omega) ?_)
            refine WL.c rfl (o_ash (show _ = Value.int _ _ from rfl) ?_)
            refine WL.nil ?_
            refine ⟨⟨i + 1, by omega, h1, h10.trans hVd.symm, rfl, fun j hj => ?_, hdp, hD, hC1, hx⟩, ?_⟩
            · rcases Nat.lt_or_ge j i with h | h
              · exact hnd j h
              · rw [show j = i by omega]; exact hdeep
            · show D.length - ((i : Int) + 1).toNat < _
              rw [hm11]; simp [intOf]; omega
        · try simp only [cs8] at c52
          have hi1 : i = D.length := by omega
          rw [hi1] at hnd
          have hfn := fA_none hra hrn hnd
          refine W.exit ?_
          refine W.seq ?_
          refine W.region ?_
          refine WL.c rfl (o_ash (show _ = Value.int _ _ from rfl) ?_)
          refine WL.c rfl (o_ash (show _ = Value.int _ _ from rfl) ?_)
          refine WL.nil ?_
          refine W.ret ?_
          refine ret2v rfl (show _ = Value.int _ _ from rfl) (show _ = Value.int _ _ from rfl) ?_
          obtain ⟨hf1, hf2⟩ := flt_zero hfn
          exact ⟨by rw [hf1, hf2], hx⟩
set_option maxHeartbeats 1000000 in
theorem rnames_order_spec (D : List Df) (dv : Value) (V : Nat → Value) (w0 : World) (hD : DefR w0 D dv V) (hlim : DOk D) : Ca Try.prog 16 #[.agg #[dv]] w0 (fun v w' => ∃ ov, v = .tuple #[ov, .int .i64 (flt D).1, .int .i64 (flt D).2] ∧ w'.ownsRow w0.heap.size 3 1 ov (ordR D).length ((ordR D).map iv) ∧ Ext w0 w') := by
  refine Ca.of Try.func16 Try.ntmps16 rfl rfl ?_
  refine W.seq ?_
  refine W.region ?_
  refine WL.c rfl (o_boxB rfl ?_)
  intro w1 hC1 hx1 hs1
  obtain ⟨b1, hb1⟩ : ∃ b, b = w0.heap.size := ⟨_, rfl⟩
  rw [← hb1] at hC1 ⊢
  replace hC1 : w1.heap[b1]? = some (.cells ([dv]).toArray 24 (0, 0)) := hC1
  have hx := hx1
  replace hD := hD.ext hx1
  refine WL.c rfl (o_ash (by first | exact (show _ = Value.slice _ _ _ from rfl) | exact rfl) ?_)
  refine WL.c rfl (o_ash (show _ = Value.int _ _ from rfl) ?_)
  refine WL.c rfl (o_ash (show _ = Value.int _ _ from rfl) ?_)
  refine WL.nil ?_
  refine W.seq ?_
  refine W.region ?_
  refine WL.c rfl (o_ldA TI24 rfl rfl (show Cells _ b1 0 [dv] from Cells.of hC1 0 _ (by simp)) rfl ?_)
  refine WL.c rfl (o_call Try.call15 (lc rfl ln) ((rnames_check_spec D dv V _ hD hlim).mono ?_))
  rintro v9 w9 ⟨rfl, hx9⟩
  replace hx := hx.tr hx9
  replace hD := hD.ext hx9
  replace hC1 := hx9.blk hC1 (fun h => h)
  refine WL.c rfl (o_mvh (by first | exact (show _ = Value.tuple _ from rfl) | exact rfl) ?_)
  refine WL.c rfl (o_ext rfl rfl ?_)
  refine WL.c rfl (o_ext rfl rfl ?_)
  refine WL.c rfl (o_ash (show _ = Value.int _ _ from rfl) ?_)
  refine WL.c rfl (o_ash (show _ = Value.int _ _ from rfl) ?_)
  refine WL.nil ?_
  refine W.seq ?_
  refine W.seq ?_
  refine W.region ?_
  refine WL.c rfl (o_mvh (show _ = Value.int _ _ from rfl) ?_)
  refine WL.c rfl (o_ne rfl rfl ?_)
  refine WL.nil ?_
  refine W.cond rfl (fun c13 => ?_) (fun c13 => ?_)
  · try simp only [cs8] at c13
    have hne : ¬ fA D = none := fun h => by have := flt_iff.2 h; simp [this] at c13
    refine W.seq ?_
    refine W.region ?_
    refine WL.c rfl (o_mvh (show _ = Value.int _ _ from rfl) ?_)
    refine WL.c rfl (o_mvh (show _ = Value.int _ _ from rfl) ?_)
    refine WL.c rfl (o_ash (by first | exact (show _ = Value.slice _ _ _ from rfl) | exact rfl) ?_)
    refine WL.c rfl (o_ash (show _ = Value.int _ _ from rfl) ?_)
    refine WL.c rfl (o_ash (show _ = Value.int _ _ from rfl) ?_)
    refine WL.nil ?_
    refine W.ret ?_
    refine ret3v rfl rfl (show _ = Value.int _ _ from rfl) (show _ = Value.int _ _ from rfl) ?_
    subst hb1
    exact ⟨_, rfl, by rw [ordR_bad hne]; exact World.ownsRow_nil _ _ _ _, hx⟩
  · try simp only [cs8] at c13
    have hfn : fA D = none := flt_iff.1 (by simpa using c13)
    have hg := good_of hfn
    obtain ⟨hf1, hf2⟩ := flt_zero hfn
    refine W.skip ?_
    refine W.seq ?_
    refine W.region ?_
    refine WL.c rfl (o_ldA TI24 rfl rfl (show Cells _ b1 0 [dv] from Cells.of hC1 0 _ (by simp)) rfl ?_)
    refine WL.c rfl (o_call Try.call30 (lc rfl ln) ((rorder_spec D dv V _ hD hlim (fun i hi => uses_lt hg.kn hi) hg.ac).mono ?_))
    rintro v17 w17 ⟨hu, hx17⟩
    replace hu := own_mono hu hx.size
    replace hx := hx.tr hx17
    replace hD := hD.ext hx17
    replace hC1 := hx17.blk hC1 (fun h => h)
    refine WL.c rfl (o_ash (by first | exact (show _ = Value.slice _ _ _ from rfl) | exact rfl) ?_)
    refine WL.c rfl (o_ash (show _ = Value.int _ _ from rfl) ?_)
    refine WL.c rfl (o_ash (show _ = Value.int _ _ from rfl) ?_)
    refine WL.nil ?_
    refine W.ret ?_
    refine ret3v rfl rfl (show _ = Value.int _ _ from rfl) (show _ = Value.int _ _ from rfl) ?_
    subst hb1
    exact ⟨_, by rw [hf1, hf2], by rw [ordR_ok hfn]; exact hu, hx⟩
set_option maxHeartbeats 1000000 in
theorem rnames_depth_spec (D : List Df) (dv : Value) (V : Nat → Value) (w0 : World) (hD : DefR w0 D dv V) (hlim : DOk D) : Ca Try.prog 17 #[.agg #[dv]] w0 (fun v w' => ∃ ov, v = .tuple #[ov, .int .i64 (flt D).1, .int .i64 (flt D).2] ∧ w'.ownsRow w0.heap.size 3 1 ov (depR D).length ((depR D).map iv) ∧ Ext w0 w') := by
  refine Ca.of Try.func17 Try.ntmps17 rfl rfl ?_
  refine W.seq ?_
  refine W.region ?_
  refine WL.c rfl (o_boxB rfl ?_)
  intro w1 hC1 hx1 hs1
  obtain ⟨b1, hb1⟩ : ∃ b, b = w0.heap.size := ⟨_, rfl⟩
  rw [← hb1] at hC1 ⊢
  replace hC1 : w1.heap[b1]? = some (.cells ([dv]).toArray 24 (0, 0)) := hC1
  have hx := hx1
  replace hD := hD.ext hx1
  refine WL.c rfl (o_ash (by first | exact (show _ = Value.slice _ _ _ from rfl) | exact rfl) ?_)
  refine WL.c rfl (o_ash (show _ = Value.int _ _ from rfl) ?_)
  refine WL.c rfl (o_ash (show _ = Value.int _ _ from rfl) ?_)
  refine WL.nil ?_
  refine W.seq ?_
  refine W.region ?_
  refine WL.c rfl (o_ldA TI24 rfl rfl (show Cells _ b1 0 [dv] from Cells.of hC1 0 _ (by simp)) rfl ?_)
  refine WL.c rfl (o_call Try.call15 (lc rfl ln) ((rnames_check_spec D dv V _ hD hlim).mono ?_))
  rintro v9 w9 ⟨rfl, hx9⟩
  replace hx := hx.tr hx9
  replace hD := hD.ext hx9
  replace hC1 := hx9.blk hC1 (fun h => h)
  refine WL.c rfl (o_mvh (by first | exact (show _ = Value.tuple _ from rfl) | exact rfl) ?_)
  refine WL.c rfl (o_ext rfl rfl ?_)
  refine WL.c rfl (o_ext rfl rfl ?_)
  refine WL.c rfl (o_ash (show _ = Value.int _ _ from rfl) ?_)
  refine WL.c rfl (o_ash (show _ = Value.int _ _ from rfl) ?_)
  refine WL.nil ?_
  refine W.seq ?_
  refine W.seq ?_
  refine W.region ?_
  refine WL.c rfl (o_mvh (show _ = Value.int _ _ from rfl) ?_)
  refine WL.c rfl (o_ne rfl rfl ?_)
  refine WL.nil ?_
  refine W.cond rfl (fun c13 => ?_) (fun c13 => ?_)
  · try simp only [cs8] at c13
    have hne : ¬ fA D = none := fun h => by have := flt_iff.2 h; simp [this] at c13
    refine W.seq ?_
    refine W.region ?_
    refine WL.c rfl (o_mvh (show _ = Value.int _ _ from rfl) ?_)
    refine WL.c rfl (o_mvh (show _ = Value.int _ _ from rfl) ?_)
    refine WL.c rfl (o_ash (by first | exact (show _ = Value.slice _ _ _ from rfl) | exact rfl) ?_)
    refine WL.c rfl (o_ash (show _ = Value.int _ _ from rfl) ?_)
    refine WL.c rfl (o_ash (show _ = Value.int _ _ from rfl) ?_)
    refine WL.nil ?_
    refine W.ret ?_
    refine ret3v rfl rfl (show _ = Value.int _ _ from rfl) (show _ = Value.int _ _ from rfl) ?_
    subst hb1
    exact ⟨_, rfl, by rw [depR_bad hne]; exact World.ownsRow_nil _ _ _ _, hx⟩
  · try simp only [cs8] at c13
    have hfn : fA D = none := flt_iff.1 (by simpa using c13)
    have hg := good_of hfn
    obtain ⟨hf1, hf2⟩ := flt_zero hfn
    refine W.skip ?_
    refine W.seq ?_
    refine W.region ?_
    refine WL.c rfl (o_ldA TI24 rfl rfl (show Cells _ b1 0 [dv] from Cells.of hC1 0 _ (by simp)) rfl ?_)
    refine WL.c rfl (o_call Try.call29 (lc rfl ln) ((rdepth_spec D (TD D) dv V _ hD hlim hg.trd hg.kn hg.ac).mono ?_))
    rintro v17 w17 ⟨hu, hx17⟩
    replace hu := own_mono hu hx.size
    replace hx := hx.tr hx17
    replace hD := hD.ext hx17
    replace hC1 := hx17.blk hC1 (fun h => h)
    refine WL.c rfl (o_ash (by first | exact (show _ = Value.slice _ _ _ from rfl) | exact rfl) ?_)
    refine WL.c rfl (o_ash (show _ = Value.int _ _ from rfl) ?_)
    refine WL.c rfl (o_ash (show _ = Value.int _ _ from rfl) ?_)
    refine WL.nil ?_
    refine W.ret ?_
    refine ret3v rfl rfl (show _ = Value.int _ _ from rfl) (show _ = Value.int _ _ from rfl) ?_
    subst hb1
    exact ⟨_, by rw [hf1, hf2], by rw [depR_ok hfn, List.length_map, List.length_range, ← dps_map]; exact hu, hx⟩
end Go.Proofs.Ytgcehajdldicfaa

set_option linter.unusedSimpArgs false
set_option linter.unusedVariables false
set_option maxRecDepth 100000
namespace Go.Proofs.Ytgcehajdldicfaa
open Go Go.Vc Go.RowKit Go.Proofs

theorem ord_le (D : List Df) : (ordR D).length ≤ D.length := by
  unfold ordR
  split
  · rename_i hf
    exact Nat.le_of_eq (good_of hf).ord.2
  · exact Nat.zero_le _
theorem dep_le2 (D : List Df) : (depR D).length ≤ D.length := by
  unfold depR
  split
  · rw [List.length_map, List.length_range]; exact Nat.le_refl _
  · exact Nat.zero_le _
def gq (q : Nat) : Nat := 4 * (q / 2) + q % 2
def wq (q : Nat) : Nat := gq q + 2
end Go.Proofs.Ytgcehajdldicfaa

set_option linter.unusedSimpArgs false
set_option linter.unusedVariables false
set_option maxRecDepth 100000
namespace Go.Proofs.Ytgcehajdldicfaa
open Go Go.Vc Go.RowKit Go.Proofs

def digN (n : Nat) : List UInt8 := if h : n < 10 then [UInt8.ofNat (48 + n)] else digN (n / 10) ++ [UInt8.ofNat (48 + n % 10)]
termination_by n
decreasing_by omega
/-- the new name number k -/
def zqN (k : Nat) : List UInt8 := [122, 113] ++ digN k
/-- a name, or a label, turned -/
def rnS (L : List (List UInt8)) (s : List UInt8) : List UInt8 := if s = [] then [] else zqN (L.idxOf s)
def rnE (A B : List (List UInt8)) (x : Ex) : Ex := { x with name := rnS A x.name, label := rnS B x.label }
def inE (A B : List (List UInt8)) (x : Ex) : Prop := (x.name = [] ∨ x.name ∈ A) ∧ (x.label = [] ∨ x.label ∈ B)
def inD (A B : List (List UInt8)) (d : Df) : Prop := d.name ∈ A ∧ ∀ x ∈ d.ty, inE A B x
mutual
theorem tr_right : ∀ {T : Tr} {a : Int} {d : Nat}, T.wf a d → ∀ x ∈ T.flat, ∃ above, rightB x above = true
  | .node y ks, a, d, h, x, hx => by
    rcases List.mem_cons.1 hx with rfl | hx
    · exact ⟨a, h.2.2.1⟩
    · exact trs_right h.2.2.2.2 x hx
theorem trs_right : ∀ {T : Trs} {a : Int} {d : Nat}, T.wf a d → ∀ x ∈ T.flat, ∃ above, rightB x above = true
  | .nil, _, _, _, x, hx => by cases hx
  | .cons t ts, a, d, h, x, hx => by
    rcases List.mem_append.1 hx with hx | hx
    · exact tr_right h.1 x hx
    · exact trs_right h.2 x hx
end
section
variable {D : List Df} {A B : List (List UInt8)} (hck : (chkS D).2.2 = 0) (hin : ∀ d ∈ D, inD A B d)
include hck hin
end

end Go.Proofs.Ytgcehajdldicfaa

set_option linter.unusedSimpArgs false
set_option linter.unusedVariables false
set_option maxRecDepth 100000
namespace Go.Proofs.Ytgcehajdldicfaa
open Go Go.Vc Go.RowKit Go.Proofs

mutual
theorem depT_sim {S : Ex → Ex → Prop} (hS : ∀ x x', S x x' → Sx x x') {wh wh' : List UInt8 → Nat} {dp dq : Nat → Nat} : ∀ (t u : Tr), TSim S t u → (∀ x ∈ t.flat, ∀ x', S x x' → x.kind = 9 → dq (wh' x'.name) = dp (wh x.name)) → depT wh' dq u = depT wh dp t
  | .node y ks, .node z ls, h, hn => by
    unfold TSim at h
    unfold depT
    rw [(hS _ _ h.1).kind]
    by_cases h9 : y.kind = 9
    · rw [if_pos h9, if_pos h9]
      exact hn y (List.mem_cons_self ..) z h.1 h9
    · rw [if_neg h9, if_neg h9, depK_sim hS ks ls 0 h.2 (fun x hx => hn x (List.mem_cons_of_mem _ hx))]
theorem depK_sim {S : Ex → Ex → Prop} (hS : ∀ x x', S x x' → Sx x x') {wh wh' : List UInt8 → Nat} {dp dq : Nat → Nat} : ∀ (t u : Trs) (m : Nat), TsSim S t u → (∀ x ∈ t.flat, ∀ x', S x x' → x.kind = 9 → dq (wh' x'.name) = dp (wh x.name)) → depK wh' dq u m = depK wh dp t m
  | .nil, .nil, _, _, _ => rfl
  | .nil, .cons t ts, _, h, _ => by unfold TsSim at h; exact h.elim
  | .cons t ts, .nil, _, h, _ => by unfold TsSim at h; exact h.elim
  | .cons t ts, .cons u us, m, h, hn => by
    unfold TsSim at h
    unfold depK
    rw [depT_sim hS t u h.1 (fun x hx => hn x (List.mem_append_left _ hx)), depK_sim hS ts us _ h.2 (fun x hx => hn x (List.mem_append_right _ hx))]
end
section
variable {D : List Df} {A B : List (List UInt8)} (hck : (chkS D).2.2 = 0) (hin : ∀ d ∈ D, inD A B d)
include hck hin
end
section
variable {D : List Df} {A B : List (List UInt8)} (hck : (chkS D).2.2 = 0) (hin : ∀ d ∈ D, inD A B d) (hA : A.length < 10 ^ 30) (hB : B.length < 10 ^ 30)
include hck hin hA hB
end
end Go.Proofs.Ytgcehajdldicfaa

set_option linter.unusedSimpArgs false
set_option linter.unusedVariables false
set_option maxRecDepth 100000
namespace Go.Proofs.Ytgcehajdldicfaa
open Go Go.Vc Go.RowKit Go.Proofs

/-- a list of names that the call owns: its cell, its row -/
structure NL (w : World) (p H : Nat) (lv : Value) (L : List (List UInt8)) : Prop where
  cell : w.heap[p]? = some (.cells #[lv] 69 (0, 0))
  row : w.ownsRow H 9 1 lv L.length (L.map st)
theorem NL.ext {w w' : World} {p H : Nat} {lv : Value} {L : List (List UInt8)} (h : NL w p H lv L) (ho : Ext w w') : NL w' p H lv L := ⟨ho.blk h.cell (fun h => h), own_ext h.row ho⟩
theorem NL.only {w w' : World} {F : Nat → Prop} {p H : Nat} {lv : Value} {L : List (List UInt8)} (h : NL w p H lv L) (ho : Only F w w') (h1 : ¬ F p) (h2 : ∀ k, lv.ownBlock = some k → ¬ F k) : NL w' p H lv L := ⟨ho.blk h.cell h1, own_only h.row ho h2⟩
section
open Go.Vc
variable {P : Program} {e : Env} {w : World} {K : Value → World → Prop} {t u ty : TypeId} {x y : Operand}
end

end Go.Proofs.Ytgcehajdldicfaa

set_option linter.unusedSimpArgs false
set_option linter.unusedVariables false
set_option maxRecDepth 100000
namespace Go.Proofs.Ytgcehajdldicfaa
open Go Go.Vc Go.RowKit Go.Proofs
def setN (D : List Df) (k : Nat) (nm : List UInt8) : List Df := D.set k { D.getD k df0 with name := nm }
theorem setN_len (D : List Df) (k : Nat) (nm : List UInt8) : (setN D k nm).length = D.length := by rw [setN, List.length_set]
theorem setN_at {D : List Df} {k : Nat} {nm : List UInt8} (hk : k < D.length) (j : Nat) : (setN D k nm).getD j df0 = if j = k then { D.getD k df0 with name := nm } else D.getD j df0 := by
  rw [setN, List.getD_eq_getElem?_getD, List.getElem?_set]
  by_cases h : k = j
  · subst h; simp [hk]
  · rw [if_neg h, if_neg (fun hh => h hh.symm), List.getD_eq_getElem?_getD]
theorem fm_set {f g : Nat → List Value} {k c : Nat} {u : Value} (hf : ∀ j, (f j).length = 3) (hg : ∀ j, ¬ j = k → g j = f j) (hk : g k = (f k).set c u) (hc : c < 3) : ∀ n, k < n → ((List.range n).flatMap f).set (k * 3 + c) u = (List.range n).flatMap g
  | 0, h => by omega
  | n + 1, h => by
    have hl : ((List.range n).flatMap f).length = n * 3 := by
      have : ∀ l : List Nat, (l.flatMap f).length = l.length * 3 := by
        intro l
        induction l with
        | nil => rfl
        | cons a l ih => rw [List.flatMap_cons, List.length_append, ih, hf, List.length_cons]; omega
      rw [this, List.length_range]
    rw [List.range_succ, List.flatMap_append, List.flatMap_append, List.flatMap_singleton, List.flatMap_singleton, List.set_append, hl]
    by_cases e : k = n
    · subst e
      rw [if_neg (by omega), Nat.add_sub_cancel_left, hk]
      congr 1
      exact dfm_congr fun j hj => (hg j (by have := List.mem_range.1 hj; omega)).symm
    · rw [if_pos (by omega), fm_set hf hg hk hc n (by omega), hg n (fun h => e h.symm)]
theorem drows_setN {D : List Df} {V : Nat → Value} {k : Nat} {nm : List UInt8} (hk : k < D.length) : (drows D V).set (k * 3 + 0) (st nm) = drows (setN D k nm) V := by
  rw [drows, drows, setN_len]
  refine fm_set (fun _ => rfl) (fun j hj => ?_) ?_ (by decide) _ hk
  · rw [setN_at hk, if_neg hj]
  · rw [setN_at hk, if_pos rfl]; rfl
theorem Defs.setN {w w' : World} {H : Nat} {D : List Df} {lv : Value} {V : Nat → Value} (h : Defs w H D lv V) {k : Nat} {nm : List UInt8} (hk : k < D.length) (ho : Only (fun b => lv.ownBlock = some b) w w')
    (hr : w'.ownsRow H 39 3 lv D.length ((drows D V).set (k * 3 + 0) (st nm))) : Defs w' H (setN D k nm) lv V := by
  have ht : ∀ j, tyD (Go.Proofs.Ytgcehajdldicfaa.setN D k nm) j = tyD D j := fun j => by
    rw [tyD, setN_at hk]
    split
    · rename_i e; rw [e]; rfl
    · rfl
  refine ⟨by rw [setN_len, ← drows_setN hk]; exact hr, ?_⟩
  rw [setN_len]
  exact (h.tys.other h.row (by decide) ho).congr (fun _ _ => rfl) (fun j hj => by rw [ht]) (fun j hj => by rw [ht])
theorem setN_mem {D : List Df} {k : Nat} {nm : List UInt8} (hk : k < D.length) {e : Df} (he : e ∈ setN D k nm) : e ∈ D ∨ (D[k] ∈ D ∧ e = { D[k] with name := nm }) := by
  rcases List.mem_or_eq_of_mem_set he with h1 | h1
  · exact .inl h1
  · exact .inr ⟨List.getElem_mem hk, by rw [h1, getD_at hk]⟩
theorem DOk.setN {D : List Df} {k : Nat} {nm : List UInt8} (h : DOk D) (hk : k < D.length) (hn : nm.length ≤ 9223372036854775807) : DOk (setN D k nm) := by
  refine ⟨by rw [setN_len]; exact h.len, fun e he => ?_, fun e he => ?_, fun e he => ?_⟩ <;> rcases setN_mem hk he with h1 | ⟨h1, rfl⟩
  · exact h.ty e h1
  · exact h.ty D[k] h1
  · exact h.nm e h1
  · exact hn
  · exact h.ex e h1
  · exact h.ex D[k] h1


/-- what turned holds: its source, two lists of names -/
structure TS (w0 w : World) (B c2 c4 p5 p6 : Nat) (E : List Df) (gv : Value) (V : Nat → Value) (lv lb : Value) (A L : List (List UInt8)) : Prop where
  de : Defs w B E gv V
  k4 : w.heap[c4]? = some (.cells #[gv] 24 (0, 0))
  k2 : w.heap[c2]? = some (.cells #[.slice none 0 0] 24 (0, 0))
  na : NL w p5 B lv A
  nl : NL w p6 B lb L
  ne : ∀ k, lv.ownBlock = some k → ¬ lb.ownBlock = some k
  pp : ¬ p5 = p6
  old : Ext w0 w
  b0 : w0.heap.size ≤ B
  b4 : w0.heap.size ≤ c4
  b5 : w0.heap.size ≤ p5
  b6 : w0.heap.size ≤ p6
section
variable {w0 w w' : World} {B c2 c4 p5 p6 : Nat} {E : List Df} {gv : Value} {V : Nat → Value} {lv lb : Value} {A L : List (List UInt8)}
theorem TS.ext (h : TS w0 w B c2 c4 p5 p6 E gv V lv lb A L) (ho : Ext w w') : TS w0 w' B c2 c4 p5 p6 E gv V lv lb A L :=
  ⟨h.de.ext ho, ho.blk h.k4 (fun h => h), ho.blk h.k2 (fun h => h), h.na.ext ho, h.nl.ext ho, h.ne, h.pp, h.old.tr ho, h.b0, h.b4, h.b5, h.b6⟩
/-- a node is written over -/
theorem TS.node (h : TS w0 w B c2 c4 p5 p6 E gv V lv lb A L) {i j : Nat} {x : Ex} (hi : i < E.length) (ho : Only (fun k => (V i).ownBlock = some k) w w') (hr : w'.ownsRow B 26 7 (V i) (tyD E i).length (exs ((tyD E i).set j x))) : TS w0 w' B c2 c4 p5 p6 (setE E i j x) gv V lv lb A L := by
  have hrow := h.de.tys.row i hi
  refine ⟨h.de.setE hi ho hr, ho.blk h.k4 (fun hh => own_off hrow h.k4 (by decide) hh), ho.blk h.k2 (fun hh => own_off hrow h.k2 (by decide) hh), h.na.only ho (fun hh => own_off hrow h.na.cell (by decide) hh) (own_row_off hrow h.na.row (by decide)), h.nl.only ho (fun hh => own_off hrow h.nl.cell (by decide) hh) (own_row_off hrow h.nl.row (by decide)), h.ne, h.pp, h.old.trans' ho (fun _ h => h) (fun k hk hh => ?_), h.b0, h.b4, h.b5, h.b6⟩
  have := (hrow.lt k hh).1
  have := h.b0
  omega
end
/-- node j written asx x -/
def midX (A L : List (List UInt8)) (j : Nat) (x : Ex) (d : Df) : Df := { name := zqN (A.idxOf d.name), at_ := d.at_, ty := (d.ty.take j).map (rnE A L) ++ x :: d.ty.drop (j + 1) }
theorem at_mid {H R : List Df} {m : Df} {i : Nat} (h : H.length = i) : (H ++ m :: R).getD i df0 = m := by
  rw [List.getD_eq_getElem?_getD, List.getElem?_append_right (by omega), h, Nat.sub_self]; rfl
theorem tyD_mid {H R : List Df} {m : Df} {i : Nat} (h : H.length = i) : tyD (H ++ m :: R) i = m.ty := by unfold tyD; rw [at_mid h]
theorem midX_len {A L : List (List UInt8)} {j : Nat} {x : Ex} {d : Df} (hj : j < d.ty.length) : (midX A L j x d).ty.length = d.ty.length := by
  unfold midX
  simp [List.length_append]; omega
section
variable {w0 w w' : World} {B c2 c4 p5 p6 i j : Nat} {H R : List Df} {x : Ex} {d : Df} {gv : Value} {V : Nat → Value} {lv lb : Value} {A L A' L' : List (List UInt8)}
theorem TS.row (h : TS w0 w B c2 c4 p5 p6 (H ++ midX A' L' j x d :: R) gv V lv lb A L) (hl : H.length = i) (hj : j < d.ty.length) : w.ownsRow B 26 7 (V i) d.ty.length (exs (midX A' L' j x d).ty) := by
  have h1 := h.de.tys.row i (by simp; omega)
  simp only [tyD_mid hl] at h1
  rw [midX_len hj] at h1
  exact h1
theorem Defs.cells {E : List Df} {g c n : Nat} (h : Defs w B E (.slice (some ⟨g, 0, none⟩) n c) V) {k : Nat} (hk : k < E.length) : Cells w g (0 + k * 3) (dcell (E.getD k df0) (V k)) := by
  obtain ⟨b', o', c', he, hc⟩ := h.rd.at hk
  simp only [Value.slice.injEq, Option.some.injEq, Addr.mk.injEq] at he
  obtain ⟨⟨rfl, rfl, -⟩, -, -⟩ := he
  exact hc
theorem TS.cells {g c n : Nat} {m : Df} (h : TS w0 w B c2 c4 p5 p6 (H ++ m :: R) (.slice (some ⟨g, 0, none⟩) n c) V lv lb A L) (hl : H.length = i) : Cells w g (0 + i * 3) (dcell m (V i)) := by
  have h1 := Defs.cells h.de (k := i) (by simp; omega)
  rw [at_mid hl] at h1
  exact h1
theorem TS.size (h : TS w0 w B c2 c4 p5 p6 (H ++ d :: R) gv V lv lb A L) : B ≤ w.heap.size := by
  obtain ⟨g, c, -, hb⟩ := own_some h.de.row (by simp; omega)
  have := h.de.row.lt g hb
  omega
end

end Go.Proofs.Ytgcehajdldicfaa

set_option linter.unusedSimpArgs false
set_option linter.unusedVariables false
set_option maxRecDepth 100000
namespace Go.Proofs.Ytgcehajdldicfaa
open Go Go.Vc Go.RowKit Go.Proofs

theorem rn_check_call (D : List Df) (dv : Value) (V : Nat → Value) (w0 : World) (hD : DefR w0 D dv V) (hlim : DOk D) {er at_ : Int} (hf : flt D = (er, at_)) : Ca Try.prog 15 #[.agg #[dv]] w0 (fun v w' => v = .tuple #[.int .i64 er, .int .i64 at_] ∧ Ext w0 w') := by
  have h := rnames_check_spec D dv V w0 hD hlim
  rw [hf] at h
  exact h
theorem rn_order_call (D : List Df) (dv : Value) (V : Nat → Value) (w0 : World) (hD : DefR w0 D dv V) (hlim : DOk D) {er at_ : Int} (hf : flt D = (er, at_)) : Ca Try.prog 16 #[.agg #[dv]] w0 (fun v w' => ∃ ov, v = .tuple #[ov, .int .i64 er, .int .i64 at_] ∧ w'.ownsRow w0.heap.size 3 1 ov (ordR D).length ((ordR D).map iv) ∧ Ext w0 w') := by
  have h := rnames_order_spec D dv V w0 hD hlim
  rw [hf] at h
  exact h
theorem rn_depth_call (D : List Df) (dv : Value) (V : Nat → Value) (w0 : World) (hD : DefR w0 D dv V) (hlim : DOk D) {er at_ : Int} (hf : flt D = (er, at_)) : Ca Try.prog 17 #[.agg #[dv]] w0 (fun v w' => ∃ ov, v = .tuple #[ov, .int .i64 er, .int .i64 at_] ∧ w'.ownsRow w0.heap.size 3 1 ov (depR D).length ((depR D).map iv) ∧ Ext w0 w') := by
  have h := rnames_depth_spec D dv V w0 hD hlim
  rw [hf] at h
  exact h
theorem blk_lt2 {w : World} {c : Nat} {cs : Array Value} {T : TypeId} {fr : Nat × Nat} (h : w.heap[c]? = some (.cells cs T fr)) : c < w.heap.size := (Array.getElem?_eq_some_iff.1 h).1
theorem blk_ne2 {w : World} {c d : Nat} {cs ds : Array Value} {T U : TypeId} {fr gr : Nat × Nat} (h : w.heap[c]? = some (.cells cs T fr)) (k : w.heap[d]? = some (.cells ds U gr)) (hne : ¬ T = U) : ¬ c = d := fun e => by
  rw [e, k] at h
  simp only [Option.some.injEq, Obj.cells.injEq] at h
  exact hne h.2.1.symm

set_option maxHeartbeats 4000000 in
theorem n8_exact (D : List Df) (dv : Value) (V : Nat → Value) (nm : List UInt8) (w0 : World) (hD : DefR w0 D dv V) (hlim : DOk D) : Ca Try.prog 10 #[.agg #[dv], st nm] w0 (fun v w' => v = .bool true ∧ Ext w0 w') := by
  have hlen := hlim.len
  have hD00 := hD
  obtain ⟨er, at_, hf⟩ : ∃ er at_, flt D = (er, at_) := ⟨_, _, rfl⟩
  have hol := ord_le D
  have hdl := dep_le2 D
  refine Ca.of Try.func10 Try.ntmps10 rfl rfl ?_
  refine W.seq ?_
  refine W.region ?_
  refine WL.c rfl (o_boxB rfl ?_)
  intro w2 hC2 hx2 hs2
  obtain ⟨b2, hb2⟩ : ∃ b, b = w0.heap.size := ⟨_, rfl⟩
  rw [← hb2] at hC2 ⊢
  replace hC2 : w2.heap[b2]? = some (.cells ([dv]).toArray 24 (0, 0)) := hC2
  have hx := hx2
  replace hD := hD.ext hx2
  refine WL.c rfl (o_ash (show _ = Value.bool _ from rfl) ?_)
  refine WL.nil ?_
  refine W.seq ?_
  refine W.region ?_
  refine WL.c rfl (o_ldA TI24 rfl rfl (show Cells _ b2 0 [dv] from Cells.of hC2 0 _ (by simp)) rfl ?_)
  refine WL.c rfl (o_call Try.call11 (lc rfl ln) ((n8_lent D dv V _ hD hlim).mono ?_))
  rintro v17 w17 ⟨gv, U, rfl, hL, hx17⟩
  replace hx := hx.tr hx17
  replace hD := hD.ext hx17
  replace hC2 := hx17.blk hC2 (fun h => h)
  have hz17 := hx.size
  refine WL.c rfl (o_alB TI24 ?_)
  intro wa hC5a hx5 hs5
  refine WL.u (o_stA TI24 rfl (show _ = Value.agg #[shr gv] from rfl) rfl (by simp [own_one hL.defs.row]) hC5a rfl ?_)
  intro wb hC5 ho5 hs5b
  have hxn := Ext.own hx5 (Nat.le_refl _) ho5
  obtain ⟨b5, hb5⟩ : ∃ c, c = w17.heap.size := ⟨_, rfl⟩
  have hz5 : w0.heap.size ≤ b5 := by rw [hb5]; exact hz17
  rw [← hb5] at hC5 ⊢
  clear hC5a hx5 hs5 ho5 hs5b
  replace hx := hx.tr hxn
  replace hD := hD.ext hxn
  replace hC2 := hxn.blk hC2 (fun h => h)
  replace hL := hL.ext hxn
  refine WL.nil ?_
  refine W.seq ?_
  refine W.region ?_
  refine WL.c rfl (o_ldA TI24 rfl rfl (show Cells _ b5 0 [shr gv] from Cells.of hC5 0 _ (by simp)) rfl ?_)
  refine WL.c rfl (o_call Try.call12 (lc rfl ln) ((check_call D (shr gv) (fun j => shr (U j)) _ hL.defs.rd hlim hf).mono ?_))
  rintro v19 w19 ⟨rfl, hx19⟩
  replace hx := hx.tr hx19
  replace hD := hD.ext hx19
  replace hC2 := hx19.blk hC2 (fun h => h)
  replace hL := hL.ext hx19
  replace hC5 := hx19.blk hC5 (fun h => h)
  have hz19 := hx.size
  refine WL.c rfl (o_alB TI32 ?_)
  intro wa hCa hxa hsa
  refine WL.u (o_stA TI32 rfl (show _ = Value.agg ([.int .i64 er, .int .i64 at_]).toArray from rfl) rfl rfl hCa rfl ?_)
  intro wb6 hC6 hob hsb
  have hxb := Ext.own hxa (Nat.le_refl _) hob
  obtain ⟨b6, hb6⟩ : ∃ b, b = w19.heap.size := ⟨_, rfl⟩
  rw [← hb6] at hC6 ⊢
  clear hCa hxa hsa hob hsb
  replace hx := hx.tr hxb
  replace hD := hD.ext hxb
  replace hC2 := hxb.blk hC2 (fun h => h)
  replace hL := hL.ext hxb
  replace hC5 := hxb.blk hC5 (fun h => h)
  have hz6 : w0.heap.size ≤ b6 := by rw [hb6]; exact hz19
  clear hxb
  refine WL.nil ?_
  refine W.seq ?_
  refine W.region ?_
  refine WL.c rfl (o_ldA TI24 rfl rfl (show Cells _ b2 0 [dv] from Cells.of hC2 0 _ (by simp)) rfl ?_)
  refine WL.c rfl (o_call Try.call15 (lc rfl ln) ((rn_check_call D dv V _ hD hlim hf).mono ?_))
  rintro v22 w22 ⟨rfl, hx22⟩
  replace hx := hx.tr hx22
  replace hD := hD.ext hx22
  replace hC2 := hx22.blk hC2 (fun h => h)
  replace hL := hL.ext hx22
  replace hC5 := hx22.blk hC5 (fun h => h)
  replace hC6 := hx22.blk hC6 (fun h => h)
  refine WL.c rfl (o_mvh (by first | exact (show _ = Value.tuple _ from rfl) | exact rfl) ?_)
  refine WL.c rfl (o_ext rfl rfl ?_)
  refine WL.c rfl (o_ext rfl rfl ?_)
  refine WL.c rfl (o_ash (show _ = Value.int _ _ from rfl) ?_)
  refine WL.c rfl (o_ash (show _ = Value.int _ _ from rfl) ?_)
  refine WL.nil ?_
  refine W.seq ?_
  refine W.seq ?_
  refine W.region ?_
  refine WL.c rfl (o_fa 0 TI32 rfl TI30 rfl rfl ?_)
  refine WL.c rfl (o_ld TI30 rfl rfl (cell_of hC6 rfl) ?_)
  refine WL.c rfl (o_mvh (show _ = Value.int _ _ from rfl) ?_)
  refine WL.c rfl (o_ne rfl rfl ?_)
  refine WL.c rfl (o_mvh (show _ = Value.bool _ from rfl) ?_)
  refine WL.g rfl (by simp) rfl (o_fa 1 TI32 rfl TI3 rfl rfl ?_)
  refine WL.g rfl (by simp) rfl (o_ld TI3 rfl rfl (cell_of hC6 rfl) ?_)
  refine WL.g rfl (by simp) rfl (o_mvh (show _ = Value.int _ _ from rfl) ?_)
  refine WL.g rfl (by simp) rfl (o_ne rfl rfl ?_)
  refine WL.c rfl (o_pickO rfl rfl ?_)
  refine WL.nil ?_
  refine W.condF' rfl (by simp) ?_
  refine W.skip ?_
  refine W.seq ?_
  skip
  · skip
    refine W.region ?_
    refine WL.c rfl (o_ldA TI24 rfl rfl (show Cells _ b5 0 [shr gv] from Cells.of hC5 0 _ (by simp)) rfl ?_)
    refine WL.c rfl (o_call Try.call13 (lc rfl ln) ((order_call D (shr gv) (fun j => shr (U j)) _ hL.defs.rd hlim hf).mono ?_))
    rintro v37 w37 ⟨o1, rfl, ho1, hx37⟩
    replace hx := hx.tr hx37
    replace hD := hD.ext hx37
    replace hC2 := hx37.blk hC2 (fun h => h)
    replace hL := hL.ext hx37
    replace hC5 := hx37.blk hC5 (fun h => h)
    replace hC6 := hx37.blk hC6 (fun h => h)
    refine WL.c rfl (o_mvh (by first | exact (show _ = Value.tuple _ from rfl) | exact rfl) ?_)
    refine WL.c rfl (o_ext rfl rfl ?_)
    refine WL.c rfl (o_ext rfl rfl ?_)
    refine WL.c rfl (o_ash (by first | exact (show _ = Value.slice _ _ _ from rfl) | exact rfl) ?_)
    refine WL.u (o_stA TI32 rfl (show _ = Value.agg #[.int .i64 er, .int .i64 at_] from rfl) rfl rfl hC6 rfl ?_)
    intro wz hCz hoz hsz
    replace hL := hL.only hoz (fun k hk e => by
      rcases hk with hk | ⟨j, hj, hk⟩
      · exact own_off hL.row hC6 (by decide) (e ▸ hk)
      · exact own_off (hL.tys.row j hj) hC6 (by decide) (e ▸ hk))
    replace hC2 := hoz.blk hC2 (blk_ne2 hC2 hC6 (by decide))
    replace hC5 := hoz.blk hC5 (blk_ne2 hC5 hC6 (by decide))
    replace ho1 := own_only ho1 hoz (fun k hk e => own_off ho1 hC6 (by decide) (e ▸ hk))
    replace hC6 : wz.heap[b6]? = some (.cells #[.int .i64 er, .int .i64 at_] 32 (0, 0)) := hCz
    replace hx := hx.trans' hoz (fun _ h => h) (fun b hb he => by omega)
    replace hD := hD00.ext hx
    refine WL.nil ?_
    refine W.seq ?_
    refine W.region ?_
    refine WL.c rfl (o_ldA TI24 rfl rfl (show Cells _ b2 0 [dv] from Cells.of hC2 0 _ (by simp)) rfl ?_)
    refine WL.c rfl (o_call Try.call16 (lc rfl ln) ((rn_order_call D dv V _ hD hlim hf).mono ?_))
    rintro v42 w42 ⟨o2, rfl, ho2, hx42⟩
    replace hx := hx.tr hx42
    replace hD := hD.ext hx42
    replace hC2 := hx42.blk hC2 (fun h => h)
    replace hL := hL.ext hx42
    replace hC5 := hx42.blk hC5 (fun h => h)
    replace hC6 := hx42.blk hC6 (fun h => h)
    replace ho1 := own_ext ho1 hx42
    refine WL.c rfl (o_mvh (by first | exact (show _ = Value.tuple _ from rfl) | exact rfl) ?_)
    refine WL.c rfl (o_ext rfl rfl ?_)
    refine WL.c rfl (o_ext rfl rfl ?_)
    refine WL.c rfl (o_ext rfl rfl ?_)
    refine WL.c rfl (o_ash (by first | exact (show _ = Value.slice _ _ _ from rfl) | exact rfl) ?_)
    refine WL.c rfl (o_ash (show _ = Value.int _ _ from rfl) ?_)
    refine WL.c rfl (o_ash (show _ = Value.int _ _ from rfl) ?_)
    refine WL.nil ?_
    refine W.seq ?_
    refine W.seq ?_
    refine W.region ?_
    refine WL.c rfl (o_fa 0 TI32 rfl TI30 rfl rfl ?_)
    refine WL.c rfl (o_ld TI30 rfl rfl (cell_of hC6 rfl) ?_)
    refine WL.c rfl (o_mvh (show _ = Value.int _ _ from rfl) ?_)
    refine WL.c rfl (o_ne rfl rfl ?_)
    refine WL.c rfl (o_mvh (show _ = Value.bool _ from rfl) ?_)
    refine WL.g rfl (by simp) rfl (o_fa 1 TI32 rfl TI3 rfl rfl ?_)
    refine WL.g rfl (by simp) rfl (o_ld TI3 rfl rfl (cell_of hC6 rfl) ?_)
    refine WL.g rfl (by simp) rfl (o_mvh (show _ = Value.int _ _ from rfl) ?_)
    refine WL.g rfl (by simp) rfl (o_ne rfl rfl ?_)
    refine WL.c rfl (o_pickO rfl rfl ?_)
    refine WL.c rfl (o_mvh (show _ = Value.bool _ from rfl) ?_)
    refine WL.g rfl (by simp) rfl (o_mvh (by first | exact (show _ = Value.slice _ _ _ from rfl) | exact rfl) ?_)
    refine WL.g rfl (by simp) rfl (o_mvh (by first | exact (show _ = Value.slice _ _ _ from rfl) | exact rfl) ?_)
    refine WL.g rfl (by simp) rfl (o_call Try.call18 (lc rfl (lc rfl ln)) ((n8_intn (ordR D) (ordR D) o1 o2 _ (Sl.own ho1) (Sl.own ho2) (by omega)).mono ?_))
    rintro v59 w59 ⟨rfl, hx59⟩
    replace hx := hx.tr hx59
    replace hD := hD.ext hx59
    replace hC2 := hx59.blk hC2 (fun h => h)
    replace hL := hL.ext hx59
    replace hC5 := hx59.blk hC5 (fun h => h)
    replace hC6 := hx59.blk hC6 (fun h => h)
    refine WL.g rfl (by simp) rfl (o_not' rfl ?_)
    refine WL.c rfl (o_pickO rfl rfl ?_)
    refine WL.nil ?_
    refine W.condF' rfl (by simp) ?_
    refine W.skip ?_
    refine W.seq ?_
    skip
    · skip
      refine W.region ?_
      refine WL.c rfl (o_ldA TI24 rfl rfl (show Cells _ b5 0 [shr gv] from Cells.of hC5 0 _ (by simp)) rfl ?_)
      refine WL.c rfl (o_call Try.call14 (lc rfl ln) ((depth_call D (shr gv) (fun j => shr (U j)) _ hL.defs.rd hlim hf).mono ?_))
      rintro v64 w64 ⟨d1, rfl, hd1, hx64⟩
      replace hx := hx.tr hx64
      replace hD := hD.ext hx64
      replace hC2 := hx64.blk hC2 (fun h => h)
      replace hL := hL.ext hx64
      replace hC5 := hx64.blk hC5 (fun h => h)
      replace hC6 := hx64.blk hC6 (fun h => h)
      refine WL.c rfl (o_mvh (by first | exact (show _ = Value.tuple _ from rfl) | exact rfl) ?_)
      refine WL.c rfl (o_ext rfl rfl ?_)
      refine WL.c rfl (o_ext rfl rfl ?_)
      refine WL.c rfl (o_ash (by first | exact (show _ = Value.slice _ _ _ from rfl) | exact rfl) ?_)
      refine WL.u (o_stA TI32 rfl (show _ = Value.agg #[.int .i64 er, .int .i64 at_] from rfl) rfl rfl hC6 rfl ?_)
      intro wz hCz hoz hsz
      replace hL := hL.only hoz (fun k hk e => by
        rcases hk with hk | ⟨j, hj, hk⟩
        · exact own_off hL.row hC6 (by decide) (e ▸ hk)
        · exact own_off (hL.tys.row j hj) hC6 (by decide) (e ▸ hk))
      replace hC2 := hoz.blk hC2 (blk_ne2 hC2 hC6 (by decide))
      replace hC5 := hoz.blk hC5 (blk_ne2 hC5 hC6 (by decide))
      replace hd1 := own_only hd1 hoz (fun k hk e => own_off hd1 hC6 (by decide) (e ▸ hk))
      replace hC6 : wz.heap[b6]? = some (.cells #[.int .i64 er, .int .i64 at_] 32 (0, 0)) := hCz
      replace hx := hx.trans' hoz (fun _ h => h) (fun b hb he => by omega)
      replace hD := hD00.ext hx
      refine WL.nil ?_
      refine W.seq ?_
      refine W.region ?_
      refine WL.c rfl (o_ldA TI24 rfl rfl (show Cells _ b2 0 [dv] from Cells.of hC2 0 _ (by simp)) rfl ?_)
      refine WL.c rfl (o_call Try.call17 (lc rfl ln) ((rn_depth_call D dv V _ hD hlim hf).mono ?_))
      rintro v69 w69 ⟨d2, rfl, hd2, hx69⟩
      replace hx := hx.tr hx69
      replace hD := hD.ext hx69
      replace hC2 := hx69.blk hC2 (fun h => h)
      replace hL := hL.ext hx69
      replace hC5 := hx69.blk hC5 (fun h => h)
      replace hC6 := hx69.blk hC6 (fun h => h)
      replace hd1 := own_ext hd1 hx69
      refine WL.c rfl (o_mvh (by first | exact (show _ = Value.tuple _ from rfl) | exact rfl) ?_)
      refine WL.c rfl (o_ext rfl rfl ?_)
      refine WL.c rfl (o_ext rfl rfl ?_)
      refine WL.c rfl (o_ext rfl rfl ?_)
      refine WL.c rfl (o_ash (by first | exact (show _ = Value.slice _ _ _ from rfl) | exact rfl) ?_)
      refine WL.c rfl (o_ash (show _ = Value.int _ _ from rfl) ?_)
      refine WL.c rfl (o_ash (show _ = Value.int _ _ from rfl) ?_)
      refine WL.nil ?_
      refine W.seq ?_
      refine W.seq ?_
      refine W.region ?_
      refine WL.c rfl (o_fa 0 TI32 rfl TI30 rfl rfl ?_)
      refine WL.c rfl (o_ld TI30 rfl rfl (cell_of hC6 rfl) ?_)
      refine WL.c rfl (o_mvh (show _ = Value.int _ _ from rfl) ?_)
      refine WL.c rfl (o_ne rfl rfl ?_)
      refine WL.c rfl (o_mvh (show _ = Value.bool _ from rfl) ?_)
      refine WL.g rfl (by simp) rfl (o_fa 1 TI32 rfl TI3 rfl rfl ?_)
      refine WL.g rfl (by simp) rfl (o_ld TI3 rfl rfl (cell_of hC6 rfl) ?_)
      refine WL.g rfl (by simp) rfl (o_mvh (show _ = Value.int _ _ from rfl) ?_)
      refine WL.g rfl (by simp) rfl (o_ne rfl rfl ?_)
      refine WL.c rfl (o_pickO rfl rfl ?_)
      refine WL.c rfl (o_mvh (show _ = Value.bool _ from rfl) ?_)
      refine WL.g rfl (by simp) rfl (o_mvh (by first | exact (show _ = Value.slice _ _ _ from rfl) | exact rfl) ?_)
      refine WL.g rfl (by simp) rfl (o_mvh (by first | exact (show _ = Value.slice _ _ _ from rfl) | exact rfl) ?_)
      refine WL.g rfl (by simp) rfl (o_call Try.call18 (lc rfl (lc rfl ln)) ((n8_intn (depR D) (depR D) d1 d2 _ (Sl.own hd1) (Sl.own hd2) (by omega)).mono ?_))
      rintro v86 w86 ⟨rfl, hx86⟩
      replace hx := hx.tr hx86
      replace hD := hD.ext hx86
      replace hC2 := hx86.blk hC2 (fun h => h)
      replace hL := hL.ext hx86
      replace hC5 := hx86.blk hC5 (fun h => h)
      refine WL.g rfl (by simp) rfl (o_not' rfl ?_)
      refine WL.c rfl (o_pickO rfl rfl ?_)
      refine WL.nil ?_
      refine W.condF' rfl (by simp) ?_
      refine W.skip ?_
      refine W.seq ?_
      refine W.region ?_
      refine WL.c rfl (o_ldA TI24 rfl rfl (show Cells _ b5 0 [shr gv] from Cells.of hC5 0 _ (by simp)) rfl ?_)
      refine WL.c rfl (o_mvh (show _ = Value.string _ from rfl) ?_)
      refine WL.c rfl (o_call Try.call19 (lc rfl (lc rfl ln)) ((find_spec D (shr gv) (fun j => shr (U j)) nm _ hL.defs.rd hlen).mono ?_))
      rintro v92 w92 ⟨rfl, hx92⟩
      replace hx := hx.tr hx92
      replace hD := hD.ext hx92
      replace hC2 := hx92.blk hC2 (fun h => h)
      replace hL := hL.ext hx92
      replace hC5 := hx92.blk hC5 (fun h => h)
      refine WL.c rfl (o_mvh (by first | exact (show _ = Value.tuple _ from rfl) | exact rfl) ?_)
      refine WL.c rfl (o_ext rfl rfl ?_)
      refine WL.c rfl (o_ext rfl rfl ?_)
      refine WL.c rfl (o_ash (show _ = Value.int _ _ from rfl) ?_)
      refine WL.c rfl (o_ash (show _ = Value.int _ _ from rfl) ?_)
      refine WL.nil ?_
      refine W.seq ?_
      refine W.region ?_
      refine WL.c rfl (o_ldA TI24 rfl rfl (show Cells _ b2 0 [dv] from Cells.of hC2 0 _ (by simp)) rfl ?_)
      refine WL.c rfl (o_mvh (show _ = Value.string _ from rfl) ?_)
      refine WL.c rfl (o_call Try.call22 (lc rfl (lc rfl ln)) ((rfind_spec D dv V nm _ hD hlen).mono ?_))
      rintro v98 w98 ⟨rfl, hx98⟩
      replace hx := hx.tr hx98
      replace hD := hD.ext hx98
      replace hC2 := hx98.blk hC2 (fun h => h)
      replace hL := hL.ext hx98
      replace hC5 := hx98.blk hC5 (fun h => h)
      refine WL.c rfl (o_mvh (by first | exact (show _ = Value.tuple _ from rfl) | exact rfl) ?_)
      refine WL.c rfl (o_ext rfl rfl ?_)
      refine WL.c rfl (o_ext rfl rfl ?_)
      refine WL.c rfl (o_ash (show _ = Value.int _ _ from rfl) ?_)
      refine WL.c rfl (o_ash (show _ = Value.int _ _ from rfl) ?_)
      refine WL.nil ?_
      refine W.seq ?_
      refine W.region ?_
      refine WL.c rfl (o_mvh (show _ = Value.int _ _ from rfl) ?_)
      refine WL.c rfl (o_mvh (show _ = Value.int _ _ from rfl) ?_)
      refine WL.c rfl (o_eq rfl rfl ?_)
      refine WL.c rfl (o_mvh (show _ = Value.bool _ from rfl) ?_)
      refine WL.g rfl (by simp) rfl (o_mvh (show _ = Value.int _ _ from rfl) ?_)
      refine WL.g rfl (by simp) rfl (o_mvh (show _ = Value.int _ _ from rfl) ?_)
      refine WL.g rfl (by simp) rfl (o_eq rfl rfl ?_)
      refine WL.c rfl (o_pickA rfl rfl ?_)
      refine WL.c rfl (o_mvh (show _ = Value.bool _ from rfl) ?_)
      refine WL.g rfl (by simp) rfl (o_ldA TI24 rfl rfl (show Cells _ b5 0 [shr gv] from Cells.of hC5 0 _ (by simp)) rfl ?_)
      refine WL.g rfl (by simp) rfl (o_ldA TI24 rfl rfl (show Cells _ b2 0 [dv] from Cells.of hC2 0 _ (by simp)) rfl ?_)
      refine WL.g rfl (by simp) rfl (o_call Try.call23 (lc rfl (lc rfl ln)) ((n8_kept D _ gv dv U V _ hL hD hlim).mono ?_))
      rintro v112 w112 ⟨rfl, hx112⟩
      replace hx := hx.tr hx112
      refine WL.c rfl (o_pickA rfl rfl ?_)
      refine WL.c rfl (o_ash (show _ = Value.bool _ from rfl) ?_)
      refine WL.nil ?_
      refine W.ret ?_
      refine ret1v rfl (show _ = Value.bool _ from rfl) ?_
      exact ⟨congrArg Value.bool (by simp), hx⟩
end Go.Proofs.Ytgcehajdldicfaa

set_option linter.unusedSimpArgs false
set_option linter.unusedVariables false
set_option maxRecDepth 100000
namespace Go.Proofs.Ytgcehajdldicfaa
open Go Go.Vc Go.RowKit Go.Proofs

theorem idx8_cases (D : List Df) (d : Int) : d < 0 ∨ (¬ d < 0 ∧ (D.length : Int) ≤ d) ∨ ∃ i : Nat, i < D.length ∧ d = (i : Int) := by
  by_cases h1 : d < 0
  · exact .inl h1
  · by_cases h2 : (D.length : Int) ≤ d
    · exact .inr (.inl ⟨h1, h2⟩)
    · exact .inr (.inr ⟨d.toNat, by omega, by omega⟩)
theorem node8_cases (m : Nat) (n : Int) : n < 0 ∨ (0 ≤ n ∧ (m : Int) ≤ n) ∨ ∃ j : Nat, j < m ∧ n = (j : Int) := by
  by_cases h1 : n < 0
  · exact .inl h1
  · by_cases h2 : (m : Int) ≤ n
    · exact .inr (.inl ⟨by omega, h2⟩)
    · exact .inr (.inr ⟨n.toNat, by omega, by omega⟩)
theorem defs_at {w : World} {H : Nat} {D : List Df} {dv : Value} {V : Nat → Value} (h : Defs w H D dv V) {i : Nat} (hi : i < D.length) {g n c : Nat} (hv : dv = .slice (some ⟨g, 0, none⟩) n c) : Cells w g (0 + i * 3) (dcell D[i] (V i)) := by
  obtain ⟨tb, to_, tc, hv1, htc1, -⟩ := h.rd.atk hi
  rw [hv] at hv1
  simp only [Value.slice.injEq, Option.some.injEq, Addr.mk.injEq] at hv1
  obtain ⟨⟨rfl, rfl, -⟩, -, -⟩ := hv1
  exact htc1

set_option maxHeartbeats 8000000 in
theorem exact_walk1 (w0 : World) (D : List Df) (dv : Value) (V : Nat → Value) (hD : DefR w0 D dv V) (hlim : DOk D) (nm : List UInt8) (hnm : nm.length ≤ 9223372036854775807) (d : Int) (n : Int) (x : Ex) (hxo : ExOk x) : Ca Try.prog 3 #[.agg #[dv], st nm, .int .i64 d, .int .i64 n, .agg (exV x).toArray] w0 (fun v w' => v = .bool true ∧ Ext w0 w') := by
  have hlen := hlim.len
  refine Ca.of Try.func3 Try.ntmps3 rfl rfl ?_
  refine W.seq ?_
  refine W.region ?_
  refine WL.c rfl (o_boxB rfl ?_)
  intro w5 hC5 hx5 hs5
  obtain ⟨b5, hb5⟩ : ∃ b, b = w0.heap.size := ⟨_, rfl⟩
  rw [← hb5] at hC5 ⊢
  replace hC5 : w5.heap[b5]? = some (.cells ([dv]).toArray 24 (0, 0)) := hC5
  have hx := hx5
  replace hD := hD.ext hx5
  refine WL.c rfl (o_boxB rfl ?_)
  intro w9 hC9 hx9 hs9
  obtain ⟨b9, hb9⟩ : ∃ b, b = w5.heap.size := ⟨_, rfl⟩
  rw [← hb9] at hC9 ⊢
  replace hC9 : w9.heap[b9]? = some (.cells (exV x).toArray 26 (0, 0)) := hC9
  replace hx := hx.tr hx9
  replace hD := hD.ext hx9
  replace hC5 := hx9.blk hC5 (fun h => h)
  refine WL.c rfl (o_ash (show _ = Value.bool _ from rfl) ?_)
  refine WL.nil ?_
  refine W.seq ?_
  refine W.seq ?_
  refine W.region ?_
  refine WL.c rfl (o_call Try.call9 ln ((n8_first _).mono ?_))
  rintro v25 w25 ⟨rfl, hx25⟩
  replace hx := hx.tr hx25
  replace hC9 := hx25.blk hC9 (fun h => h)
  replace hD := hD.ext hx25
  replace hC5 := hx25.blk hC5 (fun h => h)
  refine WL.c rfl (o_not' rfl ?_)
  refine WL.c rfl (o_mvh (show _ = Value.bool _ from rfl) ?_)
  refine WL.g rfl (by simp) rfl (o_ldA TI24 rfl rfl (show Cells _ b5 0 [dv] from Cells.of hC5 0 _ (by simp)) rfl ?_)
  refine WL.g rfl (by simp) rfl (o_mvh (show _ = Value.string _ from rfl) ?_)
  refine WL.g rfl (by simp) rfl (o_call Try.call10 (lc rfl (lc rfl ln)) ((n8_exact D dv V nm _ hD hlim).mono ?_))
  rintro v30 w30 ⟨rfl, hx30⟩
  replace hx := hx.tr hx30
  replace hC9 := hx30.blk hC9 (fun h => h)
  replace hD := hD.ext hx30
  replace hC5 := hx30.blk hC5 (fun h => h)
  refine WL.g rfl (by simp) rfl (o_not' rfl ?_)
  refine WL.c rfl (o_pickO rfl rfl ?_)
  refine WL.nil ?_
  refine W.condF' rfl (by simp) ?_
  refine W.skip ?_
  refine W.seq ?_
  refine W.region ?_
  refine WL.c rfl (o_ldA TI24 rfl rfl (show Cells _ b5 0 [dv] from Cells.of hC5 0 _ (by simp)) rfl ?_)
  refine WL.c rfl (o_call Try.call11 (lc rfl ln) ((n8_lent D dv V _ hD hlim).mono ?_))
  have hz30 := hx.size
  have h9l := blk_lt2 hC9
  rintro v34 w34 ⟨gv, U, rfl, hL, hx34⟩
  replace hx := hx.tr hx34
  replace hC9 := hx34.blk hC9 (fun h => h)
  have hz34 := hx.size
  have hDe := hL.defs
  clear hL
  refine WL.c rfl (o_alB TI24 ?_)
  intro wa hC5a hx5 hs5
  refine WL.u (o_stA TI24 rfl (show _ = Value.agg #[shr gv] from rfl) rfl (by simp [own_one hDe.row]) hC5a rfl ?_)
  intro wb hC11 ho5 hs5b
  have hxn := Ext.own hx5 (Nat.le_refl _) ho5
  obtain ⟨b11, hb11⟩ : ∃ c, c = w34.heap.size := ⟨_, rfl⟩
  have hz11 : w0.heap.size ≤ b11 := by rw [hb11]; exact hz34
  rw [← hb11] at hC11 ⊢
  clear hC5a hx5 hs5 ho5 hs5b
  replace hx := hx.tr hxn
  replace hC9 := hxn.blk hC9 (fun h => h)
  replace hDe := hDe.ext hxn
  refine WL.nil ?_
  refine W.seq ?_
  refine W.region ?_
  refine WL.c rfl (o_ldA TI24 rfl rfl (show Cells _ b11 0 [shr gv] from Cells.of hC11 0 _ (by simp)) rfl ?_)
  refine WL.c rfl (o_call Try.call12 (lc rfl ln) ((names_check_spec D (shr gv) (fun j => shr (U j)) _ hDe.rd hlim).mono ?_))
  rintro v36 w36 ⟨-, hx36⟩
  replace hx := hx.tr hx36
  replace hC9 := hx36.blk hC9 (fun h => h)
  replace hDe := hDe.ext hx36
  replace hC11 := hx36.blk hC11 (fun h => h)
  refine WL.nil ?_
  refine W.seq ?_
  refine W.region ?_
  refine WL.c rfl (o_ldA TI24 rfl rfl (show Cells _ b11 0 [shr gv] from Cells.of hC11 0 _ (by simp)) rfl ?_)
  refine WL.c rfl (o_call Try.call13 (lc rfl ln) ((names_order_spec D (shr gv) (fun j => shr (U j)) _ hDe.rd hlim).mono ?_))
  rintro v38 w38 ⟨o0, -, -, hx38⟩
  replace hx := hx.tr hx38
  replace hC9 := hx38.blk hC9 (fun h => h)
  replace hDe := hDe.ext hx38
  replace hC11 := hx38.blk hC11 (fun h => h)
  refine WL.nil ?_
  refine W.seq ?_
  refine W.region ?_
  refine WL.c rfl (o_ldA TI24 rfl rfl (show Cells _ b11 0 [shr gv] from Cells.of hC11 0 _ (by simp)) rfl ?_)
  refine WL.c rfl (o_call Try.call14 (lc rfl ln) ((names_depth_spec D (shr gv) (fun j => shr (U j)) _ hDe.rd hlim).mono ?_))
  rintro v40 w40 ⟨o0, -, -, hx40⟩
  replace hx := hx.tr hx40
  replace hC9 := hx40.blk hC9 (fun h => h)
  replace hDe := hDe.ext hx40
  replace hC11 := hx40.blk hC11 (fun h => h)
  refine WL.nil ?_
  refine W.seq ?_
  refine W.seq ?_
  rcases idx8_cases D d with hd | ⟨hd, hd2⟩ | ⟨i, hi, rfl⟩
  · skip
    skip
    refine W.region ?_
    refine WL.c rfl (o_mvh (show _ = Value.int _ _ from rfl) ?_)
    refine WL.c rfl (o_lt rfl rfl ?_)
    refine WL.c rfl (o_mvh (show _ = Value.bool _ from rfl) ?_)
    refine WL.s rfl (decide_eq_true hd) rfl ?_
    refine WL.s rfl (decide_eq_true hd) rfl ?_
    refine WL.s rfl (decide_eq_true hd) rfl ?_
    refine WL.s rfl (decide_eq_true hd) rfl ?_
    refine WL.s rfl (decide_eq_true hd) rfl ?_
    refine WL.c rfl (o_pickT rfl (decide_eq_true hd) ?_)
    refine WL.nil ?_
    refine W.condT' rfl (rfl) ?_
    refine W.seq ?_
    refine W.region ?_
    refine WL.c rfl (o_ash (show _ = Value.bool _ from rfl) ?_)
    refine WL.nil ?_
    refine W.ret ?_
    refine ret1v rfl (show _ = Value.bool _ from rfl) ?_
    exact ⟨rfl, hx⟩
  · skip
    skip
    refine W.region ?_
    refine WL.c rfl (o_mvh (show _ = Value.int _ _ from rfl) ?_)
    refine WL.c rfl (o_lt rfl rfl ?_)
    refine WL.c rfl (o_mvh (show _ = Value.bool _ from rfl) ?_)
    refine WL.g rfl (decide_eq_false (by omega)) rfl (o_mvh (show _ = Value.int _ _ from rfl) ?_)
    refine WL.g rfl (decide_eq_false (by omega)) rfl (o_fa 0 TI24 rfl TI22 rfl rfl ?_)
    refine WL.g rfl (decide_eq_false (by omega)) rfl (o_ld TI22 rfl rfl (cell_of hC11 rfl) ?_)
    refine WL.g rfl (decide_eq_false (by omega)) rfl (o_lenR TI22 rfl hDe.rd.row ?_)
    refine WL.g rfl (decide_eq_false (by omega)) rfl (o_ge rfl rfl ?_)
    refine WL.c rfl (o_pickO rfl rfl ?_)
    refine WL.nil ?_
    refine W.condT' rfl (by simp; omega) ?_
    refine W.seq ?_
    refine W.region ?_
    refine WL.c rfl (o_ash (show _ = Value.bool _ from rfl) ?_)
    refine WL.nil ?_
    refine W.ret ?_
    refine ret1v rfl (show _ = Value.bool _ from rfl) ?_
    exact ⟨rfl, hx⟩
  · skip
    skip
    refine W.region ?_
    refine WL.c rfl (o_mvh (show _ = Value.int _ _ from rfl) ?_)
    refine WL.c rfl (o_lt rfl rfl ?_)
    refine WL.c rfl (o_mvh (show _ = Value.bool _ from rfl) ?_)
    refine WL.g rfl (decide_eq_false (by omega)) rfl (o_mvh (show _ = Value.int _ _ from rfl) ?_)
    refine WL.g rfl (decide_eq_false (by omega)) rfl (o_fa 0 TI24 rfl TI22 rfl rfl ?_)
    refine WL.g rfl (decide_eq_false (by omega)) rfl (o_ld TI22 rfl rfl (cell_of hC11 rfl) ?_)
    refine WL.g rfl (decide_eq_false (by omega)) rfl (o_lenR TI22 rfl hDe.rd.row ?_)
    refine WL.g rfl (decide_eq_false (by omega)) rfl (o_ge rfl rfl ?_)
    refine WL.c rfl (o_pickO rfl rfl ?_)
    refine WL.nil ?_
    refine W.condF' rfl (by simp; omega) ?_
    refine W.skip ?_
    refine W.seq ?_
    obtain ⟨gb, gc, hgv, hgb⟩ := own_some hDe.row (by omega)
    have hC11s := hC11
    rw [hgv] at hC11s
    have hrow := hDe.row
    rw [hgv] at hrow
    refine W.region ?_
    refine WL.c rfl (o_fa 0 TI24 rfl TI22 rfl rfl ?_)
    refine WL.c rfl (o_ld TI22 rfl rfl (cell_of hC11s rfl) ?_)
    refine WL.c rfl (o_mvh (show _ = Value.int _ _ from rfl) ?_)
    refine WL.c rfl (o_mvh (show _ = Value.string _ from rfl) ?_)
    refine WL.c rfl (o_ixB (i := i) TI22 TI39 (show _ = Value.slice (some ⟨gb, 0, none⟩) D.length gc from rfl) (show _ = Value.int .i64 (i : Int) from rfl) (by omega) ?_)
    refine WL.c rfl (o_fa 0 TI39 rfl TI9 rfl rfl ?_)
    refine WL.u (o_stRj TI9 rfl (show 0 + i * 3 + 0 = i * 3 + 0 by omega) (show _ = st nm from rfl) rfl hrow rfl (by omega) ?_)
    intro w55 hrow5 ho55 hs55
    rw [← hgv] at hrow5 ho55
    have hlo : ∀ k, (shr gv).ownBlock = some k → w30.heap.size ≤ k := fun k hk => (hDe.row.lt k hk).1
    replace hC11 := ho55.blk hC11 (fun hb => own_off hDe.row hC11 (by decide) hb)
    replace hC9 := ho55.blk hC9 (fun hb => own_off hDe.row hC9 (by decide) hb)
    replace hx := hx.trans' ho55 (fun _ h => h) (fun k hk he => by have := hlo k he; omega)
    replace hDe := hDe.setN (nm := nm) hi ho55 hrow5
    have hlim2 := hlim.setN hi hnm
    have hl2 := setN_len D i nm
    obtain ⟨D2, hD2⟩ : ∃ E, E = setN D i nm := ⟨_, rfl⟩
    rw [← hD2] at hDe hlim2 hl2
    have hi2 : i < D2.length := by omega
    have hC11s := hC11
    rw [hgv] at hC11s
    have htc1 : Cells w55 gb (0 + i * 3) (dcell D2[i] (shr (U i))) := defs_at hDe hi2 hgv
    have hty1 : Sl w55 7 (shr (U i)) (tyD D2 i).length (exs (tyD D2 i)) := hDe.rd.tys i hi2
    refine WL.nil ?_
    refine W.seq ?_
    refine W.seq ?_
    rcases node8_cases (tyD D2 i).length n with hn | ⟨hn, hn2⟩ | ⟨j, hj, rfl⟩
    · skip
      skip
      refine W.region ?_
      refine WL.c rfl (o_mvh (show _ = Value.int _ _ from rfl) ?_)
      refine WL.c rfl (o_ge rfl rfl ?_)
      refine WL.c rfl (o_mvh (show _ = Value.bool _ from rfl) ?_)
      refine WL.s rfl (decide_eq_false (by omega)) rfl ?_
      refine WL.s rfl (decide_eq_false (by omega)) rfl ?_
      refine WL.s rfl (decide_eq_false (by omega)) rfl ?_
      refine WL.s rfl (decide_eq_false (by omega)) rfl ?_
      refine WL.s rfl (decide_eq_false (by omega)) rfl ?_
      refine WL.s rfl (decide_eq_false (by omega)) rfl ?_
      refine WL.s rfl (decide_eq_false (by omega)) rfl ?_
      refine WL.s rfl (decide_eq_false (by omega)) rfl ?_
      refine WL.s rfl (decide_eq_false (by omega)) rfl ?_
      refine WL.c rfl (o_pickF rfl (decide_eq_false (by omega)) ?_)
      refine WL.nil ?_
      refine W.condF' rfl (rfl) ?_
      refine W.skip ?_
      refine W.seq ?_
      obtain ⟨DF, hDf, hlf⟩ : ∃ DF, Defs w55 w30.heap.size DF (shr gv) (fun j => shr (U j)) ∧ DOk DF := ⟨_, hDe, hlim2⟩
      obtain ⟨er, at_, hf⟩ : ∃ er at_, flt DF = (er, at_) := ⟨_, _, rfl⟩
      have hol := ord_le DF
      have hdl := dep_le2 DF
      have hlenf := hlf.len
      clear hDe hlim2 htc1 hC11s
      refine W.region ?_
      refine WL.c rfl (o_ldA TI24 rfl rfl (show Cells _ b11 0 [shr gv] from Cells.of hC11 0 _ (by simp)) rfl ?_)
      refine WL.c rfl (o_call Try.call12 (lc rfl ln) ((check_call DF (shr gv) (fun j => shr (U j)) _ hDf.rd hlf hf).mono ?_))
      rintro v79 w79 ⟨rfl, hx79⟩
      replace hx := hx.tr hx79
      replace hC9 := hx79.blk hC9 (fun h => h)
      replace hDf := hDf.ext hx79
      replace hC11 := hx79.blk hC11 (fun h => h)
      refine WL.c rfl (o_alB TI32 ?_)
      intro wa hCa hxa hsa
      refine WL.u (o_stA TI32 rfl (show _ = Value.agg ([.int .i64 er, .int .i64 at_]).toArray from rfl) rfl rfl hCa rfl ?_)
      intro wb12 hC12 hob hsb
      have hxb := Ext.own hxa (Nat.le_refl _) hob
      obtain ⟨b12, hb12⟩ : ∃ b, b = w79.heap.size := ⟨_, rfl⟩
      rw [← hb12] at hC12 ⊢
      clear hCa hxa hsa hob hsb
      replace hx := hx.tr hxb
      replace hC9 := hxb.blk hC9 (fun h => h)
      replace hDf := hDf.ext hxb
      replace hC11 := hxb.blk hC11 (fun h => h)
      clear hxb
      refine WL.nil ?_
      refine W.seq ?_
      refine W.region ?_
      refine WL.c rfl (o_ldA TI24 rfl rfl (show Cells _ b11 0 [shr gv] from Cells.of hC11 0 _ (by simp)) rfl ?_)
      refine WL.c rfl (o_call Try.call13 (lc rfl ln) ((order_call DF (shr gv) (fun j => shr (U j)) _ hDf.rd hlf hf).mono ?_))
      rintro v82 w82 ⟨o1, rfl, ho1, hx82⟩
      replace hx := hx.tr hx82
      replace hC9 := hx82.blk hC9 (fun h => h)
      replace hDf := hDf.ext hx82
      replace hC11 := hx82.blk hC11 (fun h => h)
      replace hC12 := hx82.blk hC12 (fun h => h)
      refine WL.c rfl (o_mvh (by first | exact (show _ = Value.tuple _ from rfl) | exact rfl) ?_)
      refine WL.c rfl (o_ext rfl rfl ?_)
      refine WL.c rfl (o_ext rfl rfl ?_)
      refine WL.c rfl (o_alB TI32 ?_)
      intro wa hCa hxa hsa
      refine WL.c rfl (o_ash (by first | exact (show _ = Value.slice _ _ _ from rfl) | exact rfl) ?_)
      refine WL.u (o_stA TI32 rfl (show _ = Value.agg ([.int .i64 er, .int .i64 at_]).toArray from rfl) rfl rfl hCa rfl ?_)
      intro wb14 hC14 hob hsb
      have hxb := Ext.own hxa (Nat.le_refl _) hob
      obtain ⟨b14, hb14⟩ : ∃ b, b = w82.heap.size := ⟨_, rfl⟩
      rw [← hb14] at hC14 ⊢
      clear hCa hxa hsa hob hsb
      replace hx := hx.tr hxb
      replace hC9 := hxb.blk hC9 (fun h => h)
      replace hDf := hDf.ext hxb
      replace hC11 := hxb.blk hC11 (fun h => h)
      replace hC12 := hxb.blk hC12 (fun h => h)
      replace ho1 := own_ext ho1 hxb
      clear hxb
      refine WL.nil ?_
      refine W.seq ?_
      refine W.region ?_
      refine WL.c rfl (o_ldA TI24 rfl rfl (show Cells _ b11 0 [shr gv] from Cells.of hC11 0 _ (by simp)) rfl ?_)
      refine WL.c rfl (o_call Try.call14 (lc rfl ln) ((depth_call DF (shr gv) (fun j => shr (U j)) _ hDf.rd hlf hf).mono ?_))
      rintro v87 w87 ⟨d1, rfl, hd1, hx87⟩
      replace hx := hx.tr hx87
      replace hC9 := hx87.blk hC9 (fun h => h)
      replace hDf := hDf.ext hx87
      replace hC11 := hx87.blk hC11 (fun h => h)
      replace hC12 := hx87.blk hC12 (fun h => h)
      replace hC14 := hx87.blk hC14 (fun h => h)
      replace ho1 := own_ext ho1 hx87
      refine WL.c rfl (o_mvh (by first | exact (show _ = Value.tuple _ from rfl) | exact rfl) ?_)
      refine WL.c rfl (o_ext rfl rfl ?_)
      refine WL.c rfl (o_ext rfl rfl ?_)
      refine WL.c rfl (o_alB TI32 ?_)
      intro wa hCa hxa hsa
      refine WL.c rfl (o_ash (by first | exact (show _ = Value.slice _ _ _ from rfl) | exact rfl) ?_)
      refine WL.u (o_stA TI32 rfl (show _ = Value.agg ([.int .i64 er, .int .i64 at_]).toArray from rfl) rfl rfl hCa rfl ?_)
      intro wb16 hC16 hob hsb
      have hxb := Ext.own hxa (Nat.le_refl _) hob
      obtain ⟨b16, hb16⟩ : ∃ b, b = w87.heap.size := ⟨_, rfl⟩
      rw [← hb16] at hC16 ⊢
      clear hCa hxa hsa hob hsb
      replace hx := hx.tr hxb
      replace hC9 := hxb.blk hC9 (fun h => h)
      replace hDf := hDf.ext hxb
      replace hC11 := hxb.blk hC11 (fun h => h)
      replace hC12 := hxb.blk hC12 (fun h => h)
      replace hC14 := hxb.blk hC14 (fun h => h)
      replace ho1 := own_ext ho1 hxb
      replace hd1 := own_ext hd1 hxb
      clear hxb
      refine WL.nil ?_
      refine W.seq ?_
      refine W.region ?_
      refine WL.c rfl (o_ldA TI24 rfl rfl (show Cells _ b11 0 [shr gv] from Cells.of hC11 0 _ (by simp)) rfl ?_)
      refine WL.c rfl (o_call Try.call15 (lc rfl ln) ((rn_check_call DF (shr gv) (fun j => shr (U j)) _ hDf.rd hlf hf).mono ?_))
      rintro v92 w92 ⟨rfl, hx92⟩
      replace hx := hx.tr hx92
      replace hC9 := hx92.blk hC9 (fun h => h)
      replace hDf := hDf.ext hx92
      replace hC11 := hx92.blk hC11 (fun h => h)
      replace hC12 := hx92.blk hC12 (fun h => h)
      replace hC14 := hx92.blk hC14 (fun h => h)
      replace hC16 := hx92.blk hC16 (fun h => h)
      replace ho1 := own_ext ho1 hx92
      replace hd1 := own_ext hd1 hx92
      refine WL.c rfl (o_mvh (by first | exact (show _ = Value.tuple _ from rfl) | exact rfl) ?_)
      refine WL.c rfl (o_ext rfl rfl ?_)
      refine WL.c rfl (o_ext rfl rfl ?_)
      refine WL.c rfl (o_ash (show _ = Value.int _ _ from rfl) ?_)
      refine WL.c rfl (o_ash (show _ = Value.int _ _ from rfl) ?_)
      refine WL.nil ?_
      refine W.seq ?_
      refine W.region ?_
      refine WL.c rfl (o_ldA TI24 rfl rfl (show Cells _ b11 0 [shr gv] from Cells.of hC11 0 _ (by simp)) rfl ?_)
      refine WL.c rfl (o_call Try.call16 (lc rfl ln) ((rn_order_call DF (shr gv) (fun j => shr (U j)) _ hDf.rd hlf hf).mono ?_))
      rintro v97 w97 ⟨o2, rfl, ho2, hx97⟩
      replace hx := hx.tr hx97
      replace hC9 := hx97.blk hC9 (fun h => h)
      replace hDf := hDf.ext hx97
      replace hC11 := hx97.blk hC11 (fun h => h)
      replace hC12 := hx97.blk hC12 (fun h => h)
      replace hC14 := hx97.blk hC14 (fun h => h)
      replace hC16 := hx97.blk hC16 (fun h => h)
      replace ho1 := own_ext ho1 hx97
      replace hd1 := own_ext hd1 hx97
      refine WL.c rfl (o_mvh (by first | exact (show _ = Value.tuple _ from rfl) | exact rfl) ?_)
      refine WL.c rfl (o_ext rfl rfl ?_)
      refine WL.c rfl (o_ext rfl rfl ?_)
      refine WL.c rfl (o_ext rfl rfl ?_)
      refine WL.c rfl (o_ash (by first | exact (show _ = Value.slice _ _ _ from rfl) | exact rfl) ?_)
      refine WL.c rfl (o_ash (show _ = Value.int _ _ from rfl) ?_)
      refine WL.c rfl (o_ash (show _ = Value.int _ _ from rfl) ?_)
      refine WL.nil ?_
      refine W.seq ?_
      refine W.region ?_
      refine WL.c rfl (o_ldA TI24 rfl rfl (show Cells _ b11 0 [shr gv] from Cells.of hC11 0 _ (by simp)) rfl ?_)
      refine WL.c rfl (o_call Try.call17 (lc rfl ln) ((rn_depth_call DF (shr gv) (fun j => shr (U j)) _ hDf.rd hlf hf).mono ?_))
      rintro v103 w103 ⟨d2, rfl, hd2, hx103⟩
      replace hx := hx.tr hx103
      replace hC9 := hx103.blk hC9 (fun h => h)
      replace hC12 := hx103.blk hC12 (fun h => h)
      replace hC14 := hx103.blk hC14 (fun h => h)
      replace hC16 := hx103.blk hC16 (fun h => h)
      replace ho1 := own_ext ho1 hx103
      replace hd1 := own_ext hd1 hx103
      replace ho2 := own_ext ho2 hx103
      refine WL.c rfl (o_mvh (by first | exact (show _ = Value.tuple _ from rfl) | exact rfl) ?_)
      refine WL.c rfl (o_ext rfl rfl ?_)
      refine WL.c rfl (o_ext rfl rfl ?_)
      refine WL.c rfl (o_ext rfl rfl ?_)
      refine WL.c rfl (o_ash (by first | exact (show _ = Value.slice _ _ _ from rfl) | exact rfl) ?_)
      refine WL.c rfl (o_ash (show _ = Value.int _ _ from rfl) ?_)
      refine WL.c rfl (o_ash (show _ = Value.int _ _ from rfl) ?_)
      refine WL.nil ?_
      refine W.seq ?_
      refine W.region ?_
      refine WL.c rfl (o_fa 0 TI32 rfl TI30 rfl rfl ?_)
      refine WL.c rfl (o_ld TI30 rfl rfl (cell_of hC12 rfl) ?_)
      refine WL.c rfl (o_mvh (show _ = Value.int _ _ from rfl) ?_)
      refine WL.c rfl (o_eq rfl rfl ?_)
      refine WL.c rfl (o_mvh (show _ = Value.bool _ from rfl) ?_)
      refine WL.g rfl (by simp) rfl (o_fa 1 TI32 rfl TI3 rfl rfl ?_)
      refine WL.g rfl (by simp) rfl (o_ld TI3 rfl rfl (cell_of hC12 rfl) ?_)
      refine WL.g rfl (by simp) rfl (o_mvh (show _ = Value.int _ _ from rfl) ?_)
      refine WL.g rfl (by simp) rfl (o_eq rfl rfl ?_)
      refine WL.c rfl (o_pickA rfl rfl ?_)
      refine WL.c rfl (o_mvh (show _ = Value.bool _ from rfl) ?_)
      refine WL.g rfl (by simp) rfl (o_ldA TI32 rfl rfl (show Cells _ b12 0 [.int .i64 er, .int .i64 at_] from Cells.of hC12 0 _ (by simp)) rfl ?_)
      refine WL.g rfl (by simp) rfl (o_ldA TI32 rfl rfl (show Cells _ b14 0 [.int .i64 er, .int .i64 at_] from Cells.of hC14 0 _ (by simp)) rfl ?_)
      refine WL.g rfl (by simp) rfl (o_eqR TI32 (by kernel_rfl) (by kernel_rfl) rfl rfl (.int TI30 (by decide) rfl rfl (.int TI3 (by decide) rfl rfl .nil)) ?_)
      refine WL.c rfl (o_pickA rfl rfl ?_)
      refine WL.c rfl (o_mvh (show _ = Value.bool _ from rfl) ?_)
      refine WL.g rfl (by simp) rfl (o_ldA TI32 rfl rfl (show Cells _ b12 0 [.int .i64 er, .int .i64 at_] from Cells.of hC12 0 _ (by simp)) rfl ?_)
      refine WL.g rfl (by simp) rfl (o_ldA TI32 rfl rfl (show Cells _ b16 0 [.int .i64 er, .int .i64 at_] from Cells.of hC16 0 _ (by simp)) rfl ?_)
      refine WL.g rfl (by simp) rfl (o_eqR TI32 (by kernel_rfl) (by kernel_rfl) rfl rfl (.int TI30 (by decide) rfl rfl (.int TI3 (by decide) rfl rfl .nil)) ?_)
      refine WL.c rfl (o_pickA rfl rfl ?_)
      refine WL.c rfl (o_mvh (show _ = Value.bool _ from rfl) ?_)
      refine WL.g rfl (by simp) rfl (o_mvh (by first | exact (show _ = Value.slice _ _ _ from rfl) | exact rfl) ?_)
      refine WL.g rfl (by simp) rfl (o_mvh (by first | exact (show _ = Value.slice _ _ _ from rfl) | exact rfl) ?_)
      refine WL.g rfl (by simp) rfl (o_call Try.call18 (lc rfl (lc rfl ln)) ((n8_intn (ordR DF) (ordR DF) o1 o2 _ (Sl.own ho1) (Sl.own ho2) (by omega)).mono ?_))
      rintro v130 w130 ⟨rfl, hx130⟩
      replace hx := hx.tr hx130
      replace hd1 := own_ext hd1 hx130
      replace hd2 := own_ext hd2 hx130
      refine WL.c rfl (o_pickA rfl rfl ?_)
      refine WL.c rfl (o_mvh (show _ = Value.bool _ from rfl) ?_)
      refine WL.g rfl (by simp) rfl (o_mvh (by first | exact (show _ = Value.slice _ _ _ from rfl) | exact rfl) ?_)
      refine WL.g rfl (by simp) rfl (o_mvh (by first | exact (show _ = Value.slice _ _ _ from rfl) | exact rfl) ?_)
      refine WL.g rfl (by simp) rfl (o_call Try.call18 (lc rfl (lc rfl ln)) ((n8_intn (depR DF) (depR DF) d1 d2 _ (Sl.own hd1) (Sl.own hd2) (by omega)).mono ?_))
      rintro v135 w135 ⟨rfl, hx135⟩
      replace hx := hx.tr hx135
      refine WL.c rfl (o_pickA rfl rfl ?_)
      refine WL.c rfl (o_ash (show _ = Value.bool _ from rfl) ?_)
      refine WL.nil ?_
      refine W.ret ?_
      refine ret1v rfl (show _ = Value.bool _ from rfl) ?_
      exact ⟨congrArg Value.bool (by simp), hx⟩
    · skip
      skip
      refine W.region ?_
      refine WL.c rfl (o_mvh (show _ = Value.int _ _ from rfl) ?_)
      refine WL.c rfl (o_ge rfl rfl ?_)
      refine WL.c rfl (o_mvh (show _ = Value.bool _ from rfl) ?_)
      refine WL.g rfl (decide_eq_true (by omega)) rfl (o_mvh (show _ = Value.int _ _ from rfl) ?_)
      refine WL.g rfl (decide_eq_true (by omega)) rfl (o_fa 0 TI24 rfl TI22 rfl rfl ?_)
      refine WL.g rfl (decide_eq_true (by omega)) rfl (o_ld TI22 rfl rfl (cell_of hC11s rfl) ?_)
      refine WL.g rfl (decide_eq_true (by omega)) rfl (o_mvh (show _ = Value.int _ _ from rfl) ?_)
      refine WL.g rfl (decide_eq_true (by omega)) rfl (o_ixB (i := i) TI22 TI39 (show _ = Value.slice (some ⟨gb, 0, none⟩) D.length gc from rfl) (show _ = Value.int .i64 (i : Int) from rfl) (by omega) ?_)
      refine WL.g rfl (decide_eq_true (by omega)) rfl (o_fa 2 TI39 rfl TI37 rfl rfl ?_)
      refine WL.g rfl (decide_eq_true (by omega)) rfl (o_ld TI37 rfl rfl (htc1 2 _ rfl) ?_)
      refine WL.g rfl (decide_eq_true (by omega)) rfl (o_lenR TI37 rfl hty1 ?_)
      refine WL.g rfl (decide_eq_true (by omega)) rfl (o_lt rfl rfl ?_)
      refine WL.c rfl (o_pickA rfl rfl ?_)
      refine WL.nil ?_
      refine W.condF' rfl (by simp; omega) ?_
      refine W.skip ?_
      refine W.seq ?_
      obtain ⟨DF, hDf, hlf⟩ : ∃ DF, Defs w55 w30.heap.size DF (shr gv) (fun j => shr (U j)) ∧ DOk DF := ⟨_, hDe, hlim2⟩
      obtain ⟨er, at_, hf⟩ : ∃ er at_, flt DF = (er, at_) := ⟨_, _, rfl⟩
      have hol := ord_le DF
      have hdl := dep_le2 DF
      have hlenf := hlf.len
      clear hDe hlim2 htc1 hC11s
      refine W.region ?_
      refine WL.c rfl (o_ldA TI24 rfl rfl (show Cells _ b11 0 [shr gv] from Cells.of hC11 0 _ (by simp)) rfl ?_)
      refine WL.c rfl (o_call Try.call12 (lc rfl ln) ((check_call DF (shr gv) (fun j => shr (U j)) _ hDf.rd hlf hf).mono ?_))
      rintro v79 w79 ⟨rfl, hx79⟩
      replace hx := hx.tr hx79
      replace hC9 := hx79.blk hC9 (fun h => h)
      replace hDf := hDf.ext hx79
      replace hC11 := hx79.blk hC11 (fun h => h)
      refine WL.c rfl (o_alB TI32 ?_)
      intro wa hCa hxa hsa
      refine WL.u (o_stA TI32 rfl (show _ = Value.agg ([.int .i64 er, .int .i64 at_]).toArray from rfl) rfl rfl hCa rfl ?_)
      intro wb12 hC12 hob hsb
      have hxb := Ext.own hxa (Nat.le_refl _) hob
      obtain ⟨b12, hb12⟩ : ∃ b, b = w79.heap.size := ⟨_, rfl⟩
      rw [← hb12] at hC12 ⊢
      clear hCa hxa hsa hob hsb
      replace hx := hx.tr hxb
      replace hC9 := hxb.blk hC9 (fun h => h)
      replace hDf := hDf.ext hxb
      replace hC11 := hxb.blk hC11 (fun h => h)
      clear hxb
      refine WL.nil ?_
      refine W.seq ?_
      refine W.region ?_
      refine WL.c rfl (o_ldA TI24 rfl rfl (show Cells _ b11 0 [shr gv] from Cells.of hC11 0 _ (by simp)) rfl ?_)
      refine WL.c rfl (o_call Try.call13 (lc rfl ln) ((order_call DF (shr gv) (fun j => shr (U j)) _ hDf.rd hlf hf).mono ?_))
      rintro v82 w82 ⟨o1, rfl, ho1, hx82⟩
      replace hx := hx.tr hx82
      replace hC9 := hx82.blk hC9 (fun h => h)
      replace hDf := hDf.ext hx82
      replace hC11 := hx82.blk hC11 (fun h => h)
      replace hC12 := hx82.blk hC12 (fun h => h)
      refine WL.c rfl (o_mvh (by first | exact (show _ = Value.tuple _ from rfl) | exact rfl) ?_)
      refine WL.c rfl (o_ext rfl rfl ?_)
      refine WL.c rfl (o_ext rfl rfl ?_)
      refine WL.c rfl (o_alB TI32 ?_)
      intro wa hCa hxa hsa
      refine WL.c rfl (o_ash (by first | exact (show _ = Value.slice _ _ _ from rfl) | exact rfl) ?_)
      refine WL.u (o_stA TI32 rfl (show _ = Value.agg ([.int .i64 er, .int .i64 at_]).toArray from rfl) rfl rfl hCa rfl ?_)
      intro wb14 hC14 hob hsb
      have hxb := Ext.own hxa (Nat.le_refl _) hob
      obtain ⟨b14, hb14⟩ : ∃ b, b = w82.heap.size := ⟨_, rfl⟩
      rw [← hb14] at hC14 ⊢
      clear hCa hxa hsa hob hsb
      replace hx := hx.tr hxb
      replace hC9 := hxb.blk hC9 (fun h => h)
      replace hDf := hDf.ext hxb
      replace hC11 := hxb.blk hC11 (fun h => h)
      replace hC12 := hxb.blk hC12 (fun h => h)
      replace ho1 := own_ext ho1 hxb
      clear hxb
      refine WL.nil ?_
      refine W.seq ?_
      refine W.region ?_
      refine WL.c rfl (o_ldA TI24 rfl rfl (show Cells _ b11 0 [shr gv] from Cells.of hC11 0 _ (by simp)) rfl ?_)
      refine WL.c rfl (o_call Try.call14 (lc rfl ln) ((depth_call DF (shr gv) (fun j => shr (U j)) _ hDf.rd hlf hf).mono ?_))
      rintro v87 w87 ⟨d1, rfl, hd1, hx87⟩
      replace hx := hx.tr hx87
      replace hC9 := hx87.blk hC9 (fun h => h)
      replace hDf := hDf.ext hx87
      replace hC11 := hx87.blk hC11 (fun h => h)
      replace hC12 := hx87.blk hC12 (fun h => h)
      replace hC14 := hx87.blk hC14 (fun h => h)
      replace ho1 := own_ext ho1 hx87
      refine WL.c rfl (o_mvh (by first | exact (show _ = Value.tuple _ from rfl) | exact rfl) ?_)
      refine WL.c rfl (o_ext rfl rfl ?_)
      refine WL.c rfl (o_ext rfl rfl ?_)
      refine WL.c rfl (o_alB TI32 ?_)
      intro wa hCa hxa hsa
      refine WL.c rfl (o_ash (by first | exact (show _ = Value.slice _ _ _ from rfl) | exact rfl) ?_)
      refine WL.u (o_stA TI32 rfl (show _ = Value.agg ([.int .i64 er, .int .i64 at_]).toArray from rfl) rfl rfl hCa rfl ?_)
      intro wb16 hC16 hob hsb
      have hxb := Ext.own hxa (Nat.le_refl _) hob
      obtain ⟨b16, hb16⟩ : ∃ b, b = w87.heap.size := ⟨_, rfl⟩
      rw [← hb16] at hC16 ⊢
      clear hCa hxa hsa hob hsb
      replace hx := hx.tr hxb
      replace hC9 := hxb.blk hC9 (fun h => h)
      replace hDf := hDf.ext hxb
      replace hC11 := hxb.blk hC11 (fun h => h)
      replace hC12 := hxb.blk hC12 (fun h => h)
      replace hC14 := hxb.blk hC14 (fun h => h)
      replace ho1 := own_ext ho1 hxb
      replace hd1 := own_ext hd1 hxb
      clear hxb
      refine WL.nil ?_
      refine W.seq ?_
      refine W.region ?_
      refine WL.c rfl (o_ldA TI24 rfl rfl (show Cells _ b11 0 [shr gv] from Cells.of hC11 0 _ (by simp)) rfl ?_)
      refine WL.c rfl (o_call Try.call15 (lc rfl ln) ((rn_check_call DF (shr gv) (fun j => shr (U j)) _ hDf.rd hlf hf).mono ?_))
      rintro v92 w92 ⟨rfl, hx92⟩
      replace hx := hx.tr hx92
      replace hC9 := hx92.blk hC9 (fun h => h)
      replace hDf := hDf.ext hx92
      replace hC11 := hx92.blk hC11 (fun h => h)
      replace hC12 := hx92.blk hC12 (fun h => h)
      replace hC14 := hx92.blk hC14 (fun h => h)
      replace hC16 := hx92.blk hC16 (fun h => h)
      replace ho1 := own_ext ho1 hx92
      replace hd1 := own_ext hd1 hx92
      refine WL.c rfl (o_mvh (by first | exact (show _ = Value.tuple _ from rfl) | exact rfl) ?_)
      refine WL.c rfl (o_ext rfl rfl ?_)
      refine WL.c rfl (o_ext rfl rfl ?_)
      refine WL.c rfl (o_ash (show _ = Value.int _ _ from rfl) ?_)
      refine WL.c rfl (o_ash (show _ = Value.int _ _ from rfl) ?_)
      refine WL.nil ?_
      refine W.seq ?_
      refine W.region ?_
      refine WL.c rfl (o_ldA TI24 rfl rfl (show Cells _ b11 0 [shr gv] from Cells.of hC11 0 _ (by simp)) rfl ?_)
      refine WL.c rfl (o_call Try.call16 (lc rfl ln) ((rn_order_call DF (shr gv) (fun j => shr (U j)) _ hDf.rd hlf hf).mono ?_))
      rintro v97 w97 ⟨o2, rfl, ho2, hx97⟩
      replace hx := hx.tr hx97
      replace hC9 := hx97.blk hC9 (fun h => h)
      replace hDf := hDf.ext hx97
      replace hC11 := hx97.blk hC11 (fun h => h)
      replace hC12 := hx97.blk hC12 (fun h => h)
      replace hC14 := hx97.blk hC14 (fun h => h)
      replace hC16 := hx97.blk hC16 (fun h => h)
      replace ho1 := own_ext ho1 hx97
      replace hd1 := own_ext hd1 hx97
      refine WL.c rfl (o_mvh (by first | exact (show _ = Value.tuple _ from rfl) | exact rfl) ?_)
      refine WL.c rfl (o_ext rfl rfl ?_)
      refine WL.c rfl (o_ext rfl rfl ?_)
      refine WL.c rfl (o_ext rfl rfl ?_)
      refine WL.c rfl (o_ash (by first | exact (show _ = Value.slice _ _ _ from rfl) | exact rfl) ?_)
      refine WL.c rfl (o_ash (show _ = Value.int _ _ from rfl) ?_)
      refine WL.c rfl (o_ash (show _ = Value.int _ _ from rfl) ?_)
      refine WL.nil ?_
      refine W.seq ?_
      refine W.region ?_
      refine WL.c rfl (o_ldA TI24 rfl rfl (show Cells _ b11 0 [shr gv] from Cells.of hC11 0 _ (by simp)) rfl ?_)
      refine WL.c rfl (o_call Try.call17 (lc rfl ln) ((rn_depth_call DF (shr gv) (fun j => shr (U j)) _ hDf.rd hlf hf).mono ?_))
      rintro v103 w103 ⟨d2, rfl, hd2, hx103⟩
      replace hx := hx.tr hx103
      replace hC9 := hx103.blk hC9 (fun h => h)
      replace hC12 := hx103.blk hC12 (fun h => h)
      replace hC14 := hx103.blk hC14 (fun h => h)
      replace hC16 := hx103.blk hC16 (fun h => h)
      replace ho1 := own_ext ho1 hx103
      replace hd1 := own_ext hd1 hx103
      replace ho2 := own_ext ho2 hx103
      refine WL.c rfl (o_mvh (by first | exact (show _ = Value.tuple _ from rfl) | exact rfl) ?_)
      refine WL.c rfl (o_ext rfl rfl ?_)
      refine WL.c rfl (o_ext rfl rfl ?_)
      refine WL.c rfl (o_ext rfl rfl ?_)
      refine WL.c rfl (o_ash (by first | exact (show _ = Value.slice _ _ _ from rfl) | exact rfl) ?_)
      refine WL.c rfl (o_ash (show _ = Value.int _ _ from rfl) ?_)
      refine WL.c rfl (o_ash (show _ = Value.int _ _ from rfl) ?_)
      refine WL.nil ?_
      refine W.seq ?_
      refine W.region ?_
      refine WL.c rfl (o_fa 0 TI32 rfl TI30 rfl rfl ?_)
      refine WL.c rfl (o_ld TI30 rfl rfl (cell_of hC12 rfl) ?_)
      refine WL.c rfl (o_mvh (show _ = Value.int _ _ from rfl) ?_)
      refine WL.c rfl (o_eq rfl rfl ?_)
      refine WL.c rfl (o_mvh (show _ = Value.bool _ from rfl) ?_)
      refine WL.g rfl (by simp) rfl (o_fa 1 TI32 rfl TI3 rfl rfl ?_)
      refine WL.g rfl (by simp) rfl (o_ld TI3 rfl rfl (cell_of hC12 rfl) ?_)
      refine WL.g rfl (by simp) rfl (o_mvh (show _ = Value.int _ _ from rfl) ?_)
      refine WL.g rfl (by simp) rfl (o_eq rfl rfl ?_)
      refine WL.c rfl (o_pickA rfl rfl ?_)
      refine WL.c rfl (o_mvh (show _ = Value.bool _ from rfl) ?_)
      refine WL.g rfl (by simp) rfl (o_ldA TI32 rfl rfl (show Cells _ b12 0 [.int .i64 er, .int .i64 at_] from Cells.of hC12 0 _ (by simp)) rfl ?_)
      refine WL.g rfl (by simp) rfl (o_ldA TI32 rfl rfl (show Cells _ b14 0 [.int .i64 er, .int .i64 at_] from Cells.of hC14 0 _ (by simp)) rfl ?_)
      refine WL.g rfl (by simp) rfl (o_eqR TI32 (by kernel_rfl) (by kernel_rfl) rfl rfl (.int TI30 (by decide) rfl rfl (.int TI3 (by decide) rfl rfl .nil)) ?_)
      refine WL.c rfl (o_pickA rfl rfl ?_)
      refine WL.c rfl (o_mvh (show _ = Value.bool _ from rfl) ?_)
      refine WL.g rfl (by simp) rfl (o_ldA TI32 rfl rfl (show Cells _ b12 0 [.int .i64 er, .int .i64 at_] from Cells.of hC12 0 _ (by simp)) rfl ?_)
      refine WL.g rfl (by simp) rfl (o_ldA TI32 rfl rfl (show Cells _ b16 0 [.int .i64 er, .int .i64 at_] from Cells.of hC16 0 _ (by simp)) rfl ?_)
      refine WL.g rfl (by simp) rfl (o_eqR TI32 (by kernel_rfl) (by kernel_rfl) rfl rfl (.int TI30 (by decide) rfl rfl (.int TI3 (by decide) rfl rfl .nil)) ?_)
      refine WL.c rfl (o_pickA rfl rfl ?_)
      refine WL.c rfl (o_mvh (show _ = Value.bool _ from rfl) ?_)
      refine WL.g rfl (by simp) rfl (o_mvh (by first | exact (show _ = Value.slice _ _ _ from rfl) | exact rfl) ?_)
      refine WL.g rfl (by simp) rfl (o_mvh (by first | exact (show _ = Value.slice _ _ _ from rfl) | exact rfl) ?_)
      refine WL.g rfl (by simp) rfl (o_call Try.call18 (lc rfl (lc rfl ln)) ((n8_intn (ordR DF) (ordR DF) o1 o2 _ (Sl.own ho1) (Sl.own ho2) (by omega)).mono ?_))
      rintro v130 w130 ⟨rfl, hx130⟩
      replace hx := hx.tr hx130
      replace hd1 := own_ext hd1 hx130
      replace hd2 := own_ext hd2 hx130
      refine WL.c rfl (o_pickA rfl rfl ?_)
      refine WL.c rfl (o_mvh (show _ = Value.bool _ from rfl) ?_)
      refine WL.g rfl (by simp) rfl (o_mvh (by first | exact (show _ = Value.slice _ _ _ from rfl) | exact rfl) ?_)
      refine WL.g rfl (by simp) rfl (o_mvh (by first | exact (show _ = Value.slice _ _ _ from rfl) | exact rfl) ?_)
      refine WL.g rfl (by simp) rfl (o_call Try.call18 (lc rfl (lc rfl ln)) ((n8_intn (depR DF) (depR DF) d1 d2 _ (Sl.own hd1) (Sl.own hd2) (by omega)).mono ?_))
      rintro v135 w135 ⟨rfl, hx135⟩
      replace hx := hx.tr hx135
      refine WL.c rfl (o_pickA rfl rfl ?_)
      refine WL.c rfl (o_ash (show _ = Value.bool _ from rfl) ?_)
      refine WL.nil ?_
      refine W.ret ?_
      refine ret1v rfl (show _ = Value.bool _ from rfl) ?_
      exact ⟨congrArg Value.bool (by simp), hx⟩
    · skip
      obtain ⟨g2, cap2, hU', hgb2⟩ := own_some (hDe.tys.row i hi2) (by show 0 < (tyD D2 i).length; omega)
      replace hU' : shr (U i) = .slice (some ⟨g2, 0, none⟩) (tyD D2 i).length cap2 := hU'
      rw [hU'] at htc1 hty1
      refine W.region ?_
      refine WL.c rfl (o_mvh (show _ = Value.int _ _ from rfl) ?_)
      refine WL.c rfl (o_ge rfl rfl ?_)
      refine WL.c rfl (o_mvh (show _ = Value.bool _ from rfl) ?_)
      refine WL.g rfl (decide_eq_true (by omega)) rfl (o_mvh (show _ = Value.int _ _ from rfl) ?_)
      refine WL.g rfl (decide_eq_true (by omega)) rfl (o_fa 0 TI24 rfl TI22 rfl rfl ?_)
      refine WL.g rfl (decide_eq_true (by omega)) rfl (o_ld TI22 rfl rfl (cell_of hC11s rfl) ?_)
      refine WL.g rfl (decide_eq_true (by omega)) rfl (o_mvh (show _ = Value.int _ _ from rfl) ?_)
      refine WL.g rfl (decide_eq_true (by omega)) rfl (o_ixB (i := i) TI22 TI39 (show _ = Value.slice (some ⟨gb, 0, none⟩) D.length gc from rfl) (show _ = Value.int .i64 (i : Int) from rfl) (by omega) ?_)
      refine WL.g rfl (decide_eq_true (by omega)) rfl (o_fa 2 TI39 rfl TI37 rfl rfl ?_)
      refine WL.g rfl (decide_eq_true (by omega)) rfl (o_ld TI37 rfl rfl (htc1 2 _ rfl) ?_)
      refine WL.g rfl (decide_eq_true (by omega)) rfl (o_lenR TI37 rfl hty1 ?_)
      refine WL.g rfl (decide_eq_true (by omega)) rfl (o_lt rfl rfl ?_)
      refine WL.c rfl (o_pickA rfl rfl ?_)
      refine WL.nil ?_
      refine W.condT' rfl (by simp; omega) ?_
      refine W.tail 8 rfl (by kernel_rfl) ?_
      refine WS.c rfl ((SO.o rfl (o_fa 0 TI24 rfl TI22 rfl rfl ⟨rfl, rfl⟩))) ?_
      refine WS.c rfl ((SO.o rfl (o_ld TI22 rfl rfl (cell_of hC11s rfl) ⟨rfl, rfl⟩))) ?_
      refine WS.c rfl ((SO.o rfl (o_mvh (show _ = Value.int _ _ from rfl) ⟨rfl, rfl⟩))) ?_
      refine WS.c rfl ((SO.o rfl (o_ixB (i := i) TI22 TI39 (show _ = Value.slice (some ⟨gb, 0, none⟩) D.length gc from rfl) (show _ = Value.int .i64 (i : Int) from rfl) (by omega) ⟨rfl, rfl⟩))) ?_
      refine WS.c rfl ((SO.o rfl (o_fa 2 TI39 rfl TI37 rfl rfl ⟨rfl, rfl⟩))) ?_
      refine WS.c rfl ((SO.o rfl (o_ld TI37 rfl rfl (htc1 2 _ rfl) ⟨rfl, rfl⟩))) ?_
      refine WS.c rfl ((SO.o rfl (o_mvh (show _ = Value.int _ _ from rfl) ⟨rfl, rfl⟩))) ?_
      refine WS.c rfl ((SO.o rfl (o_ldA TI26 rfl rfl (show Cells _ b9 0 (exV x) from Cells.of hC9 0 _ (by simp)) rfl ⟨rfl, rfl⟩))) ?_
      refine WS.nil ?_
      have hxd := Only.drew w55
      replace hx := hx.tr hxd
      replace hC9 := hxd.blk hC9 (fun h => h)
      replace hDe := hDe.ext hxd
      replace hC11 := hxd.blk hC11 (fun h => h)
      replace hC11s := hxd.blk hC11s (fun h => h)
      replace htc1 := Cells.only htc1 hxd (fun h => h)
      clear hxd
      generalize w55.drew = wd at *
      have hrow2 := hDe.tys.row i hi2
      replace hrow2 : wd.ownsRow w30.heap.size 26 7 (.slice (some ⟨g2, 0, none⟩) (tyD D2 i).length cap2) (tyD D2 i).length (exs (tyD D2 i)) := hU' ▸ hrow2
      refine WL.c rfl (o_ixB (i := j) TI37 TI26 (show _ = Value.slice (some ⟨g2, 0, none⟩) (tyD D2 i).length cap2 from rfl) (show _ = Value.int .i64 (j : Int) from rfl) (by omega) ?_)
      refine WL.u (o_stRA TI26 rfl (Nat.zero_add _) (show _ = Value.agg (exV x).toArray from rfl) rfl rfl hrow2 rfl hj ?_)
      intro w77 hrow3 ho77 hs77
      replace hrow3 : w77.ownsRow w30.heap.size 26 7 (shr (U i)) (tyD D2 i).length (exs ((tyD D2 i).set j x)) := by rw [hU', ← exs_set7 hj]; exact hrow3
      replace ho77 : Only (fun k => (shr (U i)).ownBlock = some k) wd w77 := by rw [hU']; exact ho77
      have hlU : ∀ k, (shr (U i)).ownBlock = some k → w30.heap.size ≤ k := fun k hk => (hDe.tys.lt hi2 hk).1
      have hC11 := ho77.blk hC11 (fun hk => own_off (hDe.tys.row i hi2) hC11 (by decide) hk)
      replace hC9 := ho77.blk hC9 (fun hk => by have h1 := hlU _ hk; omega)
      replace hDe := hDe.setE hi2 ho77 hrow3
      replace hx := hx.trans' ho77 (fun _ h => h) (fun k hk he => by have := hlU k he; omega)
      replace hlim2 := hlim2.setE (d := i) (n := j) hxo
      refine WL.nil ?_
      refine W.seq ?_
      obtain ⟨DF, hDf, hlf⟩ : ∃ DF, Defs w77 w30.heap.size DF (shr gv) (fun j => shr (U j)) ∧ DOk DF := ⟨_, hDe, hlim2⟩
      obtain ⟨er, at_, hf⟩ : ∃ er at_, flt DF = (er, at_) := ⟨_, _, rfl⟩
      have hol := ord_le DF
      have hdl := dep_le2 DF
      have hlenf := hlf.len
      clear hDe hlim2 htc1 hC11s
      refine W.region ?_
      refine WL.c rfl (o_ldA TI24 rfl rfl (show Cells _ b11 0 [shr gv] from Cells.of hC11 0 _ (by simp)) rfl ?_)
      refine WL.c rfl (o_call Try.call12 (lc rfl ln) ((check_call DF (shr gv) (fun j => shr (U j)) _ hDf.rd hlf hf).mono ?_))
      rintro v79 w79 ⟨rfl, hx79⟩
      replace hx := hx.tr hx79
      replace hC9 := hx79.blk hC9 (fun h => h)
      replace hDf := hDf.ext hx79
      replace hC11 := hx79.blk hC11 (fun h => h)
      refine WL.c rfl (o_alB TI32 ?_)
      intro wa hCa hxa hsa
      refine WL.u (o_stA TI32 rfl (show _ = Value.agg ([.int .i64 er, .int .i64 at_]).toArray from rfl) rfl rfl hCa rfl ?_)
      intro wb12 hC12 hob hsb
      have hxb := Ext.own hxa (Nat.le_refl _) hob
      obtain ⟨b12, hb12⟩ : ∃ b, b = w79.heap.size := ⟨_, rfl⟩
      rw [← hb12] at hC12 ⊢
      clear hCa hxa hsa hob hsb
      replace hx := hx.tr hxb
      replace hC9 := hxb.blk hC9 (fun h => h)
      replace hDf := hDf.ext hxb
      replace hC11 := hxb.blk hC11 (fun h => h)
      clear hxb
      refine WL.nil ?_
      refine W.seq ?_
      refine W.region ?_
      refine WL.c rfl (o_ldA TI24 rfl rfl (show Cells _ b11 0 [shr gv] from Cells.of hC11 0 _ (by simp)) rfl ?_)
      refine WL.c rfl (o_call Try.call13 (lc rfl ln) ((order_call DF (shr gv) (fun j => shr (U j)) _ hDf.rd hlf hf).mono ?_))
      rintro v82 w82 ⟨o1, rfl, ho1, hx82⟩
      replace hx := hx.tr hx82
      replace hC9 := hx82.blk hC9 (fun h => h)
      replace hDf := hDf.ext hx82
      replace hC11 := hx82.blk hC11 (fun h => h)
      replace hC12 := hx82.blk hC12 (fun h => h)
      refine WL.c rfl (o_mvh (by first | exact (show _ = Value.tuple _ from rfl) | exact rfl) ?_)
      refine WL.c rfl (o_ext rfl rfl ?_)
      refine WL.c rfl (o_ext rfl rfl ?_)
      refine WL.c rfl (o_alB TI32 ?_)
      intro wa hCa hxa hsa
      refine WL.c rfl (o_ash (by first | exact (show _ = Value.slice _ _ _ from rfl) | exact rfl) ?_)
      refine WL.u (o_stA TI32 rfl (show _ = Value.agg ([.int .i64 er, .int .i64 at_]).toArray from rfl) rfl rfl hCa rfl ?_)
      intro wb14 hC14 hob hsb
      have hxb := Ext.own hxa (Nat.le_refl _) hob
      obtain ⟨b14, hb14⟩ : ∃ b, b = w82.heap.size := ⟨_, rfl⟩
      rw [← hb14] at hC14 ⊢
      clear hCa hxa hsa hob hsb
      replace hx := hx.tr hxb
      replace hC9 := hxb.blk hC9 (fun h => h)
      replace hDf := hDf.ext hxb
      replace hC11 := hxb.blk hC11 (fun h => h)
      replace hC12 := hxb.blk hC12 (fun h => h)
      replace ho1 := own_ext ho1 hxb
      clear hxb
      refine WL.nil ?_
      refine W.seq ?_
      refine W.region ?_
      refine WL.c rfl (o_ldA TI24 rfl rfl (show Cells _ b11 0 [shr gv] from Cells.of hC11 0 _ (by simp)) rfl ?_)
      refine WL.c rfl (o_call Try.call14 (lc rfl ln) ((depth_call DF (shr gv) (fun j => shr (U j)) _ hDf.rd hlf hf).mono ?_))
      rintro v87 w87 ⟨d1, rfl, hd1, hx87⟩
      replace hx := hx.tr hx87
      replace hC9 := hx87.blk hC9 (fun h => h)
      replace hDf := hDf.ext hx87
      replace hC11 := hx87.blk hC11 (fun h => h)
      replace hC12 := hx87.blk hC12 (fun h => h)
      replace hC14 := hx87.blk hC14 (fun h => h)
      replace ho1 := own_ext ho1 hx87
      refine WL.c rfl (o_mvh (by first | exact (show _ = Value.tuple _ from rfl) | exact rfl) ?_)
      refine WL.c rfl (o_ext rfl rfl ?_)
      refine WL.c rfl (o_ext rfl rfl ?_)
      refine WL.c rfl (o_alB TI32 ?_)
      intro wa hCa hxa hsa
      refine WL.c rfl (o_ash (by first | exact (show _ = Value.slice _ _ _ from rfl) | exact rfl) ?_)
      refine WL.u (o_stA TI32 rfl (show _ = Value.agg ([.int .i64 er, .int .i64 at_]).toArray from rfl) rfl rfl hCa rfl ?_)
      intro wb16 hC16 hob hsb
      have hxb := Ext.own hxa (Nat.le_refl _) hob
      obtain ⟨b16, hb16⟩ : ∃ b, b = w87.heap.size := ⟨_, rfl⟩
      rw [← hb16] at hC16 ⊢
      clear hCa hxa hsa hob hsb
      replace hx := hx.tr hxb
      replace hC9 := hxb.blk hC9 (fun h => h)
      replace hDf := hDf.ext hxb
      replace hC11 := hxb.blk hC11 (fun h => h)
      replace hC12 := hxb.blk hC12 (fun h => h)
      replace hC14 := hxb.blk hC14 (fun h => h)
      replace ho1 := own_ext ho1 hxb
      replace hd1 := own_ext hd1 hxb
      clear hxb
      refine WL.nil ?_
      refine W.seq ?_
      refine W.region ?_
      refine WL.c rfl (o_ldA TI24 rfl rfl (show Cells _ b11 0 [shr gv] from Cells.of hC11 0 _ (by simp)) rfl ?_)
      refine WL.c rfl (o_call Try.call15 (lc rfl ln) ((rn_check_call DF (shr gv) (fun j => shr (U j)) _ hDf.rd hlf hf).mono ?_))
      rintro v92 w92 ⟨rfl, hx92⟩
      replace hx := hx.tr hx92
      replace hC9 := hx92.blk hC9 (fun h => h)
      replace hDf := hDf.ext hx92
      replace hC11 := hx92.blk hC11 (fun h => h)
      replace hC12 := hx92.blk hC12 (fun h => h)
      replace hC14 := hx92.blk hC14 (fun h => h)
      replace hC16 := hx92.blk hC16 (fun h => h)
      replace ho1 := own_ext ho1 hx92
      replace hd1 := own_ext hd1 hx92
      refine WL.c rfl (o_mvh (by first | exact (show _ = Value.tuple _ from rfl) | exact rfl) ?_)
      refine WL.c rfl (o_ext rfl rfl ?_)
      refine WL.c rfl (o_ext rfl rfl ?_)
      refine WL.c rfl (o_ash (show _ = Value.int _ _ from rfl) ?_)
      refine WL.c rfl (o_ash (show _ = Value.int _ _ from rfl) ?_)
      refine WL.nil ?_
      refine W.seq ?_
      refine W.region ?_
      refine WL.c rfl (o_ldA TI24 rfl rfl (show Cells _ b11 0 [shr gv] from Cells.of hC11 0 _ (by simp)) rfl ?_)
      refine WL.c rfl (o_call Try.call16 (lc rfl ln) ((rn_order_call DF (shr gv) (fun j => shr (U j)) _ hDf.rd hlf hf).mono ?_))
      rintro v97 w97 ⟨o2, rfl, ho2, hx97⟩
      replace hx := hx.tr hx97
      replace hC9 := hx97.blk hC9 (fun h => h)
      replace hDf := hDf.ext hx97
      replace hC11 := hx97.blk hC11 (fun h => h)
      replace hC12 := hx97.blk hC12 (fun h => h)
      replace hC14 := hx97.blk hC14 (fun h => h)
      replace hC16 := hx97.blk hC16 (fun h => h)
      replace ho1 := own_ext ho1 hx97
      replace hd1 := own_ext hd1 hx97
      refine WL.c rfl (o_mvh (by first | exact (show _ = Value.tuple _ from rfl) | exact rfl) ?_)
      refine WL.c rfl (o_ext rfl rfl ?_)
      refine WL.c rfl (o_ext rfl rfl ?_)
      refine WL.c rfl (o_ext rfl rfl ?_)
      refine WL.c rfl (o_ash (by first | exact (show _ = Value.slice _ _ _ from rfl) | exact rfl) ?_)
      refine WL.c rfl (o_ash (show _ = Value.int _ _ from rfl) ?_)
      refine WL.c rfl (o_ash (show _ = Value.int _ _ from rfl) ?_)
      refine WL.nil ?_
      refine W.seq ?_
      refine W.region ?_
      refine WL.c rfl (o_ldA TI24 rfl rfl (show Cells _ b11 0 [shr gv] from Cells.of hC11 0 _ (by simp)) rfl ?_)
      refine WL.c rfl (o_call Try.call17 (lc rfl ln) ((rn_depth_call DF (shr gv) (fun j => shr (U j)) _ hDf.rd hlf hf).mono ?_))
      rintro v103 w103 ⟨d2, rfl, hd2, hx103⟩
      replace hx := hx.tr hx103
      replace hC9 := hx103.blk hC9 (fun h => h)
      replace hC12 := hx103.blk hC12 (fun h => h)
      replace hC14 := hx103.blk hC14 (fun h => h)
      replace hC16 := hx103.blk hC16 (fun h => h)
      replace ho1 := own_ext ho1 hx103
      replace hd1 := own_ext hd1 hx103
      replace ho2 := own_ext ho2 hx103
      refine WL.c rfl (o_mvh (by first | exact (show _ = Value.tuple _ from rfl) | exact rfl) ?_)
      refine WL.c rfl (o_ext rfl rfl ?_)
      refine WL.c rfl (o_ext rfl rfl ?_)
      refine WL.c rfl (o_ext rfl rfl ?_)
      refine WL.c rfl (o_ash (by first | exact (show _ = Value.slice _ _ _ from rfl) | exact rfl) ?_)
      refine WL.c rfl (o_ash (show _ = Value.int _ _ from rfl) ?_)
      refine WL.c rfl (o_ash (show _ = Value.int _ _ from rfl) ?_)
      refine WL.nil ?_
      refine W.seq ?_
      refine W.region ?_
      refine WL.c rfl (o_fa 0 TI32 rfl TI30 rfl rfl ?_)
      refine WL.c rfl (o_ld TI30 rfl rfl (cell_of hC12 rfl) ?_)
      refine WL.c rfl (o_mvh (show _ = Value.int _ _ from rfl) ?_)
      refine WL.c rfl (o_eq rfl rfl ?_)
      refine WL.c rfl (o_mvh (show _ = Value.bool _ from rfl) ?_)
      refine WL.g rfl (by simp) rfl (o_fa 1 TI32 rfl TI3 rfl rfl ?_)
      refine WL.g rfl (by simp) rfl (o_ld TI3 rfl rfl (cell_of hC12 rfl) ?_)
      refine WL.g rfl (by simp) rfl (o_mvh (show _ = Value.int _ _ from rfl) ?_)
      refine WL.g rfl (by simp) rfl (o_eq rfl rfl ?_)
      refine WL.c rfl (o_pickA rfl rfl ?_)
      refine WL.c rfl (o_mvh (show _ = Value.bool _ from rfl) ?_)
      refine WL.g rfl (by simp) rfl (o_ldA TI32 rfl rfl (show Cells _ b12 0 [.int .i64 er, .int .i64 at_] from Cells.of hC12 0 _ (by simp)) rfl ?_)
      refine WL.g rfl (by simp) rfl (o_ldA TI32 rfl rfl (show Cells _ b14 0 [.int .i64 er, .int .i64 at_] from Cells.of hC14 0 _ (by simp)) rfl ?_)
      refine WL.g rfl (by simp) rfl (o_eqR TI32 (by kernel_rfl) (by kernel_rfl) rfl rfl (.int TI30 (by decide) rfl rfl (.int TI3 (by decide) rfl rfl .nil)) ?_)
      refine WL.c rfl (o_pickA rfl rfl ?_)
      refine WL.c rfl (o_mvh (show _ = Value.bool _ from rfl) ?_)
      refine WL.g rfl (by simp) rfl (o_ldA TI32 rfl rfl (show Cells _ b12 0 [.int .i64 er, .int .i64 at_] from Cells.of hC12 0 _ (by simp)) rfl ?_)
      refine WL.g rfl (by simp) rfl (o_ldA TI32 rfl rfl (show Cells _ b16 0 [.int .i64 er, .int .i64 at_] from Cells.of hC16 0 _ (by simp)) rfl ?_)
      refine WL.g rfl (by simp) rfl (o_eqR TI32 (by kernel_rfl) (by kernel_rfl) rfl rfl (.int TI30 (by decide) rfl rfl (.int TI3 (by decide) rfl rfl .nil)) ?_)
      refine WL.c rfl (o_pickA rfl rfl ?_)
      refine WL.c rfl (o_mvh (show _ = Value.bool _ from rfl) ?_)
      refine WL.g rfl (by simp) rfl (o_mvh (by first | exact (show _ = Value.slice _ _ _ from rfl) | exact rfl) ?_)
      refine WL.g rfl (by simp) rfl (o_mvh (by first | exact (show _ = Value.slice _ _ _ from rfl) | exact rfl) ?_)
      refine WL.g rfl (by simp) rfl (o_call Try.call18 (lc rfl (lc rfl ln)) ((n8_intn (ordR DF) (ordR DF) o1 o2 _ (Sl.own ho1) (Sl.own ho2) (by omega)).mono ?_))
      rintro v130 w130 ⟨rfl, hx130⟩
      replace hx := hx.tr hx130
      replace hd1 := own_ext hd1 hx130
      replace hd2 := own_ext hd2 hx130
      refine WL.c rfl (o_pickA rfl rfl ?_)
      refine WL.c rfl (o_mvh (show _ = Value.bool _ from rfl) ?_)
      refine WL.g rfl (by simp) rfl (o_mvh (by first | exact (show _ = Value.slice _ _ _ from rfl) | exact rfl) ?_)
      refine WL.g rfl (by simp) rfl (o_mvh (by first | exact (show _ = Value.slice _ _ _ from rfl) | exact rfl) ?_)
      refine WL.g rfl (by simp) rfl (o_call Try.call18 (lc rfl (lc rfl ln)) ((n8_intn (depR DF) (depR DF) d1 d2 _ (Sl.own hd1) (Sl.own hd2) (by omega)).mono ?_))
      rintro v135 w135 ⟨rfl, hx135⟩
      replace hx := hx.tr hx135
      refine WL.c rfl (o_pickA rfl rfl ?_)
      refine WL.c rfl (o_ash (show _ = Value.bool _ from rfl) ?_)
      refine WL.nil ?_
      refine W.ret ?_
      refine ret1v rfl (show _ = Value.bool _ from rfl) ?_
      exact ⟨congrArg Value.bool (by simp), hx⟩

theorem exact_walk (w0 : World) (D : List Df) (dv : Value) (V : Nat → Value) (hD : DefR w0 D dv V) (hlim : DOk D) (s : ByteArray) (hs : s.size ≤ maxLen) (d : Int) (_ : -9223372036854775808 ≤ d ∧ d ≤ 9223372036854775807) (n : Int) (_ : -9223372036854775808 ≤ n ∧ n ≤ 9223372036854775807) (x : Ex) (hxo : ExOk x) : Ca Try.prog 3 #[.agg #[dv], .string s, .int .i64 d, .int .i64 n, .agg (exV x).toArray] w0 (fun v w' => v = .bool true ∧ Ext w0 w') := by
  rw [st_data]
  refine exact_walk1 w0 D dv V hD hlim s.data.toList ?_ d n x hxo
  have h : s.data.toList.length ≤ maxLen := by simpa using hs
  rw [maxLen_eq] at h
  exact h

end Go.Proofs.Ytgcehajdldicfaa
