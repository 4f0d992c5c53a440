/-
  Walks. Written by program out of specs of mine.
-/
import Derived.Test.YtdiaeafjjffjmaaN
set_option linter.unusedSimpArgs false
set_option linter.unusedVariables false
set_option maxRecDepth 100000
namespace Go.Proofs.Ytdiaeafjjffjmaa
open Go Go.Vc Go.RowKit Go.Proofs
theorem rightl_spec (f : Fr) (tv : Value) (w0 : World) (hS : In w0 tv f.tab) : Ca Try.prog 21 #[.agg (fcells f tv).toArray] w0 (fun v w' => ∃ u, v = .agg (fcells (rightF f) u).toArray ∧ w'.ownsRow w0.heap.size 3 1 u (rightF f).tab.length (ints (rightF f).tab) ∧ Ext w0 w') := by
  refine Ca.of Try.func21 Try.ntmps21 rfl rfl ?_
  refine W.seq ?_
  refine W.region ?_
  refine WL.c rfl (o_boxB rfl ?_)
  intro w1 hC1 hx1 hs1
  replace hC1 : w1.heap[w0.heap.size]? = some (.cells (fcells f tv).toArray 39 (0, 0)) := hC1
  replace hS0 := Sl.ext hS hx1
  refine WL.c rfl (o_alB TI39 ?_)
  intro w2 hC2 hx2 hs2
  have hC1b := hx2.blk hC1 (fun h => h)
  replace hS0 := Sl.ext hS0 hx2
  rw [hs1] at hC2 hs2 ⊢
  replace hC2 : w2.heap[w0.heap.size + 1]? = some (.cells (fcells Fr.nil (.slice none 0 0)).toArray 39 (0, 0)) := hC2
  refine WL.nil ?_
  refine W.seq ?_
  refine W.region ?_
  refine WL.c rfl (o_ldA TI39 rfl rfl (show Cells w2 w0.heap.size 0 (fcells f tv) from Cells.of hC1b 0 _ (by simp)) rfl ?_)
  refine WL.c rfl (o_call Try.call38 (lc rfl ln) ((cut_spec f tv _ hS0).mono ?_))
  rintro v6 w6 ⟨u6, rfl, hub, hS6, hx6⟩
  have hC1c := hx6.blk hC1b (fun h => h)
  replace hC2 := hx6.blk hC2 (fun h => h)
  refine WL.u (o_stA TI39 rfl (show _ = Value.agg (fcells (cutF f) u6).toArray from rfl) rfl (fcells_one (by obtain ⟨a, c, rfl⟩ := hS6.isSlice; rfl)) hC1c rfl ?_)
  intro w7 hB1 ho1 hs7
  replace hC2 := ho1.blk hC2 (show ¬ _ = w0.heap.size by omega)
  replace hS6 := Sl.keep hS6 ho1 (fun b hb he => by rw [hub] at hb; have := Sl.low hS b hb (Nat.le_of_eq (Eq.symm he)); rw [List.map_eq_nil_iff] at this; simp [cutF, this])
  have hx7 : Ext w0 w7 := ((hx1.tr hx2).tr hx6).trans' ho1 (fun _ h => h) (fun j hj he => by omega)
  have hs6 := hx6.size
  refine WL.nil ?_
  refine W.seq ?_
  obtain ⟨wd, hwd⟩ : ∃ wd, wd = w7.drew := ⟨_, rfl⟩
  have hxd : Ext w7 wd := hwd ▸ Only.drew w7
  replace hB1 := hxd.blk hB1 (fun h => h)
  replace hC2 := hxd.blk hC2 (fun h => h)
  replace hS6 := Sl.ext hS6 hxd
  replace hx7 := hx7.tr hxd
  refine W.drawT 22 (Ext) [(1, fun v _ => v = _), (2, fun v _ => v = _)] rfl (by kernel_rfl) (Only.refl No) (fun _ _ _ h k => h.trans k) ⟨Mono.eq, Mono.eq, trivial⟩ ⟨rfl, rfl, trivial⟩ ?_
  refine WD.p rfl (fun e w hR hh => by obtain ⟨h1, -⟩ := hh; exact SG.n (o_fa 0 TI39 rfl TI3 rfl h1 ⟨rfl, Only.refl No _⟩)) ?_
  refine WD.p rfl (fun e w hR hh => by obtain ⟨h7, -⟩ := hh; rw [← hwd] at hR; have hc := hR.blk hB1 (fun h => h); exact SG.n (o_ld TI3 rfl h7 (cell_of hc rfl) ⟨rfl, Only.refl No _⟩)) ?_
  refine WD.p rfl (fun e w hR hh => by obtain ⟨h8, -⟩ := hh; exact SG.n (o_call Try.call13 (lc h8 (lc rfl ln)) ((rest_spec f.rt 4611686018427387904 _ (by decide) (by decide)).mono (fun v w' ⟨h1, h2⟩ => ⟨h1, by rw [h2]; exact Only.refl No _⟩)))) ?_
  refine WD.p rfl (fun e w hR hh => by obtain ⟨h1, -⟩ := hh; exact SG.n (o_fa 1 TI39 rfl TI3 rfl h1 ⟨rfl, Only.refl No _⟩)) ?_
  refine WD.p rfl (fun e w hR hh => by obtain ⟨h10, -⟩ := hh; rw [← hwd] at hR; have hc := hR.blk hB1 (fun h => h); exact SG.n (o_ld TI3 rfl h10 (cell_of hc rfl) ⟨rfl, Only.refl No _⟩)) ?_
  refine WD.p rfl (fun e w hR hh => by obtain ⟨h11, -⟩ := hh; exact SG.n (o_call Try.call13 (lc h11 (lc rfl ln)) ((rest_spec f.pl 4611686018427387904 _ (by decide) (by decide)).mono (fun v w' ⟨h1, h2⟩ => ⟨h1, by rw [h2]; exact Only.refl No _⟩)))) ?_
  refine WD.p rfl (fun e w hR hh => by obtain ⟨h1, -⟩ := hh; exact SG.n (o_fa 2 TI39 rfl TI3 rfl h1 ⟨rfl, Only.refl No _⟩)) ?_
  refine WD.p rfl (fun e w hR hh => by obtain ⟨h13, -⟩ := hh; rw [← hwd] at hR; have hc := hR.blk hB1 (fun h => h); exact SG.n (o_ld TI3 rfl h13 (cell_of hc rfl) ⟨rfl, Only.refl No _⟩)) ?_
  refine WD.p rfl (fun e w hR hh => by obtain ⟨h14, -⟩ := hh; exact SG.n (o_call Try.call13 (lc h14 (lc rfl ln)) ((rest_spec f.bs 4611686018427387904 _ (by decide) (by decide)).mono (fun v w' ⟨h1, h2⟩ => ⟨h1, by rw [h2]; exact Only.refl No _⟩)))) ?_
  refine WD.p rfl (fun e w hR hh => by obtain ⟨h1, -⟩ := hh; exact SG.n (o_fa 3 TI39 rfl TI3 rfl h1 ⟨rfl, Only.refl No _⟩)) ?_
  refine WD.p rfl (fun e w hR hh => by obtain ⟨h16, -⟩ := hh; rw [← hwd] at hR; have hc := hR.blk hB1 (fun h => h); exact SG.n (o_ld TI3 rfl h16 (cell_of hc rfl) ⟨rfl, Only.refl No _⟩)) ?_
  refine WD.p rfl (fun e w hR hh => by obtain ⟨h17, -⟩ := hh; exact SG.n (o_call Try.call13 (lc h17 (lc rfl ln)) ((rest_spec f.en 4611686018427387904 _ (by decide) (by decide)).mono (fun v w' ⟨h1, h2⟩ => ⟨h1, by rw [h2]; exact Only.refl No _⟩)))) ?_
  refine WD.p rfl (fun e w hR hh => by obtain ⟨h18, -⟩ := hh; exact SG.n (o_subi h18 rfl (by omega) ⟨rfl, Only.refl No _⟩)) ?_
  refine WD.p rfl (fun e w hR hh => by obtain ⟨h1, -⟩ := hh; exact SG.n (o_fa 4 TI39 rfl TI3 rfl h1 ⟨rfl, Only.refl No _⟩)) ?_
  refine WD.p rfl (fun e w hR hh => by obtain ⟨h20, -⟩ := hh; rw [← hwd] at hR; have hc := hR.blk hB1 (fun h => h); exact SG.n (o_ld TI3 rfl h20 (cell_of hc rfl) ⟨rfl, Only.refl No _⟩)) ?_
  refine WD.p rfl (fun e w hR hh => by obtain ⟨h21, -⟩ := hh; exact SG.n (o_call Try.call13 (lc h21 (lc rfl ln)) ((rest_spec f.nd 4611686018427387904 _ (by decide) (by decide)).mono (fun v w' ⟨h1, h2⟩ => ⟨h1, by rw [h2]; exact Only.refl No _⟩)))) ?_
  refine WD.p rfl (fun e w hR hh => by obtain ⟨h22, -⟩ := hh; exact SG.n (o_subi h22 rfl (by omega) ⟨rfl, Only.refl No _⟩)) ?_
  refine WD.p rfl (fun e w hR hh => by obtain ⟨h1, -⟩ := hh; exact SG.n (o_fa 5 TI39 rfl TI3 rfl h1 ⟨rfl, Only.refl No _⟩)) ?_
  refine WD.p rfl (fun e w hR hh => by obtain ⟨h24, -⟩ := hh; rw [← hwd] at hR; have hc := hR.blk hB1 (fun h => h); exact SG.n (o_ld TI3 rfl h24 (cell_of hc rfl) ⟨rfl, Only.refl No _⟩)) ?_
  refine WD.p rfl (fun e w hR hh => by obtain ⟨h25, -⟩ := hh; exact SG.n (o_call Try.call13 (lc h25 (lc rfl ln)) ((rest_spec f.nx 4611686018427387904 _ (by decide) (by decide)).mono (fun v w' ⟨h1, h2⟩ => ⟨h1, by rw [h2]; exact Only.refl No _⟩)))) ?_
  refine WD.p rfl (fun e w hR hh => by obtain ⟨h26, h23, h19, h15, h12, h9, -⟩ := hh; exact SG.n (o_bldC (cs := [_, _, _, _, _, _, (.slice none 0 0)]) TI39 (Sizes.cons TI3 (Sizes.cons TI3 (Sizes.cons TI3 (Sizes.cons TI3 (Sizes.cons TI3 (Sizes.cons TI3 (Sizes.cons TI37 Sizes.nil))))))) rfl (lcp h9 (lcp h12 (lcp h15 (lcp h19 (lcp h23 (lcp h26 lnp)))))) rfl rfl ⟨rfl, Only.refl No _⟩)) ?_
  refine WD.q (fun v w => ∃ c, wd.heap.size ≤ c ∧ v = .pointer (some ⟨c, 0, none⟩) ∧ w.heap[c]? = some (.cells (fcells Fr.nil (.slice none 0 0)).toArray 39 (0, 0))) (fun v w w2 hR hh => by obtain ⟨c, h1, h2, h3⟩ := hh; exact ⟨c, h1, h2, hR.blk h3 (fun h => h)⟩) rfl (fun e w hR hh => by skip; rw [← hwd] at hR; exact SG.n (o_alB TI39 (fun w' h1 h2 h3 => ⟨⟨w.heap.size, hR.size, rfl, h1⟩, h2⟩))) ?_
  rintro e w hR ⟨h3, h27, h26, h25, h24, h23, h22, h21, h20, h19, h18, h17, h16, h15, h14, h13, h12, h11, h10, h9, h8, h7, h1, h2, -⟩
  rw [← hwd] at hR
  obtain ⟨c3, hc3, h3v, hC3⟩ := h3
  replace h1 : e 1 = .pointer (some ⟨w0.heap.size, 0, none⟩) := h1
  replace h2 : e 2 = .pointer (some ⟨w0.heap.size + 1, 0, none⟩) := h2
  clear h7 h10 h13 h16 h20 h24
  refine WL.u (o_stA TI39 h3v (show _ = Value.agg (fcells ⟨rHuge f.rt, rHuge f.pl, rHuge f.bs, rHuge f.en - 1, rHuge f.nd - 1, rHuge f.nx, []⟩ (.slice none 0 0)).toArray from h27) rfl rfl hC3 rfl ?_)
  intro w4 hB4 ho4 hs4
  have hxw : Ext wd w4 := hR.trans' ho4 (fun _ h => h) (fun j hj he => by omega)
  have h3 := h3v
  refine WL.nil ?_
  refine W.seq ?_
  refine W.seq ?_
  refine W.region ?_
  refine WL.c rfl (o_as ?_)
  refine WL.nil ?_
  refine W.block ?_
  refine W.loop (fun e w => ∃ (k : Nat) (u : Value), k ≤ (cutF f).tab.length ∧ e 1 = .pointer (some ⟨w0.heap.size, 0, none⟩) ∧ e 2 = .pointer (some ⟨w0.heap.size + 1, 0, none⟩) ∧ e 3 = .pointer (some ⟨c3, 0, none⟩) ∧ e 4 = .int .i64 (k : Int) ∧ w.heap[c3]? = some (.cells (fcells ⟨rHuge f.rt, rHuge f.pl, rHuge f.bs, rHuge f.en - 1, rHuge f.nd - 1, rHuge f.nx, []⟩ u).toArray 39 (0, 0)) ∧ w.ownsRow c3 3 1 u k (ints (((cutF f).tab.take k).map rHuge)) ∧ Ext wd w) (fun e w => (cutF f).tab.length - (intOf (e 4)).toNat) ?_ ?_
  · exact ⟨0, .slice none 0 0, Nat.zero_le _, h1, h2, h3v, rfl, hB4, by simpa using World.ownsRow_nil _ _ _ _, hxw⟩
  rintro e w ⟨k, u, hk, h1, h2, h3, h4, hC3, hrow, hxw⟩
  have hm4 := h4
  have hB1w := hxw.blk hB1 (fun h => h)
  have hC2w := hxw.blk hC2 (fun h => h)
  have hS6w := Sl.ext hS6 hxw
  have hG : (cutF f).tab.length ≤ 300 := by simp [cutF]; omega
  refine W.seq ?_
  refine W.seq ?_
  refine W.region ?_
  refine WL.c rfl (o_mvh h4 ?_)
  refine WL.c rfl (o_fa 6 TI39 rfl TI37 rfl h1 ?_)
  refine WL.c rfl (o_ld TI37 rfl rfl (cell_of hB1w rfl) ?_)
  refine WL.c rfl (o_lenR TI37 rfl hS6w ?_)
  refine WL.c rfl (o_lt rfl rfl ?_)
  refine WL.nil ?_
  refine W.cond rfl (fun c32 => ?_) (fun c32 => ?_)
  · try simp only [decide_eq_true_eq, decide_eq_false_iff_not, Bool.not_eq_true', Bool.not_eq_false', Bool.and_eq_true, Bool.or_eq_true, Bool.and_eq_false_iff, Bool.or_eq_false_iff] at c32
    refine W.skip ?_
    refine W.seq ?_
    refine W.block ?_
    have hk1 : k < (cutF f).tab.length := by omega
    obtain ⟨tb, to_, tc, hu6, htc, hct⟩ := In.at hS6w (by omega)
    subst hu6
    obtain ⟨we, hwe⟩ : ∃ we, we = w.drew := ⟨_, rfl⟩
    have hxe : Ext w we := hwe ▸ Only.drew w
    replace hxw := hxw.tr hxe
    replace hrow := own_ext hrow hxe
    replace hC3 := hxe.blk hC3 (fun h => h)
    replace hB1w := hxe.blk hB1w (fun h => h)
    replace hct := hct.only hxe (fun h => h)
    have hlt : ∀ k, u.ownBlock = some k → k < we.heap.size := fun k hk => (hrow.lt k hk).2
    have hu3 : ¬ u.ownBlock = some c3 := own_off hrow hC3 (by decide)
    have hge : ∀ k, u.ownBlock = some k → c3 ≤ k := fun k hk => (hrow.lt k hk).1
    have hwdw := hxw.size
    have hw0lt : w0.heap.size < wd.heap.size := (Array.getElem?_eq_some_iff.1 hB1).1
    have hc3lt : c3 < we.heap.size := (Array.getElem?_eq_some_iff.1 hC3).1
    have htb : tb < wd.heap.size := by
      have := Sl.low hS6 tb rfl
      rcases Nat.lt_or_ge tb wd.heap.size with h | h
      · exact h
      · have := this h; rw [List.map_eq_nil_iff] at this; rw [this] at hk1; simp at hk1
    refine W.drawF 10 [9] [fun k => u.ownBlock = some k] [(1, fun v _ => v = _), (2, fun v _ => v = _), (3, fun v _ => v = _), (4, fun v _ => v = _)] rfl (by kernel_rfl) (by kernel_rfl) ⟨Mono.eq, Mono.eq, Mono.eq, Mono.eq, trivial⟩ ⟨h1, h2, h3, h4, trivial⟩ ?_
    refine WDS.p rfl (by decide) (fun e w hR hh => by obtain ⟨h3, -⟩ := hh; exact SG.n (o_fa 6 TI39 rfl TI37 rfl h3 ⟨rfl, Only.refl No _⟩)) ?_
    refine WDS.p rfl (by decide) (fun e w hR hh => by obtain ⟨h35, -⟩ := hh; rw [← hwe] at hR; have hc := hR.blk hC3 (fun hF => by rcases hF with hF | hF <;> first | exact hu3 hF | exact hF); exact SG.n (o_ld TI37 rfl h35 (cell_of hc rfl) ⟨rfl, Only.refl No _⟩)) ?_
    refine WDS.p rfl (by decide) (fun e w hR hh => by obtain ⟨h1, -⟩ := hh; exact SG.n (o_fa 6 TI39 rfl TI37 rfl h1 ⟨rfl, Only.refl No _⟩)) ?_
    refine WDS.p rfl (by decide) (fun e w hR hh => by obtain ⟨h37, -⟩ := hh; rw [← hwe] at hR; have hc := hR.blk hB1w (fun hF => by rcases hF with hF | hF; have := hge _ hF; omega; exact hF); exact SG.n (o_ld TI37 rfl h37 (cell_of hc rfl) ⟨rfl, Only.refl No _⟩)) ?_
    refine WDS.p rfl (by decide) (fun e w hR hh => by obtain ⟨h4, -⟩ := hh; exact SG.n (o_mvh h4 ⟨rfl, Only.refl No _⟩)) ?_
    refine WDS.p rfl (by decide) (fun e w hR hh => by obtain ⟨h39, h38, -⟩ := hh; exact SG.n (o_ixB TI37 TI3 h38 h39 (by omega) ⟨rfl, Only.refl No _⟩)) ?_
    refine WDS.p rfl (by decide) (fun e w hR hh => by obtain ⟨h40, -⟩ := hh; rw [← hwe] at hR; have hc := hct.only hR (fun hF => by rcases hF with hF | hF; have := hge _ hF; omega; exact hF) k _ (getint hk1); exact SG.n (o_ld TI3 rfl h40 (show _ = some (Value.int .i64 (cutF f).tab[k]) by rw [Nat.mul_one]; exact hc) ⟨rfl, Only.refl No _⟩)) ?_
    refine WDS.p rfl (by decide) (fun e w hR hh => by obtain ⟨h41, -⟩ := hh; exact SG.n (o_call Try.call13 (lc h41 (lc rfl ln)) ((rest_spec (cutF f).tab[k] 4611686018427387904 _ (by decide) (by decide)).mono (fun v w' ⟨h1, h2⟩ => ⟨h1, by rw [h2]; exact Only.refl No _⟩)))) ?_
    refine WDS.q 0 (fun v w => w.ownsRow we.heap.size 3 1 v 1 (ints [rHuge (cutF f).tab[k]])) (fun v w w2 hR hh => own_only hh hR (fun k hk hF => by rcases hF with hF | hF <;> first | exact hF | (have := hlt k hF; have := (hh.lt k hk).1; omega))) (by kernel_rfl) rfl (by decide) (fun e w hR hh => by obtain ⟨h42, -⟩ := hh; rw [← hwe] at hR; exact SG.n (o_bs1 TI37 TI3 h42 (by decide) (by decide) rfl ⟨own_mono (own_new1 rfl) hR.size, Only.alloc w _⟩)) ?_
    refine WDS.mf 0 1 (fun v w => w.ownsRow c3 3 1 v (k + 1) (ints (((cutF f).tab.take k).map rHuge) ++ ints [rHuge (cutF f).tab[k]])) (fun v w w2 hR hh => own_ext hh hR) (by kernel_rfl) rfl rfl rfl (fun e w hR hW hh => by obtain ⟨h43, h36, -⟩ := hh; rw [← hwe] at hR hW; have hW2 : Ext we w := hW.mono (fun _ _ h => h); have hw2 := hR.size; exact SGX.n (OP.x (o_apO c3 TI37 TI3 h36 rfl (own_ext hrow hW2) (Sl.own h43) rfl (by decide) (one_ints _) (by rw [maxLen_eq]; omega) (by omega) (by omega) (fun v' w' h1 h2 h3 _ => ⟨h1, h2⟩)))) ?_
    rintro e w hR ⟨h44, h43, h42, h41, h40, h39, h38, h37, h36, h35, h1, h2, h3, h4, -⟩
    rw [← hwe] at hR
    obtain ⟨v44, hv44⟩ : ∃ v, v = e 44 := ⟨_, rfl⟩
    rw [← hv44] at h44
    have hC3m := hR.blk hC3 (fun hF => by rcases hF with hF | hF <;> first | exact hu3 hF | exact hF)
    refine WL.c rfl (o_fa 6 TI39 rfl TI37 rfl h3 ?_)
    refine WL.u (o_stB TI37 rfl (show _ = v44 from hv44.symm) (own_one h44) hC3m (show 6 < 7 by decide) ?_)
    intro w8 hB8 ho8 hs8
    have hC3' : w8.heap[c3]? = some (.cells (fcells ⟨rHuge f.rt, rHuge f.pl, rHuge f.bs, rHuge f.en - 1, rHuge f.nd - 1, rHuge f.nx, []⟩ v44).toArray 39 (0, 0)) := hB8
    have hrow' : w8.ownsRow c3 3 1 v44 (k + 1) (ints (((cutF f).tab.take (k + 1)).map rHuge)) := by
      rw [← List.take_append_getElem hk1, List.map_append, ints, List.map_append]
      exact own_only h44 ho8 (fun k hk he => by subst he; exact own_off h44 hC3m (by decide) hk)
    have hxw' : Ext wd w8 := (hxw.trans' hR (fun _ h => h) (fun k hk hF => by rcases hF with hF | hF; have := hge _ hF; omega; exact hF)).trans' ho8 (fun _ h => h) (fun k hk he => by omega)
    refine WL.nil ?_
    refine W.region ?_
    refine WL.c rfl (o_mvh h4 ?_)
    refine WL.c rfl (o_addi rfl rfl (by omega) ?_)
    refine WL.c rfl (o_as ?_)
    refine WL.nil ?_
    refine ⟨⟨k + 1, v44, by omega, h1, h2, h3, rfl, hC3', hrow', hxw'⟩, ?_⟩
    show (cutF f).tab.length - ((k : Int) + 1).toNat < _
    rw [hm4]; simp [intOf]; omega
  · try simp only [decide_eq_true_eq, decide_eq_false_iff_not, Bool.not_eq_true', Bool.not_eq_false', Bool.and_eq_true, Bool.or_eq_true, Bool.and_eq_false_iff, Bool.or_eq_false_iff] at c32
    refine W.exit ?_
    refine W.seq ?_
    have hkl : k = (cutF f).tab.length := by omega
    subst hkl
    rw [List.take_length] at hrow
    have hrt : (rightF f).tab = (cutF f).tab.map rHuge := rfl
    rw [← hrt] at hrow
    have hrl : (rightF f).tab.length = (cutF f).tab.length := by rw [hrt, List.length_map]
    rw [← hrl] at hrow
    refine W.region ?_
    refine WL.c rfl (o_ldA TI39 rfl h3 (show Cells w c3 0 (fcells (rightF f) u) from Cells.of hC3 0 _ (by simp [fcells, rightF])) rfl ?_)
    refine WL.u (o_stA TI39 h2 (show _ = Value.agg (fcells (rightF f) u).toArray from rfl) rfl (fcells_one (own_one hrow)) hC2w rfl ?_)
    intro w12 hB12 ho12 hs12
    refine WL.nil ?_
    refine W.ret ?_
    refine retC rfl TI39 rfl h2 (show Cells w12 (w0.heap.size + 1) 0 (fcells (rightF f) u) from Cells.of hB12 0 _ (by simp)) rfl ?_
    have hc0 : w0.heap.size ≤ c3 := Nat.le_trans hx7.size hc3
    exact ⟨u, rfl, own_mono (own_only hrow ho12 (fun k hk he => by subst he; exact own_off hrow hC2w (by decide) hk)) hc0, (hx7.tr hxw).trans' ho12 (fun _ h => h) (fun k hk he => by omega)⟩
end Go.Proofs.Ytdiaeafjjffjmaa
