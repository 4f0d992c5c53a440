/-
  Walks. Written by program out of specs of mine.
-/
import Derived.Test.YtdiaeafjjffjmaaM1
set_option linter.unusedSimpArgs false
set_option linter.unusedVariables false
set_option maxRecDepth 100000
namespace Go.Proofs.Ytdiaeafjjffjmaa
open Go Go.Vc Go.RowKit Go.Proofs
theorem frame_spec (B0 q at_ : Nat) (bv : Value) (xs : List UInt8) (w0 : World) (h : Rdr w0 B0 q bv xs at_) : CaX Try.prog 51 #[.pointer (some ⟨q, 0, none⟩)] w0 (fun v w' => ∃ f tv a, rdF xs at_ = .ok f a ∧ v = .agg (fcells f tv).toArray ∧ w'.ownsRow w0.heap.size 3 1 tv f.tab.length (ints f.tab) ∧ Rdr w' B0 q bv xs a ∧ Only (fun k => k = q) w0 w') (fun ch w' => ∃ e a, rdF xs at_ = .bad e a ∧ ch = [pan e a] ∧ Only (fun k => k = q) w0 w') := by
  have hqlt : q < w0.heap.size := (Array.getElem?_eq_some_iff.1 h.cell).1
  have hB0 := h.hq
  refine CaX.of Try.func51 Try.ntmps51 rfl rfl ?_
  refine W.seq ?_
  refine W.region ?_
  refine WL.c rfl (o_alB TI39 ?_)
  intro w2 hC2 hx2 hs2
  have hq0 : Only (fun k => k = q) w0 w2 := hx2.mono (fun _ _ h => h.elim)
  replace h := h.ext hx2
  refine WL.nil ?_
  refine W.seq ?_
  refine W.region ?_
  refine WL.c rfl (o_mv ?_)
  refine WL.cx rfl (ox_call Try.call50 (lc rfl (lc rfl (lc rfl ln))) ((number_spec B0 q at_ 0 4611686018427387904 bv xs _ h (by decide) (by decide) (by decide)).mono ?_ (fun ch w' hh => by obtain ⟨e, a, h1, h2, h3⟩ := hh; exact ⟨e, a, by simp only [rdF, Rd.bind, h1], h2, hq0.trans' h3 (fun _ h => h) (fun _ _ h => h.elim)⟩)))
  rintro v6 w6 ⟨n6, a6, hr6, rfl, h', ho6⟩
  replace h := h'
  replace hq0 := hq0.trans' ho6 (fun _ h => h) (fun _ _ h => h)
  replace hC2 := ho6.blk hC2 (show ¬ _ = q by omega)
  refine WL.c rfl (o_mv ?_)
  refine WL.cx rfl (ox_call Try.call50 (lc rfl (lc rfl (lc rfl ln))) ((number_spec B0 q a6 0 4611686018427387904 bv xs _ h (by decide) (by decide) (by decide)).mono ?_ (fun ch w' hh => by obtain ⟨e, a, h1, h2, h3⟩ := hh; exact ⟨e, a, by simp only [rdF, Rd.bind, hr6, h1], h2, hq0.trans' h3 (fun _ h => h) (fun _ _ h => h.elim)⟩)))
  rintro v8 w8 ⟨n8, a8, hr8, rfl, h', ho8⟩
  replace h := h'
  replace hq0 := hq0.trans' ho8 (fun _ h => h) (fun _ _ h => h)
  replace hC2 := ho8.blk hC2 (show ¬ _ = q by omega)
  refine WL.c rfl (o_mv ?_)
  refine WL.cx rfl (ox_call Try.call50 (lc rfl (lc rfl (lc rfl ln))) ((number_spec B0 q a8 0 4611686018427387904 bv xs _ h (by decide) (by decide) (by decide)).mono ?_ (fun ch w' hh => by obtain ⟨e, a, h1, h2, h3⟩ := hh; exact ⟨e, a, by simp only [rdF, Rd.bind, hr6, hr8, h1], h2, hq0.trans' h3 (fun _ h => h) (fun _ _ h => h.elim)⟩)))
  rintro v10 w10 ⟨n10, a10, hr10, rfl, h', ho10⟩
  replace h := h'
  replace hq0 := hq0.trans' ho10 (fun _ h => h) (fun _ _ h => h)
  replace hC2 := ho10.blk hC2 (show ¬ _ = q by omega)
  refine WL.c rfl (o_bldC (cs := [_, _, _, (.int .i64 0), (.int .i64 0), (.int .i64 0), (.slice none 0 0)]) TI39 (Sizes.cons TI3 (Sizes.cons TI3 (Sizes.cons TI3 (Sizes.cons TI3 (Sizes.cons TI3 (Sizes.cons TI3 (Sizes.cons TI37 Sizes.nil))))))) rfl (lcp (show _ = Value.int _ _ from rfl) (lcp (show _ = Value.int _ _ from rfl) (lcp (show _ = Value.int _ _ from rfl) lnp))) rfl rfl ?_)
  refine WL.c rfl (o_alB TI39 ?_)
  intro w3 hC3 hx3 hs3
  have hq3 := hq0.size
  have h32 : w0.heap.size < w10.heap.size := (Array.getElem?_eq_some_iff.1 hC2).1
  replace hC2 := hx3.blk hC2 (fun h => h)
  replace h := h.ext hx3
  replace hq0 := hq0.trans' hx3 (fun _ h => h) (fun _ _ h => h.elim)
  refine WL.u (o_stA TI39 rfl (show _ = Value.agg (fcells ⟨n6, n8, n10, 0, 0, 0, []⟩ (.slice none 0 0)).toArray from rfl) rfl rfl hC3 rfl ?_)
  intro w4 hB4 ho4 hs4
  obtain ⟨c3, hc3⟩ : ∃ c3, c3 = w10.heap.size := ⟨_, rfl⟩
  rw [← hc3] at hB4 ho4 hC3 ⊢
  clear hC3
  have hC3 := hB4
  have h3 : w0.heap.size < c3 := by omega
  replace hC2 := ho4.blk hC2 (show ¬ w0.heap.size = c3 by omega)
  replace h := h.keep ho4 (fun k he => by omega) (show ¬ q = c3 by omega)
  replace hq0 := hq0.trans' ho4 (fun _ h => h) (fun k hk he => by omega)
  clear hB4 ho4
  refine WL.nil ?_
  refine W.seq ?_
  refine W.region ?_
  refine WL.c rfl (o_mv ?_)
  refine WL.cx rfl (ox_call Try.call50 (lc rfl (lc rfl (lc rfl ln))) ((number_spec B0 q a10 0 4611686018427387905 bv xs _ h (by decide) (by decide) (by decide)).mono ?_ (fun ch w' hh => by obtain ⟨e, a, h1, h2, h3⟩ := hh; exact ⟨e, a, by simp only [rdF, Rd.bind, hr6, hr8, hr10, h1], h2, hq0.trans' h3 (fun _ h => h) (fun _ _ h => h.elim)⟩)))
  rintro v13 w13 ⟨n13, a13, hr13, rfl, h', ho13⟩
  replace h := h'
  replace hq0 := hq0.trans' ho13 (fun _ h => h) (fun _ _ h => h)
  replace hC2 := ho13.blk hC2 (show ¬ _ = q by omega)
  replace hC3 := ho13.blk hC3 (show ¬ _ = q by omega)
  refine WL.c rfl (o_subi rfl rfl (by have := rdN_ok hr13; omega) ?_)
  refine WL.c rfl (o_fa 3 TI39 rfl TI3 rfl rfl ?_)
  refine WL.u (o_stB TI3 rfl (show _ = Value.int _ _ from rfl) rfl hC3 (show 3 < 7 by decide) ?_)
  intro w15x hB4 ho4 hs4
  clear hC3
  have hC3 : w15x.heap[c3]? = some (.cells (fcells ⟨n6, n8, n10, (n13 : Int) - 1, 0, 0, []⟩ (.slice none 0 0)).toArray 39 (0, 0)) := hB4
  replace hC2 := ho4.blk hC2 (show ¬ w0.heap.size = c3 by omega)
  replace h := h.keep ho4 (fun k he => by omega) (show ¬ q = c3 by omega)
  replace hq0 := hq0.trans' ho4 (fun _ h => h) (fun k hk he => by omega)
  clear hB4 ho4
  refine WL.nil ?_
  refine W.seq ?_
  refine W.region ?_
  refine WL.c rfl (o_mv ?_)
  refine WL.cx rfl (ox_call Try.call50 (lc rfl (lc rfl (lc rfl ln))) ((number_spec B0 q a13 0 4611686018427387905 bv xs _ h (by decide) (by decide) (by decide)).mono ?_ (fun ch w' hh => by obtain ⟨e, a, h1, h2, h3⟩ := hh; exact ⟨e, a, by simp only [rdF, Rd.bind, hr6, hr8, hr10, hr13, h1], h2, hq0.trans' h3 (fun _ h => h) (fun _ _ h => h.elim)⟩)))
  rintro v17 w17 ⟨n17, a17, hr17, rfl, h', ho17⟩
  replace h := h'
  replace hq0 := hq0.trans' ho17 (fun _ h => h) (fun _ _ h => h)
  replace hC2 := ho17.blk hC2 (show ¬ _ = q by omega)
  replace hC3 := ho17.blk hC3 (show ¬ _ = q by omega)
  refine WL.c rfl (o_subi rfl rfl (by have := rdN_ok hr17; omega) ?_)
  refine WL.c rfl (o_fa 4 TI39 rfl TI3 rfl rfl ?_)
  refine WL.u (o_stB TI3 rfl (show _ = Value.int _ _ from rfl) rfl hC3 (show 4 < 7 by decide) ?_)
  intro w19x hB4 ho4 hs4
  clear hC3
  have hC3 : w19x.heap[c3]? = some (.cells (fcells ⟨n6, n8, n10, (n13 : Int) - 1, (n17 : Int) - 1, 0, []⟩ (.slice none 0 0)).toArray 39 (0, 0)) := hB4
  replace hC2 := ho4.blk hC2 (show ¬ w0.heap.size = c3 by omega)
  replace h := h.keep ho4 (fun k he => by omega) (show ¬ q = c3 by omega)
  replace hq0 := hq0.trans' ho4 (fun _ h => h) (fun k hk he => by omega)
  clear hB4 ho4
  refine WL.nil ?_
  refine W.seq ?_
  refine W.region ?_
  refine WL.c rfl (o_mv ?_)
  refine WL.cx rfl (ox_call Try.call50 (lc rfl (lc rfl (lc rfl ln))) ((number_spec B0 q a17 0 4611686018427387904 bv xs _ h (by decide) (by decide) (by decide)).mono ?_ (fun ch w' hh => by obtain ⟨e, a, h1, h2, h3⟩ := hh; exact ⟨e, a, by simp only [rdF, Rd.bind, hr6, hr8, hr10, hr13, hr17, h1], h2, hq0.trans' h3 (fun _ h => h) (fun _ _ h => h.elim)⟩)))
  rintro v21 w21 ⟨n21, a21, hr21, rfl, h', ho21⟩
  replace h := h'
  replace hq0 := hq0.trans' ho21 (fun _ h => h) (fun _ _ h => h)
  replace hC2 := ho21.blk hC2 (show ¬ _ = q by omega)
  replace hC3 := ho21.blk hC3 (show ¬ _ = q by omega)
  refine WL.c rfl (o_fa 5 TI39 rfl TI3 rfl rfl ?_)
  refine WL.u (o_stB TI3 rfl (show _ = Value.int _ _ from rfl) rfl hC3 (show 5 < 7 by decide) ?_)
  intro w22x hB4 ho4 hs4
  clear hC3
  have hC3 : w22x.heap[c3]? = some (.cells (fcells ⟨n6, n8, n10, (n13 : Int) - 1, (n17 : Int) - 1, n21, []⟩ (.slice none 0 0)).toArray 39 (0, 0)) := hB4
  replace hC2 := ho4.blk hC2 (show ¬ w0.heap.size = c3 by omega)
  replace h := h.keep ho4 (fun k he => by omega) (show ¬ q = c3 by omega)
  replace hq0 := hq0.trans' ho4 (fun _ h => h) (fun k hk he => by omega)
  clear hB4 ho4
  refine WL.nil ?_
  refine W.seq ?_
  refine W.seq ?_
  refine W.region ?_
  refine WL.c rfl (o_mv ?_)
  refine WL.cx rfl (ox_call Try.call50 (lc rfl (lc rfl (lc rfl ln))) ((number_spec B0 q a21 0 1048576 bv xs _ h (by decide) (by decide) (by decide)).mono ?_ (fun ch w' hh => by obtain ⟨e, a, h1, h2, h3⟩ := hh; exact ⟨e, a, by simp only [rdF, Rd.bind, hr6, hr8, hr10, hr13, hr17, hr21, h1], h2, hq0.trans' h3 (fun _ h => h) (fun _ _ h => h.elim)⟩)))
  rintro v24 w24 ⟨n24, a24, hr24, rfl, h', ho24⟩
  replace h := h'
  replace hq0 := hq0.trans' ho24 (fun _ h => h) (fun _ _ h => h)
  replace hC2 := ho24.blk hC2 (show ¬ _ = q by omega)
  replace hC3 := ho24.blk hC3 (show ¬ _ = q by omega)
  refine WL.c rfl (o_as ?_)
  refine WL.nil ?_
  refine W.block ?_
  refine W.loop (fun e w => ∃ (m : Nat) (acc : List Int) (a : Nat) (tv : Value), e 0 = .pointer (some ⟨q, 0, none⟩) ∧ e 2 = .pointer (some ⟨w0.heap.size, 0, none⟩) ∧ e 3 = .pointer (some ⟨c3, 0, none⟩) ∧ e 4 = .int .i64 (m : Int) ∧ w.heap[c3]? = some (.cells (fcells ⟨n6, n8, n10, (n13 : Int) - 1, (n17 : Int) - 1, n21, []⟩ tv).toArray 39 (0, 0)) ∧ w.heap[w0.heap.size]? = some (.cells (fcells Fr.nil (.slice none 0 0)).toArray 39 (0, 0)) ∧ w.ownsRow w0.heap.size 3 1 tv acc.length (ints acc) ∧ Rdr w B0 q bv xs a ∧ Only (fun k => k = q) w0 w ∧ rdMany xs n24 a24 [] = rdMany xs m a acc ∧ acc.length + m = n24) (fun e w => (intOf (e 4)).toNat) ?_ ?_
  · exact ⟨n24, [], a24, .slice none 0 0, rfl, rfl, rfl, rfl, hC3, hC2, World.ownsRow_nil _ _ _ _, h, hq0, rfl, by simp⟩
  rintro e w ⟨m, acc, a, tv, h0, h2, h3p, h4, hC3, hC2, hrow, h, hq0, hmany, hcnt⟩
  have hm4 := h4
  have h3 := h3p
  have hn24 := rdN_ok hr24
  refine W.seq ?_
  refine W.seq ?_
  refine W.region ?_
  refine WL.c rfl (o_mvh h4 ?_)
  refine WL.c rfl (o_gt rfl rfl ?_)
  refine WL.nil ?_
  refine W.cond rfl (fun c26 => ?_) (fun c26 => ?_)
  · try simp only [decide_eq_true_eq, decide_eq_false_iff_not, Bool.not_eq_true', Bool.not_eq_false', Bool.and_eq_true, Bool.or_eq_true, Bool.and_eq_false_iff, Bool.or_eq_false_iff] at c26
    refine W.skip ?_
    refine W.seq ?_
    refine W.block ?_
    obtain ⟨wd, hwd⟩ : ∃ wd, wd = w.drew := ⟨_, rfl⟩
    have hxd : Ext w wd := hwd ▸ Only.drew w
    replace h := h.ext hxd
    replace hrow := own_ext hrow hxd
    replace hC3 := hxd.blk hC3 (fun h => h)
    replace hC2 := hxd.blk hC2 (fun h => h)
    replace hq0 := hq0.ext hxd
    have hm1 : 1 ≤ m := by omega
    have htq : ¬ tv.ownBlock = some q := fun hk => by have := (hrow.lt q hk).1; omega
    have ht3 : ¬ tv.ownBlock = some c3 := own_off hrow hC3 (by decide)
    have ht2 : ¬ tv.ownBlock = some w0.heap.size := own_off hrow hC2 (by decide)
    have htB : ∀ k, tv.ownBlock = some k → B0 ≤ k := fun k hk => by have := (hrow.lt k hk).1; omega
    have hlt : ∀ k, tv.ownBlock = some k → k < wd.heap.size := fun k hk => (hrow.lt k hk).2
    have hqd : q < wd.heap.size := by have := hq0.size; omega
    refine W.drawF 6 [3, 5] [fun k => k = q, fun k => tv.ownBlock = some k] [(0, fun v _ => v = _), (2, fun v _ => v = _), (3, fun v _ => v = _), (4, fun v _ => v = _)] rfl (by kernel_rfl) (by kernel_rfl) ⟨Mono.eq, Mono.eq, Mono.eq, Mono.eq, trivial⟩ ⟨h0, h2, h3, h4, trivial⟩ ?_
    refine WDS.p rfl (by decide) (fun e w hR hh => by obtain ⟨h3, -⟩ := hh; exact SG.n (o_fa 6 TI39 rfl TI37 rfl h3 ⟨rfl, Only.refl No _⟩)) ?_
    refine WDS.p rfl (by decide) (fun e w hR hh => by obtain ⟨h29, -⟩ := hh; rw [← hwd] at hR; have hc := hR.blk hC3 (fun hF => by rcases hF with hF | hF | hF <;> first | exact ht3 hF | exact hF | omega); exact SG.n (o_ld TI37 rfl h29 (cell_of hc rfl) ⟨rfl, Only.refl No _⟩)) ?_
    refine WDS.p rfl (by decide) (fun e w hR hh => by obtain ⟨h0, -⟩ := hh; exact SG.n (o_mvh h0 ⟨rfl, Only.refl No _⟩)) ?_
    refine WDS.mf 0 1 (fun v w => ∃ n a2, rdN xs a 0 4611686018427387904 = .ok n a2 ∧ v = .int .i64 (n : Int) ∧ Rdr w B0 q bv xs a2) (fun v w w2 hR hh => by obtain ⟨n, a2, h1, h2, h3⟩ := hh; exact ⟨n, a2, h1, h2, h3.keep hR (fun k hF => by rcases hF with hF | hF; exact htB k hF; exact hF.elim) (fun hF => by rcases hF with hF | hF; exact htq hF; exact hF)⟩) (by kernel_rfl) rfl rfl rfl (fun e w hR hW hh => by obtain ⟨h31, -⟩ := hh; rw [← hwd] at hW; have hW2 : Ext wd w := hW.mono (fun k _ hF => hF); exact SGX.n (ox_call Try.call50 (lc h31 (lc rfl (lc rfl ln))) ((number_spec B0 q a 0 4611686018427387904 bv xs w (h.ext hW2) (by decide) (by decide) (by decide)).mono (fun v w' hh => by obtain ⟨n, a2, h1, h2, h3, h4⟩ := hh; exact ⟨⟨n, a2, h1, h2, h3⟩, h4⟩) (fun ch w' hh => by obtain ⟨e1, a1, h1, h2, h3⟩ := hh; exact ⟨e1, a1, by obtain ⟨m', rfl⟩ : ∃ m', m = m' + 1 := ⟨m - 1, by omega⟩; simp only [rdF, Rd.bind, hr6, hr8, hr10, hr13, hr17, hr21, hr24, hmany, rdMany, h1], h2, (hq0.ext hW2).trans' h3 (fun _ h => h) (fun _ _ h => h.elim)⟩)))) ?_
    refine WDS.q 1 (fun v w => ∃ n a2, rdN xs a 0 4611686018427387904 = .ok n a2 ∧ w.ownsRow wd.heap.size 3 1 v 1 (ints [(n : Int)]) ∧ Rdr w B0 q bv xs a2) (fun v w w2 hR hh => by obtain ⟨n, a2, h1, h2, h3⟩ := hh; exact ⟨n, a2, h1, own_only h2 hR (fun k hk hF => by rcases hF with hF | hF <;> first | exact hF | (have := hlt k hF; have := (h2.lt k hk).1; omega)), h3.keep hR (fun k hF => by rcases hF with hF | hF; exact htB k hF; exact hF.elim) (fun hF => by rcases hF with hF | hF; exact htq hF; exact hF)⟩) (by kernel_rfl) rfl (by decide) (fun e w hR hh => by obtain ⟨h32, -⟩ := hh; rw [← hwd] at hR; obtain ⟨n, a2, hrn, h32v, hrd⟩ := h32; exact SG.n (o_bs1 TI37 TI3 h32v (by decide) (by decide) rfl ⟨⟨n, a2, hrn, own_mono (own_new1 rfl) hR.size, hrd.ext (Only.alloc w _)⟩, Only.alloc w _⟩)) ?_
    refine WDS.mf 1 2 (fun v w => ∃ n a2, rdN xs a 0 4611686018427387904 = .ok n a2 ∧ w.ownsRow w0.heap.size 3 1 v (acc.length + 1) (ints acc ++ ints [(n : Int)]) ∧ Rdr w B0 q bv xs a2) (fun v w w2 hR hh => by obtain ⟨n, a2, h1, h2, h3⟩ := hh; exact ⟨n, a2, h1, own_ext h2 hR, h3.ext hR⟩) (by kernel_rfl) rfl rfl rfl (fun e w hR hW hh => by obtain ⟨h33, h30, -⟩ := hh; rw [← hwd] at hR hW; obtain ⟨n, a2, hrn, h33r, hrd⟩ := h33; have hrow4 := own_only hrow hW (fun k hk hF => by rcases hF with hF | hF <;> first | exact hF | (subst hF; exact htq hk)); have hw2 := hR.size; have hw3 := hq0.size; exact SGX.n (OP.x (o_apO w0.heap.size TI37 TI3 h30 rfl hrow4 (Sl.own h33r) rfl (by decide) (one_ints _) (by rw [maxLen_eq]; omega) (by omega) (by omega) (fun v' w' h1 h2 h3 _ => ⟨⟨n, a2, hrn, h1, hrd.keep h2 htB htq⟩, h2⟩)))) ?_
    rintro e w hR ⟨h34, h33, h32, h31, h30, h29, h0, h2, h3, h4, -⟩
    rw [← hwd] at hR
    obtain ⟨n, a2, hrn, hr34, hrd⟩ := h34
    obtain ⟨v34, hv34⟩ : ∃ v, v = e 34 := ⟨_, rfl⟩
    rw [← hv34] at hr34
    replace hC3 := hR.blk hC3 (fun hF => by rcases hF with hF | hF | hF <;> first | exact ht3 hF | exact hF | omega)
    replace hC2 := hR.blk hC2 (fun hF => by rcases hF with hF | hF | hF <;> first | exact ht2 hF | exact hF | omega)
    refine WL.c rfl (o_fa 6 TI39 rfl TI37 rfl h3 ?_)
    refine WL.u (o_stB TI37 rfl (show _ = v34 from hv34.symm) (own_one hr34) hC3 (show 6 < 7 by decide) ?_)
    intro w35 hB35 ho35 hs35
    have hC3' : w35.heap[c3]? = some (.cells (fcells ⟨n6, n8, n10, (n13 : Int) - 1, (n17 : Int) - 1, n21, []⟩ v34).toArray 39 (0, 0)) := hB35
    have hC2' := ho35.blk hC2 (show ¬ w0.heap.size = c3 by omega)
    have hrow' : w35.ownsRow w0.heap.size 3 1 v34 (acc ++ [(n : Int)]).length (ints (acc ++ [(n : Int)])) := by
      rw [List.length_append, List.length_singleton, ints, List.map_append]
      exact own_only hr34 ho35 (fun k hk he => by subst he; exact own_off hr34 hC3 (by decide) hk)
    have hrd' := hrd.keep ho35 (fun k he => by omega) (show ¬ q = c3 by omega)
    have hq34 : Only (fun k => k = q) w0 w35 := (hq0.trans' hR (fun _ h => h) (fun k hk hF => by rcases hF with hF | hF | hF; exact hF; have := (hrow.lt k hF).1; omega; exact hF.elim)).trans' ho35 (fun _ h => h) (fun k hk he => by omega)
    refine WL.nil ?_
    refine W.region ?_
    refine WL.c rfl (o_mvh h4 ?_)
    refine WL.c rfl (o_subi rfl rfl (by omega) ?_)
    refine WL.c rfl (o_as ?_)
    refine WL.nil ?_
    refine ⟨⟨m - 1, acc ++ [(n : Int)], a2, v34, h0, h2, h3, ?_, hC3', hC2', hrow', hrd', hq34, ?_, ?_⟩, ?_⟩
    · show Value.int _ ((m : Int) - 1) = _; congr 1; omega
    · rw [hmany]; obtain ⟨m', rfl⟩ : ∃ m', m = m' + 1 := ⟨m - 1, by omega⟩; simp only [rdMany, hrn, Rd.bind, Nat.add_sub_cancel]
    · rw [List.length_append, List.length_singleton]; omega
    · show ((m : Int) - 1).toNat < _
      rw [hm4]; simp [intOf]; omega
  · try simp only [decide_eq_true_eq, decide_eq_false_iff_not, Bool.not_eq_true', Bool.not_eq_false', Bool.and_eq_true, Bool.or_eq_true, Bool.and_eq_false_iff, Bool.or_eq_false_iff] at c26
    refine W.exit ?_
    refine W.seq ?_
    refine W.region ?_
    refine WL.c rfl (o_ldA TI39 rfl h3 (show Cells w c3 0 (fcells ⟨n6, n8, n10, (n13 : Int) - 1, (n17 : Int) - 1, n21, acc⟩ tv) from Cells.of hC3 0 _ (by simp [fcells])) rfl ?_)
    refine WL.u (o_stA TI39 h2 (show _ = Value.agg (fcells ⟨n6, n8, n10, (n13 : Int) - 1, (n17 : Int) - 1, n21, acc⟩ tv).toArray from rfl) rfl (fcells_one (own_one hrow)) hC2 rfl ?_)
    intro w12 hB12 ho12 hs12
    refine WL.nil ?_
    refine W.ret ?_
    refine retC rfl TI39 rfl h2 (show Cells w12 w0.heap.size 0 (fcells ⟨n6, n8, n10, (n13 : Int) - 1, (n17 : Int) - 1, n21, acc⟩ tv) from Cells.of hB12 0 _ (by simp)) rfl ?_
    have hm0 : m = 0 := by omega
    subst hm0
    exact ⟨⟨n6, n8, n10, (n13 : Int) - 1, (n17 : Int) - 1, n21, acc⟩, tv, a, by simp only [rdF, Rd.bind, hr6, hr8, hr10, hr13, hr17, hr21, hr24, hmany, rdMany], rfl, own_only hrow ho12 (fun k hk he => by subst he; exact own_off hrow hC2 (by decide) hk), h.keep ho12 (fun k he => by omega) (show ¬ q = w0.heap.size by omega), hq0.trans' ho12 (fun _ h => h) (fun k hk he => by omega)⟩

def rdL (xs : List UInt8) : Nat → Nat → List Fr → Rd (List Fr)
  | 0, a, acc => .ok acc a
  | m + 1, a, acc => (rdF xs a).bind fun f a => rdL xs m a (acc ++ [f])
structure SSt where
  most : Nat
  high : Nat
  L : List Fr
def rdS1 (xs : List UInt8) : Rd SSt :=
  (rdN xs 1 1 1048576).bind fun most a => (rdN xs a 0 most).bind fun n a => (rdN xs a n most).bind fun high a => (rdL xs n a []).bind fun L a => if a < xs.length then .bad 124 a else .ok ⟨most, high, L⟩ a
def rdS (xs : List UInt8) : Rd SSt := if xs.length = 0 then .bad 20 0 else if xs.head? = some 102 then rdS1 xs else .bad 221 0
theorem Rd.bind_ok {α β : Type} {r : Rd α} {f : α → Nat → Rd β} {b : β} {a : Nat} (h : r.bind f = .ok b a) : ∃ x a', r = .ok x a' ∧ f x a' = .ok b a := by
  cases r with
  | ok x a' => exact ⟨x, a', rfl, h⟩
  | bad e a' => cases h
theorem rdMany_ok {xs : List UInt8} : ∀ {m a : Nat} {acc t : List Int} {a' : Nat}, rdMany xs m a acc = .ok t a' → (∀ n ∈ acc, 0 ≤ n ∧ n ≤ Huge) → t.length = acc.length + m ∧ ∀ n ∈ t, 0 ≤ n ∧ n ≤ Huge
  | 0, a, acc, t, a', h, ho => by simp only [rdMany, Rd.ok.injEq] at h; obtain ⟨rfl, rfl⟩ := h; exact ⟨by omega, ho⟩
  | m + 1, a, acc, t, a', h, ho => by
    rw [rdMany] at h
    obtain ⟨n, a2, h1, h2⟩ := Rd.bind_ok h
    have := rdMany_ok h2 (fun n' hn' => by
      rcases List.mem_append.1 hn' with hn' | hn'
      · exact ho n' hn'
      · simp only [List.mem_singleton] at hn'; subst hn'; have := rdN_ok h1; omega)
    rw [List.length_append, List.length_singleton] at this
    exact ⟨by omega, this.2⟩
theorem rdF_whole {xs : List UInt8} {a a' : Nat} {f : Fr} (h : rdF xs a = .ok f a') : fwhole f = true := by
  rw [rdF] at h
  obtain ⟨n1, a1, h1, h⟩ := Rd.bind_ok h
  obtain ⟨n2, a2, h2, h⟩ := Rd.bind_ok h
  obtain ⟨n3, a3, h3, h⟩ := Rd.bind_ok h
  obtain ⟨n4, a4, h4, h⟩ := Rd.bind_ok h
  obtain ⟨n5, a5, h5, h⟩ := Rd.bind_ok h
  obtain ⟨n6, a6, h6, h⟩ := Rd.bind_ok h
  obtain ⟨m, a7, h7, h⟩ := Rd.bind_ok h
  obtain ⟨t, a8, h8, h⟩ := Rd.bind_ok h
  simp only [Rd.ok.injEq] at h
  obtain ⟨rfl, -⟩ := h
  have g1 := rdN_ok h1
  have g2 := rdN_ok h2
  have g3 := rdN_ok h3
  have g4 := rdN_ok h4
  have g5 := rdN_ok h5
  have g6 := rdN_ok h6
  have g7 := rdN_ok h7
  have g8 := rdMany_ok h8 (by simp)
  simp only [List.length_nil, Nat.zero_add] at g8
  simp only [Huge] at *
  simp only [fwhole, fright, tright, Bool.and_eq_true, inb_iff, decide_eq_true_eq, List.all_eq_true, Huge]
  refine ⟨⟨⟨⟨⟨⟨?_, ?_⟩, ?_⟩, ?_⟩, ?_⟩, ?_⟩, ?_, g8.2⟩ <;> omega
theorem head_get {xs : List UInt8} (h : 0 < xs.length) : xs.head? = some xs[0] := by cases xs <;> simp at h ⊢
theorem bv_eq {c d : UInt8} (h : ((c.toNat : Int) = (d.toNat : Int))) : c = d := UInt8.toNat_inj.1 (by omega)

theorem stack_spec (B0 q at_ : Nat) (bv : Value) (xs : List UInt8) (w0 : World) (h : Rdr w0 B0 q bv xs at_) : CaX Try.prog 33 #[.pointer (some ⟨q, 0, none⟩)] w0 (fun v w' => ∃ s lv V a p, rdS xs = .ok s a ∧ v = .pointer (some ⟨p, 0, none⟩) ∧ Stk w' w0.heap.size p s.most s.high s.L lv V ∧ Only (fun k => k = q) w0 w') (fun ch w' => ∃ e a, rdS xs = .bad e a ∧ ch = [pan e a] ∧ Only (fun k => k = q) w0 w') := by
  have hqlt : q < w0.heap.size := (Array.getElem?_eq_some_iff.1 h.cell).1
  have hB0 := h.hq
  have hcell := h.cell
  have hsm := h.small
  refine CaX.of Try.func33 Try.ntmps33 rfl rfl ?_
  refine W.seq ?_
  refine W.region ?_
  refine WL.c rfl (o_as ?_)
  refine WL.nil ?_
  refine W.seq ?_
  refine W.seq ?_
  refine W.region ?_
  refine WL.c rfl (o_mv ?_)
  refine WL.c rfl (o_nil rfl ?_)
  refine WL.c rfl (o_fa 0 TI75 rfl TI23 rfl rfl ?_)
  refine WL.c rfl (o_ld TI23 rfl rfl (cell_of hcell rfl) ?_)
  refine WL.c rfl (o_lenR TI23 rfl h.by_ ?_)
  refine WL.c rfl (o_eq rfl rfl ?_)
  refine WL.nil ?_
  refine W.cond rfl (fun c10 => ?_) (fun c10 => ?_)
  · try simp only [decide_eq_true_eq, decide_eq_false_iff_not, Bool.not_eq_true', Bool.not_eq_false', Bool.and_eq_true, Bool.or_eq_true, Bool.and_eq_false_iff, Bool.or_eq_false_iff] at c10
    refine W.region ?_
    refine WL.c rfl (o_bldC (cs := [(.int .i64 20), (.int .i64 0)]) TI31 (Sizes.cons TI29 (Sizes.cons TI3 Sizes.nil)) rfl (lcp (show _ = Value.int _ _ from rfl) lnp) rfl rfl ?_)
    refine WL.c rfl (o_mkI TI31 rfl rfl ?_)
    refine WL.ux (ox_panic (show _ = Value.iface _ _ from rfl) ?_)
    exact ⟨20, 0, by rw [rdS, if_pos (by omega)], rfl, Only.refl _ _⟩
  · try simp only [decide_eq_true_eq, decide_eq_false_iff_not, Bool.not_eq_true', Bool.not_eq_false', Bool.and_eq_true, Bool.or_eq_true, Bool.and_eq_false_iff, Bool.or_eq_false_iff] at c10
    have hpos : 0 < xs.length := by omega
    refine W.skip ?_
    refine W.seq ?_
    refine W.seq ?_
    refine W.region ?_
    refine WL.c rfl (o_mv ?_)
    refine WL.c rfl (o_nil rfl ?_)
    refine WL.c rfl (o_fa 0 TI75 rfl TI23 rfl rfl ?_)
    refine WL.c rfl (o_ld TI23 rfl rfl (cell_of hcell rfl) ?_)
    refine WL.c rfl (o_ix1 (i := 0) TI23 TI5 rfl rfl h.by_ (by omega) ?_)
    intro b17 o17 hc17 hb17
    refine WL.c rfl (o_ld TI5 rfl rfl (hc17.trans (getbv hpos)) ?_)
    refine WL.c rfl (o_ne rfl rfl ?_)
    refine WL.nil ?_
    refine W.cond rfl (fun c19 => ?_) (fun c19 => ?_)
    · try simp only [decide_eq_true_eq, decide_eq_false_iff_not, Bool.not_eq_true', Bool.not_eq_false', Bool.and_eq_true, Bool.or_eq_true, Bool.and_eq_false_iff, Bool.or_eq_false_iff] at c19
      refine W.region ?_
      refine WL.c rfl (o_bldC (cs := [(.int .i64 221), (.int .i64 0)]) TI31 (Sizes.cons TI29 (Sizes.cons TI3 Sizes.nil)) rfl (lcp (show _ = Value.int _ _ from rfl) lnp) rfl rfl ?_)
      refine WL.c rfl (o_mkI TI31 rfl rfl ?_)
      refine WL.ux (ox_panic (show _ = Value.iface _ _ from rfl) ?_)
      exact ⟨221, 0, by rw [rdS, if_neg (by omega), head_get hpos, if_neg (by intro he; simp only [Option.some.injEq] at he; rw [he] at c19; exact absurd rfl c19)], rfl, Only.refl _ _⟩
    · try simp only [decide_eq_true_eq, decide_eq_false_iff_not, Bool.not_eq_true', Bool.not_eq_false', Bool.and_eq_true, Bool.or_eq_true, Bool.and_eq_false_iff, Bool.or_eq_false_iff] at c19
      refine W.skip ?_
      refine W.seq ?_
      have hS0 : rdS xs = rdS1 xs := by rw [rdS, if_neg (by omega), head_get hpos, if_pos (congrArg some (bv_eq (d := 102) (by simpa using c19)))]
      refine W.region ?_
      refine WL.c rfl (o_mv ?_)
      refine WL.c rfl (o_nil rfl ?_)
      refine WL.c rfl (o_fa 1 TI75 rfl TI3 rfl rfl ?_)
      refine WL.u (o_stB TI3 rfl (show _ = Value.int _ _ from rfl) rfl hcell (show 1 < 2 by decide) ?_)
      intro w5 hB5 ho5 hs5
      have hq0 := ho5
      replace h : Rdr w5 B0 q bv xs 1 := ⟨hB5, Sl.keep h.by_ ho5 (fun b hb he => by subst he; rw [h.off _ hb h.hq]; rfl), h.off, h.hq, hpos, h.small⟩
      refine WL.nil ?_
      refine W.seq ?_
      refine W.region ?_
      refine WL.c rfl (o_mv ?_)
      refine WL.cx rfl (ox_call Try.call50 (lc rfl (lc rfl (lc rfl ln))) ((number_spec B0 q 1 1 1048576 bv xs _ h (by decide) (by decide) (by decide)).mono ?_ (fun ch w' hh => by obtain ⟨e, a, h1, h2, h3⟩ := hh; exact ⟨e, a, by simp only [hS0, rdS1, Rd.bind, h1], h2, hq0.trans' h3 (fun _ h => h) (fun _ _ h => h.elim)⟩)))
      rintro v26 w26 ⟨n26, a26, hr26, rfl, h', ho26⟩
      replace h := h'
      replace hq0 := hq0.trans' ho26 (fun _ h => h) (fun _ _ h => h)
      refine WL.c rfl (o_bldC (cs := [_, (.int .i64 0), (.slice none 0 0)]) TI71 (Sizes.cons TI3 (Sizes.cons TI3 (Sizes.cons TI22 Sizes.nil))) rfl (lcp (show _ = Value.int _ _ from rfl) lnp) rfl rfl ?_)
      refine WL.c rfl (o_boxB rfl ?_)
      intro w28 hCs hx28 hs28
      obtain ⟨cs, hcs⟩ : ∃ cs, cs = w26.heap.size := ⟨_, rfl⟩
      rw [← hcs] at hCs ⊢
      replace hCs : w28.heap[cs]? = some (.cells #[.int .i64 (n26 : Int), .int .i64 0, .slice none 0 0] 71 (0, 0)) := hCs
      replace h := h.ext hx28
      have hcs0 : w0.heap.size ≤ cs := by rw [hcs]; exact hq0.size
      replace hq0 := hq0.ext hx28
      have g26 := rdN_ok hr26
      refine WL.c rfl (o_as ?_)
      refine WL.nil ?_
      refine W.seq ?_
      refine W.region ?_
      refine WL.c rfl (o_mv ?_)
      refine WL.c rfl (o_mv ?_)
      refine WL.c rfl (o_nil rfl ?_)
      refine WL.c rfl (o_fa 0 TI71 rfl TI3 rfl rfl ?_)
      refine WL.c rfl (o_ld TI3 rfl rfl (cell_of hCs rfl) ?_)
      refine WL.cx rfl (ox_call Try.call50 (lc rfl (lc rfl (lc rfl ln))) ((number_spec B0 q a26 0 n26 bv xs _ h (by decide) (by omega) (by omega)).mono ?_ (fun ch w' hh => by obtain ⟨e, a, h1, h2, h3⟩ := hh; exact ⟨e, a, by simp only [hS0, rdS1, Rd.bind, hr26, h1], h2, hq0.trans' h3 (fun _ h => h) (fun _ _ h => h.elim)⟩)))
      rintro v34 w34 ⟨n34, a34, hr34, rfl, h', ho34⟩
      replace h := h'
      replace hq0 := hq0.trans' ho34 (fun _ h => h) (fun _ _ h => h)
      replace hCs := ho34.blk hCs (show ¬ _ = q by omega)
      refine WL.c rfl (o_as ?_)
      refine WL.nil ?_
      refine W.seq ?_
      refine W.region ?_
      refine WL.c rfl (o_mv ?_)
      refine WL.c rfl (o_mv ?_)
      refine WL.c rfl (o_mv ?_)
      refine WL.c rfl (o_mv ?_)
      refine WL.c rfl (o_nil rfl ?_)
      refine WL.c rfl (o_fa 0 TI71 rfl TI3 rfl rfl ?_)
      refine WL.c rfl (o_ld TI3 rfl rfl (cell_of hCs rfl) ?_)
      refine WL.cx rfl (ox_call Try.call50 (lc rfl (lc rfl (lc rfl ln))) ((number_spec B0 q a34 n34 n26 bv xs _ h (by omega) (by omega) (by omega)).mono ?_ (fun ch w' hh => by obtain ⟨e, a, h1, h2, h3⟩ := hh; exact ⟨e, a, by simp only [hS0, rdS1, Rd.bind, hr26, hr34, h1], h2, hq0.trans' h3 (fun _ h => h) (fun _ _ h => h.elim)⟩)))
      rintro v42 w42 ⟨n42, a42, hr42, rfl, h', ho42⟩
      replace h := h'
      replace hq0 := hq0.trans' ho42 (fun _ h => h) (fun _ _ h => h)
      replace hCs := ho42.blk hCs (show ¬ _ = q by omega)
      refine WL.c rfl (o_nil rfl ?_)
      refine WL.c rfl (o_fa 1 TI71 rfl TI3 rfl rfl ?_)
      refine WL.u (o_stB TI3 rfl (show _ = Value.int _ _ from rfl) rfl hCs (show 1 < 3 by decide) ?_)
      intro w44 hB44 ho44 hs44
      clear hCs
      have hCs : w44.heap[cs]? = some (.cells #[.int .i64 (n26 : Int), .int .i64 (n42 : Int), .slice none 0 0] 71 (0, 0)) := hB44
      replace h := h.keep ho44 (fun k he => by omega) (show ¬ q = cs by omega)
      replace hq0 := hq0.trans' ho44 (fun _ h => h) (fun k hk he => by omega)
      have g34 := rdN_ok hr34
      have g42 := rdN_ok hr42
      clear hB44 ho44
      refine WL.nil ?_
      refine W.seq ?_
      refine W.seq ?_
      refine W.region ?_
      refine WL.c rfl (o_mv ?_)
      refine WL.c rfl (o_mv ?_)
      refine WL.nil ?_
      refine W.block ?_
      refine W.loop (fun e w => ∃ (k : Nat) (acc : List Fr) (lv : Value) (V : Nat → Value) (a : Nat), k ≤ n34 ∧ e 0 = .pointer (some ⟨q, 0, none⟩) ∧ e 3 = .pointer (some ⟨cs, 0, none⟩) ∧ e 45 = .int .i64 (n34 : Int) ∧ e 46 = .int .i64 (k : Int) ∧ Stk w w0.heap.size cs n26 n42 acc lv V ∧ acc.length = k ∧ Rdr w B0 q bv xs a ∧ Only (fun k => k = q) w0 w ∧ rdL xs n34 a42 [] = rdL xs (n34 - k) a acc) (fun e w => n34 - (intOf (e 46)).toNat) ?_ ?_
      · exact ⟨0, [], .slice none 0 0, fun _ => undef, a42, Nat.zero_le _, rfl, rfl, rfl, rfl, ⟨hCs, Rows.nil _ _ _, hcs0, by omega, by simp, by simp⟩, rfl, h, hq0, rfl⟩
      rintro e w ⟨k, acc, lv, V, a, hk, h0, h3, h45, h46, hstk, hacc, h, hq0, hmany⟩
      have hm46 := h46
      have hcell := h.cell
      refine W.seq ?_
      refine W.region ?_
      refine WL.c rfl (o_lt h46 h45 ?_)
      refine WL.nil ?_
      refine W.seq ?_
      refine W.cond rfl (fun c47 => ?_) (fun c47 => ?_)
      · try simp only [decide_eq_true_eq, decide_eq_false_iff_not, Bool.not_eq_true', Bool.not_eq_false', Bool.and_eq_true, Bool.or_eq_true, Bool.and_eq_false_iff, Bool.or_eq_false_iff] at c47
        refine W.skip ?_
        refine W.seq ?_
        refine W.block ?_
        obtain ⟨wd, hwd⟩ : ∃ wd, wd = w.drew := ⟨_, rfl⟩
        have hxd : Ext w wd := hwd ▸ Only.drew w
        replace h := h.ext hxd
        replace hstk := hstk.ext hxd
        replace hq0 := hq0.ext hxd
        have hk1 : k < n34 := by omega
        have hscell := hstk.cell
        have hlq : ¬ lv.ownBlock = some q := fun hk => by have := (hstk.rows.row.lt q hk).1; omega
        have hlB : ∀ k, lv.ownBlock = some k → B0 ≤ k := fun k hk => by have := (hstk.rows.row.lt k hk).1; omega
        have hlt : ∀ k, lv.ownBlock = some k → k < wd.heap.size := fun k hk => (hstk.rows.row.lt k hk).2
        have hltV : ∀ j, j < acc.length → ∀ k, (V j).ownBlock = some k → k < wd.heap.size := fun j hj k hk => (hstk.rows.tabs.lt hj hk).2
        have hls : ¬ lv.ownBlock = some cs := fun hk => hstk.p_off (.inl hk)
        have hqd : q < wd.heap.size := by have := hq0.size; omega
        have hcq : ¬ cs = q := by omega
        have hVq : ∀ j, j < acc.length → ¬ (V j).ownBlock = some q := fun j hj hk => by have := (hstk.rows.tabs.lt hj hk).1; omega
        refine W.drawF 9 [6, 8] [fun k => k = q, fun k => lv.ownBlock = some k] [(0, fun v _ => v = _), (3, fun v _ => v = _), (45, fun v _ => v = _), (46, fun v _ => v = _)] rfl (by kernel_rfl) (by kernel_rfl) ⟨Mono.eq, Mono.eq, Mono.eq, Mono.eq, trivial⟩ ⟨h0, h3, h45, h46, trivial⟩ ?_
        refine WDS.p rfl (by decide) (fun e w hR hh => by obtain ⟨h3, -⟩ := hh; exact SG.n (o_mvh h3 ⟨rfl, Only.refl No _⟩)) ?_
        refine WDS.p rfl (by decide) (fun e w hR hh => by obtain ⟨h3, -⟩ := hh; exact SG.n (o_mvh h3 ⟨rfl, Only.refl No _⟩)) ?_
        refine WDS.p rfl (by decide) (fun e w hR hh => by obtain ⟨h49, -⟩ := hh; exact SG.n (o_nil h49 ⟨rfl, Only.refl No _⟩)) ?_
        refine WDS.p rfl (by decide) (fun e w hR hh => by obtain ⟨h50, -⟩ := hh; exact SG.n (o_fa 2 TI71 rfl TI22 rfl h50 ⟨rfl, Only.refl No _⟩)) ?_
        refine WDS.p rfl (by decide) (fun e w hR hh => by obtain ⟨h51, -⟩ := hh; rw [← hwd] at hR; have hc := hR.blk hscell (fun hF => by rcases hF with hF | hF | hF <;> first | exact hcq hF | exact hls hF | exact hF); exact SG.n (o_ld TI22 rfl h51 (cell_of hc rfl) ⟨rfl, Only.refl No _⟩)) ?_
        refine WDS.p rfl (by decide) (fun e w hR hh => by obtain ⟨h0, -⟩ := hh; exact SG.n (o_mvh h0 ⟨rfl, Only.refl No _⟩)) ?_
        refine WDS.mf 0 1 (fun v w => ∃ f u a2, rdF xs a = .ok f a2 ∧ v = .agg (fcells f u).toArray ∧ w.ownsRow wd.heap.size 3 1 u f.tab.length (ints f.tab) ∧ Rdr w B0 q bv xs a2) (fun v w w2 hR hh => by obtain ⟨f, u, a2, h1, h2, h3, h4⟩ := hh; exact ⟨f, u, a2, h1, h2, own_only h3 hR (fun k hk hF => by rcases hF with hF | hF <;> first | exact hF | (have := hlt k hF; have := (h3.lt k hk).1; omega)), h4.keep hR (fun k hF => by rcases hF with hF | hF; exact hlB k hF; exact hF.elim) (fun hF => by rcases hF with hF | hF; exact hlq hF; exact hF)⟩) (by kernel_rfl) rfl rfl rfl (fun e w hR hW hh => by obtain ⟨h53, -⟩ := hh; rw [← hwd] at hW; have hW2 : Ext wd w := hW.mono (fun k _ hF => hF); exact SGX.n (ox_call Try.call51 (lc h53 ln) ((frame_spec B0 q a bv xs w (h.ext hW2)).mono (fun v w' hh => by obtain ⟨f, u, a2, h1, h2, h3, h4, h5⟩ := hh; exact ⟨⟨f, u, a2, h1, h2, own_mono h3 hW.size, h4⟩, h5⟩) (fun ch w' hh => by obtain ⟨e1, a1, h1, h2, h3⟩ := hh; exact ⟨e1, a1, by obtain ⟨m', hm'⟩ : ∃ m', n34 - k = m' + 1 := ⟨n34 - k - 1, by omega⟩; rw [hm'] at hmany; simp only [hS0, rdS1, Rd.bind, hr26, hr34, hr42, hmany, rdL, h1], h2, (hq0.ext hW2).trans' h3 (fun _ h => h) (fun _ _ h => h)⟩)))) ?_
        refine WDS.q 1 (fun v w => ∃ f u a2, rdF xs a = .ok f a2 ∧ w.ownsRow wd.heap.size 39 7 v 1 (fcells f u) ∧ w.ownsRow wd.heap.size 3 1 u f.tab.length (ints f.tab) ∧ Rdr w B0 q bv xs a2) (fun v w w2 hR hh => by obtain ⟨f, u, a2, h1, h2, h3, h4⟩ := hh; exact ⟨f, u, a2, h1, own_only h2 hR (fun k hk hF => by rcases hF with hF | hF <;> first | exact hF | (have := hlt k hF; have := (h2.lt k hk).1; omega)), own_only h3 hR (fun k hk hF => by rcases hF with hF | hF <;> first | exact hF | (have := hlt k hF; have := (h3.lt k hk).1; omega)), h4.keep hR (fun k hF => by rcases hF with hF | hF; exact hlB k hF; exact hF.elim) (fun hF => by rcases hF with hF | hF; exact hlq hF; exact hF)⟩) (by kernel_rfl) rfl (by decide) (fun e w hR hh => by obtain ⟨h54, -⟩ := hh; rw [← hwd] at hR; obtain ⟨f, u, a2, hrf, h54v, h54o, hrd⟩ := h54; exact SG.n (o_bs1 TI22 TI39 h54v (by decide) (by decide) rfl ⟨⟨f, u, a2, hrf, own_mono (own_new1 rfl) hR.size, own_ext h54o (Only.alloc w _), hrd.ext (Only.alloc w _)⟩, Only.alloc w _⟩)) ?_
        refine WDS.mf 1 2 (fun v w => ∃ f u a2, rdF xs a = .ok f a2 ∧ w.ownsRow w0.heap.size 39 7 v (acc.length + 1) (frows acc V ++ fcells f u) ∧ w.ownsRow wd.heap.size 3 1 u f.tab.length (ints f.tab) ∧ Rdr w B0 q bv xs a2) (fun v w w2 hR hh => by obtain ⟨f, u, a2, h1, h2, h3, h4⟩ := hh; exact ⟨f, u, a2, h1, own_ext h2 hR, own_ext h3 hR, h4.ext hR⟩) (by kernel_rfl) rfl rfl rfl (fun e w hR hW hh => by obtain ⟨h55, h52, -⟩ := hh; rw [← hwd] at hR hW; obtain ⟨f, u, a2, hrf, h55r, h55o, hrd⟩ := h55; have hrow4 := own_only hstk.rows.row hW (fun k hk hF => by rcases hF with hF | hF <;> first | exact hF | (subst hF; exact hlq hk)); have hw2 := hR.size; have hw3 := hq0.size; exact SGX.n (OP.x (o_apO w0.heap.size TI22 TI39 h52 rfl hrow4 (Sl.own h55r) rfl (by decide) (fcells_all (own_one h55o)) (by rw [maxLen_eq]; omega) (by omega) (by omega) (fun v' w' h1 h2 h3 _ => ⟨⟨f, u, a2, hrf, h1, own_only h55o h2 (fun k hk hF => by have := hlt k hF; have := (h55o.lt k hk).1; omega), hrd.keep h2 hlB hlq⟩, h2⟩)))) ?_
        rintro e w hR ⟨h56, h55, h54, h53, h52, h51, h50, h49, h48, h0, h3, h45, h46, -⟩
        rw [← hwd] at hR
        obtain ⟨f, u, a2, hrf, hr56, hou, hrd⟩ := h56
        obtain ⟨v56, hv56⟩ : ∃ v, v = e 56 := ⟨_, rfl⟩
        rw [← hv56] at hr56
        have hc5 := hR.blk hscell (fun hF => by rcases hF with hF | hF | hF <;> first | exact hcq hF | exact hls hF | exact hF)
        have hrow5 : Rows w w0.heap.size (acc ++ [f]) v56 (fun j => if j = acc.length then u else V j) := Rows.snoc hr56 (hstk.rows.tabs.only hR (fun j hj k hk hF => by rcases hF with hF | hF | hF <;> first | exact hF | (subst hF; exact hVq j hj hk) | exact own_row_off hstk.rows.row (hstk.rows.tabs.row j hj) (by decide) k hk hF)) hou (by have := hq0.size; omega) hltV
        refine WL.c rfl (o_nil h48 ?_)
        refine WL.c rfl (o_fa 2 TI71 rfl TI22 rfl rfl ?_)
        refine WL.u (o_stB TI22 rfl (show _ = v56 from hv56.symm) (own_one hr56) hc5 (show 2 < 3 by decide) ?_)
        intro w6 hB6 ho6 hs6
        replace hB6 : w6.heap[cs]? = some (.cells #[.int .i64 (n26 : Int), .int .i64 (n42 : Int), v56] 71 (0, 0)) := hB6
        have hrow6 := hrow5.only ho6 (fun k hk he => by subst he; exact hrow5.off hc5 (by decide) (by decide) hk)
        have hfw := rdF_whole hrf
        have hstk' : Stk w6 w0.heap.size cs n26 n42 (acc ++ [f]) v56 _ := ⟨hB6, hrow6, hcs0, by omega, by rw [List.length_append, List.length_singleton]; omega, tl_snoc hstk.tl hfw⟩
        have hrd' := hrd.keep ho6 (fun k he => by omega) (show ¬ q = cs by omega)
        have hq56 : Only (fun k => k = q) w0 w6 := (hq0.trans' hR (fun _ h => h) (fun k hk hF => by rcases hF with hF | hF | hF; exact hF; have := (hstk.rows.row.lt k hF).1; omega; exact hF.elim)).trans' ho6 (fun _ h => h) (fun k hk he => by omega)
        refine WL.nil ?_
        refine W.region ?_
        refine WL.c rfl (o_addi h46 rfl (by omega) ?_)
        refine WL.c rfl (o_mv ?_)
        refine WL.nil ?_
        refine ⟨⟨k + 1, acc ++ [f], v56, _, a2, by omega, h0, h3, h45, rfl, hstk', by simp [hacc], hrd', hq56, ?_⟩, ?_⟩
        · rw [hmany]; obtain ⟨m', hm'⟩ : ∃ m', n34 - k = m' + 1 := ⟨n34 - k - 1, by omega⟩; rw [hm']; simp only [rdL, hrf, Rd.bind, show n34 - (k + 1) = m' by omega]
        · show n34 - ((k : Int) + 1).toNat < _
          rw [hm46]; simp [intOf]; omega
      · try simp only [decide_eq_true_eq, decide_eq_false_iff_not, Bool.not_eq_true', Bool.not_eq_false', Bool.and_eq_true, Bool.or_eq_true, Bool.and_eq_false_iff, Bool.or_eq_false_iff] at c47
        refine W.exit ?_
        refine W.seq ?_
        refine W.seq ?_
        have hkn : k = n34 := by omega
        subst hkn
        rw [Nat.sub_self, rdL] at hmany
        refine W.quiet rfl (by kernel_rfl) ?_
        refine WQ.c rfl ((QO.o rfl fun _ => o_mvh h0 ⟨rfl, rfl⟩)) ?_
        refine WQ.c rfl ((QO.r fun _ => r_nil rfl)) ?_
        refine WQ.c rfl ((QO.o rfl fun _ => o_fa 1 TI75 rfl TI3 rfl rfl ⟨rfl, rfl⟩)) ?_
        refine WQ.c rfl ((QO.o rfl fun _ => o_ld TI3 rfl rfl (cell_of hcell rfl) ⟨rfl, rfl⟩)) ?_
        refine WQ.c rfl ((QO.o rfl fun _ => o_mvh h0 ⟨rfl, rfl⟩)) ?_
        refine WQ.c rfl ((QO.r fun _ => r_nil rfl)) ?_
        refine WQ.c rfl ((QO.o rfl fun _ => o_fa 0 TI75 rfl TI23 rfl rfl ⟨rfl, rfl⟩)) ?_
        refine WQ.c rfl ((QO.o rfl fun _ => o_ld TI23 rfl rfl (cell_of hcell rfl) ⟨rfl, rfl⟩)) ?_
        refine WQ.c rfl ((QO.r fun _ => r_lenR TI23 rfl h.by_)) ?_
        refine WQ.c rfl ((QO.o rfl fun _ => o_lt rfl rfl ⟨rfl, rfl⟩)) ?_
        refine WQ.nil ?_
        intro nq
        refine W.cond rfl (fun c69 => ?_) (fun c69 => ?_)
        · try simp only [decide_eq_true_eq, decide_eq_false_iff_not, Bool.not_eq_true', Bool.not_eq_false', Bool.and_eq_true, Bool.or_eq_true, Bool.and_eq_false_iff, Bool.or_eq_false_iff] at c69
          refine W.region ?_
          refine WL.c rfl (o_mvh h0 ?_)
          refine WL.c rfl (o_nil rfl ?_)
          refine WL.c rfl (o_fa 1 TI75 rfl TI3 rfl rfl ?_)
          refine WL.c rfl (o_ld TI3 rfl rfl (cell_of hcell rfl) ?_)
          refine WL.c rfl (o_bldC (cs := [(.int .i64 124), _]) TI31 (Sizes.cons TI29 (Sizes.cons TI3 Sizes.nil)) rfl (lcp (show _ = Value.int _ _ from rfl) (lcp (show _ = Value.int _ _ from rfl) lnp)) rfl rfl ?_)
          refine WL.c rfl (o_mkI TI31 rfl rfl ?_)
          refine WL.ux (ox_panic (show _ = Value.iface _ _ from rfl) ?_)
          exact ⟨124, a, by simp only [hS0, rdS1, Rd.bind, hr26, hr34, hr42, hmany]; rw [if_pos (by omega)], rfl, hq0.ext (Only.drewN w nq)⟩
        · try simp only [decide_eq_true_eq, decide_eq_false_iff_not, Bool.not_eq_true', Bool.not_eq_false', Bool.and_eq_true, Bool.or_eq_true, Bool.and_eq_false_iff, Bool.or_eq_false_iff] at c69
          refine W.skip ?_
          refine W.seq ?_
          refine W.region ?_
          refine WL.c rfl (o_mvh h3 ?_)
          refine WL.c rfl (o_as ?_)
          refine WL.nil ?_
          refine W.ret ?_
          refine ret1v rfl (show _ = Value.pointer _ from rfl) ?_
          exact ⟨⟨n26, n42, acc⟩, lv, V, a, cs, by simp only [hS0, rdS1, Rd.bind, hr26, hr34, hr42, hmany]; rw [if_neg (by omega)], rfl, hstk.ext (Only.drewN w nq), hq0.ext (Only.drewN w nq)⟩

theorem run_load1 {P : Program} {w : World} {t : TypeId} {d : TypeDesc} {bs b o : Nat} {z v : Value} (ht : Ty P t d 1 bs z) (hd : isAggD d = false) (hc : w.cell? ⟨b, o, none⟩ = some v) : (loadVar t ⟨b, o, none⟩).run P w = .ok v w := by
  simp [loadVar, ht.run_agg, hd, hc]
theorem retCC {fn : Func} {P : Program} {e : Env} {w : World} {R : Value → World → Prop} {a1 a2 : Tmp} {T1 T2 : TypeId} {d1 d2 : TypeDesc} {bs1 s bs b1 b2 o1 o2 : Nat} {z1 z v : Value} {xs : List Value} (hr : fn.results = #[.cell a1 T1, .cell a2 T2]) (ht1 : Ty P T1 d1 1 bs1 z1) (hd1 : isAggD d1 = false) (ht : Ty P T2 d2 s bs z) (hd : isAggD d2 = true)
    (h1 : e a1 = .pointer (some ⟨b1, o1, none⟩)) (h2 : e a2 = .pointer (some ⟨b2, o2, none⟩)) (hc1 : w.cell? ⟨b1, o1, none⟩ = some v) (hc : Cells w b2 o2 xs) (hl : xs.length = s) (h : R (.tuple #[v, .agg xs.toArray]) w) : Rt fn P R e w :=
  ⟨fun _ ac ha => ⟨.tuple #[v, .agg xs.toArray], by
    have g1 : ac.tmps.getD a1 undef = .pointer (some ⟨b1, o1, none⟩) := by rw [ha.get]; exact h1
    have g2 : ac.tmps.getD a2 undef = .pointer (some ⟨b2, o2, none⟩) := by rw [ha.get]; exact h2
    simp only [Array.getD_eq_getD_getElem?] at g1 g2
    simp [results, hr, asAddr, g1, g2, run_load1 ht1 hd1 hc1, run_loadA ht hd hc hl], h⟩⟩

theorem load1_panic (b2 b3 : Nat) (e a : Nat) (x y1 y2 : Value) (w0 : World) (hC2 : w0.heap[b2]? = some (.cells #[x] 25 (0, 0))) (hC3 : w0.heap[b3]? = some (.cells #[y1, y2] 31 (0, 0))) : CallsD Try.prog 32 #[.pointer (some ⟨b2, 0, none⟩), .pointer (some ⟨b3, 0, none⟩)] (.panicking [pan e a]) w0 (fun en u2 w' => match en with | .returned _ => u2 = .panicking [{ pan e a with recovered := true }] ∧ (w'.heap[b2]? = some (.cells #[.pointer none] 25 (0, 0)) ∧ w'.heap[b3]? = some (.cells #[.int .i64 (e : Int), .int .i64 (a : Int)] 31 (0, 0)) ∧ Only (fun k => k = b2 ∨ k = b3) w0 w') | _ => False) := by
  refine calls_recover (l := [.pointer (some ⟨b2, 0, none⟩), .pointer (some ⟨b3, 0, none⟩)]) Try.func32 Try.ntmps32 rfl rfl rfl (.inl ⟨[], rfl, rfl⟩) ?_
  have hne : b2 ≠ b3 := fun he => by subst he; rw [hC2] at hC3; cases hC3
  have hb2 := (Array.getElem?_eq_some_iff.1 hC2).1
  refine W.block ?_
  refine W.seq ?_
  refine W.region ?_
  refine WL.c rfl (o_eqIN Try.underlying20 rfl rfl ?_)
  refine WL.nil ?_
  refine W.condF' rfl (rfl) ?_
  refine W.seq ?_
  refine W.region ?_
  refine WL.c rfl (o_taT TI31 rfl (show _ = Value.iface 31 (.agg #[.int .i64 (e : Int), .int .i64 (a : Int)]) from rfl) ?_)
  refine WL.c rfl (o_ext rfl rfl ?_)
  refine WL.c rfl (o_ext rfl rfl ?_)
  refine WL.nil ?_
  refine W.condT' rfl (rfl) ?_
  refine W.seq ?_
  refine W.region ?_
  refine WL.c rfl (o_alB TI31 ?_)
  intro w3 hC hx3 hs3
  refine WL.u (o_stA TI31 rfl (show _ = Value.agg #[.int .i64 (e : Int), .int .i64 (a : Int)] from rfl) rfl rfl hC rfl ?_)
  intro w4 hB4 ho4 hs4
  replace hC2 := ho4.blk (hx3.blk hC2 (fun h => h)) (show ¬ b2 = w0.heap.size from fun he => by have := (Array.getElem?_eq_some_iff.1 hC2).1; omega)
  replace hC3 := ho4.blk (hx3.blk hC3 (fun h => h)) (show ¬ b3 = w0.heap.size from fun he => by have := (Array.getElem?_eq_some_iff.1 hC3).1; omega)
  have hx4 : Ext w0 w4 := hx3.trans' ho4 (fun _ h => h) (fun j hj he => by omega)
  refine WL.nil ?_
  have hcs : Cells w4.drew w0.heap.size 0 [.int .i64 (e : Int), .int .i64 (a : Int)] := Cells.of (show w4.drew.heap[w0.heap.size]? = _ from hB4) 0 _ (by simp)
  have h2lt := (Array.getElem?_eq_some_iff.1 hC2).1
  have h3lt := (Array.getElem?_eq_some_iff.1 hC3).1
  replace hC2 : w4.drew.heap[b2]? = _ := hC2
  replace hC3 : w4.drew.heap[b3]? = _ := hC3
  replace hx4 := hx4.tr (Only.drew w4)
  refine W.enum rfl ?_
  generalize w4.drew = wd at *
  have fin : ∀ w5 w6, Only (fun k => k = b2) wd w5 → Only (fun k => k = b3) w5 w6 → Only (fun k => k = b2 ∨ k = b3) w0 w6 := fun w5 w6 h1 h2 => (hx4.trans' h1 (fun _ h => h.elim) (fun _ _ h => .inl h)).trans' h2 (fun _ h => h) (fun _ _ h => .inr h)
  refine WA.step (r := [0, 1]) (by kernel_rfl) (by decide) (all2 ?_ ?_)
  · refine WO.c rfl rfl (o_ldA TI31 rfl rfl hcs rfl ?_)
    refine WA.step (r := [1]) (by kernel_rfl) (by decide) (all1 ?_)
    refine WO.u rfl (o_stB TI25 rfl (show _ = Value.pointer none from rfl) rfl hC2 (show 0 < 1 by decide) ?_)
    intro w5 hB5 ho5 hs5
    refine WA.step (r := [2]) (by kernel_rfl) (by decide) (all1 ?_)
    refine WO.u rfl (o_stA TI31 rfl (show _ = Value.agg #[.int .i64 (e : Int), .int .i64 (a : Int)] from rfl) rfl rfl (ho5.blk hC3 (fun he => hne he.symm)) rfl ?_)
    intro w6 hB6 ho6 hs6
    refine WA.done (by kernel_rfl) ?_
    exact ret0 rfl ⟨ho6.blk hB5 hne, hB6, fin w5 w6 ho5 ho6⟩
  · refine WO.u rfl (o_stB TI25 rfl (show _ = Value.pointer none from rfl) rfl hC2 (show 0 < 1 by decide) ?_)
    intro w5 hB5 ho5 hs5
    refine WA.step (r := [0]) (by kernel_rfl) (by decide) (all1 ?_)
    refine WO.c rfl rfl (o_ldA TI31 rfl rfl (hcs.only ho5 (show ¬ w0.heap.size = b2 by omega)) rfl ?_)
    refine WA.step (r := [2]) (by kernel_rfl) (by decide) (all1 ?_)
    refine WO.u rfl (o_stA TI31 rfl (show _ = Value.agg #[.int .i64 (e : Int), .int .i64 (a : Int)] from rfl) rfl rfl (ho5.blk hC3 (fun he => hne he.symm)) rfl ?_)
    intro w6 hB6 ho6 hs6
    refine WA.done (by kernel_rfl) ?_
    exact ret0 rfl ⟨ho6.blk hB5 hne, hB6, fin w5 w6 ho5 ho6⟩
theorem load1_ret (b2 b3 : Nat) (w0 : World) : CallsD Try.prog 32 #[.pointer (some ⟨b2, 0, none⟩), .pointer (some ⟨b3, 0, none⟩)] .returning w0 (fun en u2 w' => match en with | .returned _ => u2 = .returning ∧ w' = w0 | _ => False) := by
  refine calls_recover (R := fun w' => w' = w0) (l := [.pointer (some ⟨b2, 0, none⟩), .pointer (some ⟨b3, 0, none⟩)]) Try.func32 Try.ntmps32 rfl rfl rfl (.inr ⟨rfl, rfl, rfl⟩) ?_
  refine W.block ?_
  refine W.seq ?_
  refine W.region ?_
  refine WL.c rfl (o_eqNN Try.underlying20 rfl ?_)
  refine WL.nil ?_
  refine W.condT' rfl (rfl) ?_
  refine W.region ?_
  refine WL.c rfl (o_as ?_)
  refine WL.nil ?_
  exact ret0 rfl rfl

theorem load_spec (bv : Value) (xs : List UInt8) (w0 : World) (hB : By w0 bv xs) (hsm : xs.length ≤ 1000000000000000000) : Ca Try.prog 9 #[bv] w0 (fun v w' => (∀ s a, rdS xs = .ok s a → ∃ p lv V, v = .tuple #[.pointer (some ⟨p, 0, none⟩), .agg #[.int .i64 0, .int .i64 0]] ∧ Stk w' w0.heap.size p s.most s.high s.L lv V ∧ Ext w0 w') ∧ (∀ e a, rdS xs = .bad e a → v = .tuple #[.pointer none, .agg #[.int .i64 (e : Int), .int .i64 (a : Int)]] ∧ Ext w0 w')) := by
  refine calls_ofF (l := [bv]) Try.func9 Try.ntmps9 rfl rfl ?_
  refine WF.seq (WF.region ?_)
  refine WLF.c rfl (o_alB TI25 ?_)
  intro w2 hC2 hx2 hs2
  refine WLF.c rfl (o_alB TI31 ?_)
  intro w3 hC3 hx3 hs3
  refine WLF.nil ?_
  refine WF.seq (WF.region ?_)
  refine WLF.c rfl (o_mkF (lc rfl (lc rfl ln)) ?_)
  refine WLF.d rfl ?_
  refine WLF.nil ?_
  refine WF.of ?_
  refine W.seq (W.region ?_)
  refine WL.c rfl (o_mv ?_)
  have hslf : ∃ a n c, bv = .slice a n c := by obtain ⟨a, c, h⟩ := hB.isSlice; exact ⟨_, _, _, h⟩
  obtain ⟨ba, bn, bc, rfl⟩ := hslf
  refine WL.c rfl (o_bldC (cs := [_, (.int .i64 0)]) TI75 (Sizes.cons TI23 (Sizes.cons TI3 Sizes.nil)) rfl (lcp (show _ = Value.slice ba bn bc from rfl) lnp) rfl rfl ?_)
  refine WL.c rfl (o_boxB (show _ = Value.agg #[.slice ba bn bc, .int .i64 0] from rfl) ?_)
  intro w7 hC7 hx7 hs7
  rw [hs2] at hC3 hs3 ⊢
  rw [hs3] at hC7 hs7 ⊢
  have hx : Ext w0 w7 := (hx2.tr hx3).tr hx7
  replace hC2 := (hx3.tr hx7).blk hC2 (fun h => h)
  replace hC3 := hx7.blk hC3 (fun h => h)
  have hoff : ∀ b, (Value.slice ba bn bc).ownBlock = some b → w0.heap.size ≤ b → xs = [] := by
    intro b hb hge
    obtain ⟨hl, hv⟩ := hB
    rcases hv with ⟨h1, a, c, hv⟩ | ⟨b', off, c, hv, hnc, hc⟩
    · exact List.eq_nil_of_length_eq_zero h1
    · rw [hv] at hb
      simp only [Value.ownBlock, Option.some.injEq] at hb
      by_cases e : xs = []
      · exact e
      · exfalso
        have hpos := List.length_pos_iff.2 e
        have h1 := hc 0 _ (getbv hpos)
        have : b' < w0.heap.size := by
          unfold World.cell? at h1
          simp only at h1
          rcases Nat.lt_or_ge b' w0.heap.size with h | h
          · exact h
          · rw [Array.getElem?_eq_none h] at h1; simp at h1
        omega
  have hrd : Rdr w7 w0.heap.size (w0.heap.size + 1 + 1) (.slice ba bn bc) xs 0 := ⟨hC7, Sl.ext hB hx, hoff, by omega, Nat.zero_le _, hsm⟩
  refine WL.cx rfl (ox_call Try.call33 (lc rfl ln) ((stack_spec w0.heap.size (w0.heap.size + 1 + 1) 0 (.slice ba bn bc) xs w7 hrd).mono ?_ ?_))
  · rintro v8 w8 ⟨s, lv, V, a, p, hrs, rfl, hstk, ho8⟩
    have hp8 := hstk.lo
    replace hC2 := ho8.blk hC2 (show ¬ w0.heap.size = w0.heap.size + 1 + 1 by omega)
    replace hC3 := ho8.blk hC3 (show ¬ w0.heap.size + 1 = w0.heap.size + 1 + 1 by omega)
    refine WL.c rfl (o_bldC (cs := [(.int .i64 0), (.int .i64 0)]) TI31 (Sizes.cons TI29 (Sizes.cons TI3 Sizes.nil)) rfl lnp rfl rfl ?_)
    refine WL.u (o_stB TI25 rfl (show _ = Value.pointer (some ⟨p, 0, none⟩) from rfl) rfl hC2 (show 0 < 1 by decide) ?_)
    intro w9 hB9 ho9 hs9
    replace hC3 := ho9.blk hC3 (show ¬ w0.heap.size + 1 = w0.heap.size by omega)
    refine WL.u (o_stA TI31 rfl (show _ = Value.agg #[.int .i64 0, .int .i64 0] from rfl) rfl rfl hC3 rfl ?_)
    intro w10 hB10 ho10 hs10
    refine WL.nil ?_
    refine W.ret ?_
    refine Lv.one Try.call32 (by simp) (S := fun u2 w' => u2 = .returning ∧ w' = w10) ((load1_ret w0.heap.size (w0.heap.size + 1) w10).mono (fun en u w' h => by cases en <;> exact h)) ?_
    rintro u' w11 ⟨rfl, rfl⟩
    refine Lv.ret (R := fun v w' => v = .tuple #[.pointer (some ⟨p, 0, none⟩), .agg #[.int .i64 0, .int .i64 0]] ∧ w' = w11) (retCC rfl TI25 rfl TI31 rfl rfl rfl (cell_of (ho10.blk hB9 (show ¬ w0.heap.size = w0.heap.size + 1 by omega)) rfl) (show Cells w11 (w0.heap.size + 1) 0 [.int .i64 0, .int .i64 0] from Cells.of hB10 0 _ (by simp)) rfl ⟨rfl, rfl⟩) ?_
    rintro v w' ⟨rfl, rfl⟩
    have hlt := hstk.lt
    refine ⟨fun s' a' h => ?_, fun e' a' h => (by rw [hrs] at h; cases h)⟩
    rw [hrs] at h
    simp only [Rd.ok.injEq] at h
    obtain ⟨rfl, rfl⟩ := h
    have hlow : ∀ k, k = w0.heap.size ∨ k = w0.heap.size + 1 → k < w7.heap.size := fun k hk => by omega
    have ho : Only (fun k => k = w0.heap.size ∨ k = w0.heap.size + 1) w8 w' := (ho9.mono (fun _ _ h => .inl h)).trans' ho10 (fun _ h => h) (fun _ _ h => .inr h)
    have hst2 := hstk.only ho (fun k hk hF => by have := (hlt k hk).1; have := hlow k hF; omega)
    exact ⟨p, lv, V, rfl, ⟨hst2.cell, ⟨own_mono hst2.rows.row hx.size, fun j hj => own_mono (hst2.rows.tabs.row j hj) hx.size, hst2.rows.tabs.off⟩, Nat.le_trans hx.size hp8, hst2.mb, hst2.len, hst2.tl⟩, (hx.trans' ho8 (fun _ h => h) (fun j hj he => by omega)).trans' ho (fun _ h => h) (fun j hj he => by omega)⟩
  · rintro ch w8 ⟨e, a, hrs, rfl, ho8⟩
    replace hC2 := ho8.blk hC2 (show ¬ w0.heap.size = w0.heap.size + 1 + 1 by omega)
    replace hC3 := ho8.blk hC3 (show ¬ w0.heap.size + 1 = w0.heap.size + 1 + 1 by omega)
    refine Lv.one Try.call32 (by simp) (S := fun u2 w' => u2 = .panicking [{ pan e a with recovered := true }] ∧ (w'.heap[w0.heap.size]? = some (.cells #[.pointer none] 25 (0, 0)) ∧ w'.heap[w0.heap.size + 1]? = some (.cells #[.int .i64 (e : Int), .int .i64 (a : Int)] 31 (0, 0)) ∧ Only (fun k => k = w0.heap.size ∨ k = w0.heap.size + 1) w8 w')) ((load1_panic w0.heap.size (w0.heap.size + 1) e a _ _ _ w8 hC2 hC3).mono (fun en u w' h => by cases en <;> exact h)) ?_
    rintro u' w9 ⟨rfl, hB2, hB3, ho9⟩
    refine Lv.ret (R := fun v w' => v = .tuple #[.pointer none, .agg #[.int .i64 (e : Int), .int .i64 (a : Int)]] ∧ w' = w9) (retCC rfl TI25 rfl TI31 rfl rfl rfl (cell_of hB2 rfl) (show Cells w9 (w0.heap.size + 1) 0 [.int .i64 (e : Int), .int .i64 (a : Int)] from Cells.of hB3 0 _ (by simp)) rfl ⟨rfl, rfl⟩) ?_
    rintro v w' ⟨rfl, rfl⟩
    refine ⟨fun s' a' h => (by rw [hrs] at h; cases h), fun e' a' h => ?_⟩
    rw [hrs] at h
    simp only [Rd.bad.injEq] at h
    obtain ⟨rfl, rfl⟩ := h
    exact ⟨rfl, (hx.trans' ho8 (fun _ h => h) (fun j hj he => by omega)).trans' ho9 (fun _ h => h) (fun j hj he => by omega)⟩


def rest (n m : Int) : Int := n % m
def cutF (f : Fr) : Fr := { f with tab := f.tab.take 300 }
def rHuge (n : Int) : Int := n % 4611686018427387904
def rightF (f : Fr) : Fr := ⟨rHuge f.rt, rHuge f.pl, rHuge f.bs, rHuge f.en - 1, rHuge f.nd - 1, rHuge f.nx, (f.tab.take 300).map rHuge⟩
theorem rHuge_in (n : Int) : 0 ≤ rHuge n ∧ rHuge n < 4611686018427387904 := by unfold rHuge; omega
theorem rightF_whole (f : Fr) : fwhole (rightF f) = true := by
  have h1 := rHuge_in f.rt
  have h2 := rHuge_in f.pl
  have h3 := rHuge_in f.bs
  have h4 := rHuge_in f.en
  have h5 := rHuge_in f.nd
  have h6 := rHuge_in f.nx
  simp only [fwhole, fright, tright, rightF, Bool.and_eq_true, inb_iff, decide_eq_true_eq, List.all_eq_true, Huge, List.mem_map, List.length_map, List.length_take]
  refine ⟨⟨⟨⟨⟨⟨?_, ?_⟩, ?_⟩, ?_⟩, ?_⟩, ?_⟩, ?_, ?_⟩ <;> try omega
  rintro n ⟨m, -, rfl⟩
  have := rHuge_in m
  omega
theorem In.at {w : World} {v : Value} {l : List Int} (h : In w v l) (h0 : 0 < l.length) : ∃ b o c, v = .slice (some ⟨b, o, none⟩) l.length c ∧ l.length ≤ c ∧ Cells w b o (ints l) := by
  rcases h.val with ⟨h1, _⟩ | ⟨b, o, c, hv, hnc, hc⟩
  · omega
  · exact ⟨b, o, c, hv, hnc, hc⟩
theorem Sl.low {w : World} {v : Value} {n s : Nat} {xs : List Value} (h : Sl w s v n xs) : ∀ b, v.ownBlock = some b → w.heap.size ≤ b → xs = [] := by
  intro b hb hge
  obtain ⟨hl, hv⟩ := h
  rcases hv with ⟨h1, a, c, hv⟩ | ⟨b', off, c, hv, hnc, hc⟩
  · exact List.eq_nil_of_length_eq_zero (by rw [hl, h1]; omega)
  · rw [hv] at hb
    simp only [Value.ownBlock, Option.some.injEq] at hb
    by_cases e : xs = []
    · exact e
    · exfalso
      have hpos := List.length_pos_iff.2 e
      have h1 := hc 0 _ (List.getElem?_eq_getElem hpos)
      have : b' < w.heap.size := by
        unfold World.cell? at h1
        simp only at h1
        rcases Nat.lt_or_ge b' w.heap.size with h | h
        · exact h
        · rw [Array.getElem?_eq_none h] at h1; simp at h1
      omega
def i64 (n : Int) : Prop := -9223372036854775808 ≤ n ∧ n ≤ 9223372036854775807
theorem rest_eq {n m : Int} (hm : 0 < m) : (n.tmod m + m).tmod m = n % m := by
  have h1 : -m < n.tmod m := by have := Int.lt_tmod_of_pos n hm; omega
  have h2 : n.tmod m < m := Int.tmod_lt_of_pos n hm
  rw [Int.tmod_eq_emod_of_nonneg (by omega), Int.add_emod_right]
  rcases Int.le_total 0 n with h | h
  · rw [Int.tmod_eq_emod_of_nonneg h, Int.emod_emod_of_dvd _ (Int.dvd_refl m)]
  · obtain ⟨k, rfl⟩ : ∃ k : Int, n = -k := ⟨-n, by omega⟩
    have hk : 0 ≤ k := by omega
    rw [Int.neg_tmod, Int.tmod_eq_emod_of_nonneg hk]
    have h3 := Int.emod_add_mul_ediv k m
    have : -k = -(k % m) + m * (-(k / m)) := by rw [Int.mul_neg]; omega
    rw [this, Int.add_mul_emod_self_left]

theorem num_spec (n : Int) (w0 : World) : Ca Try.prog 10 #[.int .i64 n] w0 (fun v w' => v = .int .i64 n ∧ w' = w0) := by
  refine Ca.of Try.func10 Try.ntmps10 rfl rfl ?_
  refine W.seq ?_
  refine W.region ?_
  refine WL.c rfl (o_as ?_)
  refine WL.nil ?_
  refine W.seq ?_
  refine W.region ?_
  refine WL.c rfl (o_mv ?_)
  refine WL.c rfl (o_as ?_)
  refine WL.nil ?_
  refine W.ret ?_
  refine ret1v rfl (show _ = Value.int _ _ from rfl) ?_
  exact ⟨rfl, rfl⟩
theorem rest_spec (n m : Int) (w0 : World) (hm : 0 < m) (hm2 : m ≤ 4611686018427387904) : Ca Try.prog 13 #[.int .i64 n, .int .i64 m] w0 (fun v w' => v = .int .i64 (n % m) ∧ w' = w0) := by
  have h1 : -m < n.tmod m := by have := Int.lt_tmod_of_pos n hm; omega
  have h2 : n.tmod m < m := Int.tmod_lt_of_pos n hm
  refine Ca.of Try.func13 Try.ntmps13 rfl rfl ?_
  refine W.seq ?_
  refine W.region ?_
  refine WL.c rfl (o_as ?_)
  refine WL.nil ?_
  refine W.seq ?_
  refine W.region ?_
  refine WL.c rfl (o_mv ?_)
  refine WL.c rfl (o_mv ?_)
  refine WL.c rfl (o_rem rfl rfl (by omega) ?_)
  refine WL.c rfl (o_mv ?_)
  refine WL.c rfl (o_addi rfl rfl (by omega) ?_)
  refine WL.c rfl (o_mv ?_)
  refine WL.c rfl (o_rem rfl rfl (by omega) ?_)
  refine WL.c rfl (o_as ?_)
  refine WL.nil ?_
  refine W.ret ?_
  refine ret1v rfl (show _ = Value.int _ _ from rfl) ?_
  exact ⟨congrArg (Value.int .i64) (rest_eq hm), rfl⟩
theorem same_spec (f : Fr) (tv uv : Value) (w0 : World) (hS : In w0 tv f.tab) (hU : In w0 uv f.tab) (hl : f.tab.length ≤ 16000000000000) : Ca Try.prog 15 #[.agg (fcells f tv).toArray, .agg (fcells f uv).toArray] w0 (fun v w' => v = .bool true ∧ Ext w0 w') := by
  refine Ca.of Try.func15 Try.ntmps15 rfl rfl ?_
  refine W.seq ?_
  refine W.region ?_
  refine WL.c rfl (o_boxB rfl ?_)
  intro w2 hC2 hx2 hs2
  replace hC2 : w2.heap[w0.heap.size]? = some (.cells (fcells f tv).toArray 39 (0, 0)) := hC2
  refine WL.c rfl (o_boxB rfl ?_)
  intro w3 hC3 hx3 hs3
  replace hC3 : w3.heap[w2.heap.size]? = some (.cells (fcells f uv).toArray 39 (0, 0)) := hC3
  replace hC2 := hx3.blk hC2 (fun h => h)
  have hx := hx2.tr hx3
  replace hS := Sl.ext hS hx
  replace hU := Sl.ext hU hx
  refine WL.c rfl (o_as ?_)
  refine WL.nil ?_
  refine W.seq ?_
  refine W.seq ?_
  refine W.region ?_
  refine WL.c rfl (o_fa 0 TI39 rfl TI3 rfl rfl ?_)
  refine WL.c rfl (o_ld TI3 rfl rfl (cell_of hC2 rfl) ?_)
  refine WL.c rfl (o_fa 0 TI39 rfl TI3 rfl rfl ?_)
  refine WL.c rfl (o_ld TI3 rfl rfl (cell_of hC3 rfl) ?_)
  refine WL.c rfl (o_ne rfl rfl ?_)
  refine WL.c rfl (o_mv ?_)
  refine WL.g rfl (by simp) rfl (o_fa 1 TI39 rfl TI3 rfl rfl ?_)
  refine WL.g rfl (by simp) rfl (o_ld TI3 rfl rfl (cell_of hC2 rfl) ?_)
  refine WL.g rfl (by simp) rfl (o_fa 1 TI39 rfl TI3 rfl rfl ?_)
  refine WL.g rfl (by simp) rfl (o_ld TI3 rfl rfl (cell_of hC3 rfl) ?_)
  refine WL.g rfl (by simp) rfl (o_ne rfl rfl ?_)
  refine WL.c rfl (o_pickO rfl rfl ?_)
  refine WL.c rfl (o_mv ?_)
  refine WL.g rfl (by simp) rfl (o_fa 2 TI39 rfl TI3 rfl rfl ?_)
  refine WL.g rfl (by simp) rfl (o_ld TI3 rfl rfl (cell_of hC2 rfl) ?_)
  refine WL.g rfl (by simp) rfl (o_fa 2 TI39 rfl TI3 rfl rfl ?_)
  refine WL.g rfl (by simp) rfl (o_ld TI3 rfl rfl (cell_of hC3 rfl) ?_)
  refine WL.g rfl (by simp) rfl (o_ne rfl rfl ?_)
  refine WL.c rfl (o_pickO rfl rfl ?_)
  refine WL.c rfl (o_mv ?_)
  refine WL.g rfl (by simp) rfl (o_fa 3 TI39 rfl TI3 rfl rfl ?_)
  refine WL.g rfl (by simp) rfl (o_ld TI3 rfl rfl (cell_of hC2 rfl) ?_)
  refine WL.g rfl (by simp) rfl (o_fa 3 TI39 rfl TI3 rfl rfl ?_)
  refine WL.g rfl (by simp) rfl (o_ld TI3 rfl rfl (cell_of hC3 rfl) ?_)
  refine WL.g rfl (by simp) rfl (o_ne rfl rfl ?_)
  refine WL.c rfl (o_pickO rfl rfl ?_)
  refine WL.c rfl (o_mv ?_)
  refine WL.g rfl (by simp) rfl (o_fa 4 TI39 rfl TI3 rfl rfl ?_)
  refine WL.g rfl (by simp) rfl (o_ld TI3 rfl rfl (cell_of hC2 rfl) ?_)
  refine WL.g rfl (by simp) rfl (o_fa 4 TI39 rfl TI3 rfl rfl ?_)
  refine WL.g rfl (by simp) rfl (o_ld TI3 rfl rfl (cell_of hC3 rfl) ?_)
  refine WL.g rfl (by simp) rfl (o_ne rfl rfl ?_)
  refine WL.c rfl (o_pickO rfl rfl ?_)
  refine WL.c rfl (o_mv ?_)
  refine WL.g rfl (by simp) rfl (o_fa 5 TI39 rfl TI3 rfl rfl ?_)
  refine WL.g rfl (by simp) rfl (o_ld TI3 rfl rfl (cell_of hC2 rfl) ?_)
  refine WL.g rfl (by simp) rfl (o_fa 5 TI39 rfl TI3 rfl rfl ?_)
  refine WL.g rfl (by simp) rfl (o_ld TI3 rfl rfl (cell_of hC3 rfl) ?_)
  refine WL.g rfl (by simp) rfl (o_ne rfl rfl ?_)
  refine WL.c rfl (o_pickO rfl rfl ?_)
  refine WL.c rfl (o_mv ?_)
  refine WL.g rfl (by simp) rfl (o_fa 6 TI39 rfl TI37 rfl rfl ?_)
  refine WL.g rfl (by simp) rfl (o_ld TI37 rfl rfl (cell_of hC2 rfl) ?_)
  refine WL.g rfl (by simp) rfl (o_lenR TI37 rfl hS ?_)
  refine WL.g rfl (by simp) rfl (o_fa 6 TI39 rfl TI37 rfl rfl ?_)
  refine WL.g rfl (by simp) rfl (o_ld TI37 rfl rfl (cell_of hC3 rfl) ?_)
  refine WL.g rfl (by simp) rfl (o_lenR TI37 rfl hU ?_)
  refine WL.g rfl (by simp) rfl (o_ne rfl rfl ?_)
  refine WL.c rfl (o_pickO rfl rfl ?_)
  refine WL.nil ?_
  refine W.condF' rfl (by simp) ?_
  refine W.skip ?_
  refine W.seq ?_
  refine W.seq ?_
  refine W.region ?_
  refine WL.c rfl (o_as ?_)
  refine WL.nil ?_
  refine W.block ?_
  refine W.loop (fun e w => ∃ k : Nat, k ≤ f.tab.length ∧ e 2 = .pointer (some ⟨w0.heap.size, 0, none⟩) ∧ e 3 = .pointer (some ⟨w2.heap.size, 0, none⟩) ∧ e 5 = .int .i64 (k : Int) ∧ Ext w3 w) (fun e w => f.tab.length - (intOf (e 5)).toNat) ?_ ?_
  · exact ⟨0, Nat.zero_le _, rfl, rfl, rfl, Only.refl _ _⟩
  rintro e w ⟨k, hk, h2, h3, h5, hxw⟩
  have hm5 := h5
  replace hC2 := hxw.blk hC2 (fun h => h)
  replace hC3 := hxw.blk hC3 (fun h => h)
  replace hS := Sl.ext hS hxw
  replace hU := Sl.ext hU hxw
  replace hx := hx.tr hxw
  refine W.seq ?_
  refine W.seq ?_
  refine W.region ?_
  refine WL.c rfl (o_mvh h5 ?_)
  refine WL.c rfl (o_fa 6 TI39 rfl TI37 rfl h2 ?_)
  refine WL.c rfl (o_ld TI37 rfl rfl (cell_of hC2 rfl) ?_)
  refine WL.c rfl (o_lenR TI37 rfl hS ?_)
  refine WL.c rfl (o_lt rfl rfl ?_)
  refine WL.nil ?_
  refine W.cond rfl (fun c59 => ?_) (fun c59 => ?_)
  · try simp only [decide_eq_true_eq, decide_eq_false_iff_not, Bool.not_eq_true', Bool.not_eq_false', Bool.and_eq_true, Bool.or_eq_true, Bool.and_eq_false_iff, Bool.or_eq_false_iff] at c59
    refine W.skip ?_
    refine W.seq ?_
    refine W.block ?_
    refine W.seq ?_
    have hk1 : k < f.tab.length := by omega
    obtain ⟨tb, to_, tc, rfl, htc, hct⟩ := In.at hS (by omega)
    obtain ⟨ub, uo, uc, rfl, huc, hcu⟩ := In.at hU (by omega)
    refine W.quiet rfl (by kernel_rfl) ?_
    refine WQ.c rfl ((QO.o rfl fun _ => o_fa 6 TI39 rfl TI37 rfl h2 ⟨rfl, rfl⟩)) ?_
    refine WQ.c rfl ((QO.o rfl fun _ => o_ld TI37 rfl rfl (cell_of hC2 rfl) ⟨rfl, rfl⟩)) ?_
    refine WQ.c rfl ((QO.o rfl fun _ => o_mvh h5 ⟨rfl, rfl⟩)) ?_
    refine WQ.c rfl ((QO.o rfl fun _ => o_ixB TI37 TI3 rfl rfl (by omega) ⟨rfl, rfl⟩)) ?_
    refine WQ.c rfl ((QO.o rfl fun _ => o_ld TI3 rfl rfl (show _ = some (Value.int .i64 f.tab[k]) by rw [Nat.mul_one]; exact hct k _ (getint hk1)) ⟨rfl, rfl⟩)) ?_
    refine WQ.c rfl ((QO.o rfl fun _ => o_fa 6 TI39 rfl TI37 rfl h3 ⟨rfl, rfl⟩)) ?_
    refine WQ.c rfl ((QO.o rfl fun _ => o_ld TI37 rfl rfl (cell_of hC3 rfl) ⟨rfl, rfl⟩)) ?_
    refine WQ.c rfl ((QO.o rfl fun _ => o_mvh h5 ⟨rfl, rfl⟩)) ?_
    refine WQ.c rfl ((QO.o rfl fun _ => o_ixB TI37 TI3 rfl rfl (by omega) ⟨rfl, rfl⟩)) ?_
    refine WQ.c rfl ((QO.o rfl fun _ => o_ld TI3 rfl rfl (show _ = some (Value.int .i64 f.tab[k]) by rw [Nat.mul_one]; exact hcu k _ (getint hk1)) ⟨rfl, rfl⟩)) ?_
    refine WQ.c rfl ((QO.o rfl fun _ => o_ne rfl rfl ⟨rfl, rfl⟩)) ?_
    refine WQ.nil ?_
    intro nq
    refine W.condF' rfl (by simp) ?_
    refine W.skip ?_
    refine W.region ?_
    refine WL.c rfl (o_mvh h5 ?_)
    refine WL.c rfl (o_addi rfl rfl (by omega) ?_)
    refine WL.c rfl (o_as ?_)
    refine WL.nil ?_
    refine ⟨⟨k + 1, by omega, h2, h3, rfl, hxw.tr (Only.drewN w nq)⟩, ?_⟩
    show f.tab.length - ((k : Int) + 1).toNat < _
    rw [hm5]; simp [intOf]; omega
  · try simp only [decide_eq_true_eq, decide_eq_false_iff_not, Bool.not_eq_true', Bool.not_eq_false', Bool.and_eq_true, Bool.or_eq_true, Bool.and_eq_false_iff, Bool.or_eq_false_iff] at c59
    refine W.exit ?_
    refine W.seq ?_
    refine W.region ?_
    refine WL.c rfl (o_as ?_)
    refine WL.nil ?_
    refine W.ret ?_
    refine ret1v rfl (show _ = Value.bool _ from rfl) ?_
    exact ⟨rfl, hx⟩
theorem ownr_spec (f : Fr) (tv : Value) (w0 : World) (hS : In w0 tv f.tab) (hl : f.tab.length ≤ 16000000000000) : Ca Try.prog 24 #[.agg (fcells f tv).toArray] w0 (fun v w' => ∃ tv', v = .agg (fcells f tv').toArray ∧ w'.ownsRow w0.heap.size 3 1 tv' f.tab.length (ints f.tab) ∧ Ext w0 w') := by
  refine Ca.of Try.func24 Try.ntmps24 rfl rfl ?_
  refine W.seq ?_
  refine W.region ?_
  refine WL.c rfl (o_boxB rfl ?_)
  intro w1 hC1 hx1 hs1
  replace hC1 : w1.heap[w0.heap.size]? = some (.cells (fcells f tv).toArray 39 (0, 0)) := hC1
  refine WL.c rfl (o_alB TI39 ?_)
  intro w2 hC2 hx2 hs2
  have hC1b := hx2.blk hC1 (fun h => h)
  refine WL.nil ?_
  refine W.seq ?_
  refine W.region ?_
  refine WL.c rfl (o_fa 6 TI39 rfl TI37 rfl rfl ?_)
  refine WL.c rfl (o_ld TI37 rfl rfl (cell_of hC1b rfl) ?_)
  refine WL.c rfl (o_apO (w0.heap.size) TI37 TI3 (show _ = Value.slice _ _ _ from rfl) rfl (World.ownsRow_nil _ _ _ _) (hS.ext (hx1.tr hx2)) rfl (by decide) (one_ints _) (by rw [maxLen_eq]; omega) (by omega) ((hx1.tr hx2).size) ?_)
  intro v5 w5 hown5 ho5 hb5 hk5
  rw [Nat.zero_add, List.nil_append] at hown5
  have hx5 : Ext w2 w5 := ho5.mono (fun j _ h => by cases h)
  have hC1c := hx5.blk hC1b (fun h => h)
  have hC2c := hx5.blk hC2 (fun h => h)
  refine WL.c rfl (o_fa 6 TI39 rfl TI37 rfl rfl ?_)
  refine WL.u (o_stB TI37 rfl rfl (own_one hown5) hC1c (show _ < 7 by decide) ?_)
  intro w6 hB6 ho6 hs6
  replace hB6 : w6.heap[w0.heap.size]? = some (.cells (fcells f v5).toArray 39 (0, 0)) := hB6
  have hC2d := ho6.blk hC2c (by show ¬ w1.heap.size = w0.heap.size; omega)
  have hown6 := own_only hown5 ho6 (fun k hk he => by have := own_off hown5 hC1c (by decide); rw [he] at hk; exact this hk)
  refine WL.nil ?_
  refine W.seq ?_
  refine W.region ?_
  refine WL.c rfl (o_ldA TI39 rfl rfl (show Cells w6 w0.heap.size 0 (fcells f v5) from Cells.of hB6 0 _ (by simp)) rfl ?_)
  refine WL.u (o_stA TI39 rfl rfl rfl (fcells_one (own_one hown5)) hC2d rfl ?_)
  intro w7 hB7 ho7 hs7
  have hown7 := own_only hown6 ho7 (fun k hk he => by have := own_off hown6 hC2d (by decide); rw [he] at hk; exact this hk)
  refine WL.nil ?_
  refine W.ret ?_
  refine retC rfl TI39 rfl rfl (show Cells w7 w1.heap.size 0 (fcells f v5) from Cells.of hB7 0 _ (by simp)) rfl ?_
  refine ⟨v5, rfl, hown7, ?_⟩
  exact (((hx1.tr hx2).tr hx5).trans' ho6 (fun _ h => h) (fun j hj he => by omega)).trans' ho7 (fun _ h => h) (fun j hj he => by omega)
theorem cut_spec (f : Fr) (tv : Value) (w0 : World) (hS : In w0 tv f.tab) : Ca Try.prog 38 #[.agg (fcells f tv).toArray] w0 (fun v w' => ∃ u, v = .agg (fcells (cutF f) u).toArray ∧ u.ownBlock = tv.ownBlock ∧ In w' u (cutF f).tab ∧ Ext w0 w') := by
  refine Ca.of Try.func38 Try.ntmps38 rfl rfl ?_
  refine W.seq ?_
  refine W.region ?_
  refine WL.c rfl (o_boxB rfl ?_)
  intro w1 hC1 hx1 hs1
  replace hC1 : w1.heap[w0.heap.size]? = some (.cells (fcells f tv).toArray 39 (0, 0)) := hC1
  replace hS0 := Sl.ext hS hx1
  refine WL.c rfl (o_alB TI39 ?_)
  intro w2 hC2 hx2 hs2
  have hC1b := hx2.blk hC1 (fun h => h)
  replace hS0 := Sl.ext hS0 hx2
  rw [hs1] at hC2 hs2 ⊢
  refine WL.nil ?_
  refine W.seq ?_
  refine W.seq ?_
  refine W.region ?_
  refine WL.c rfl (o_fa 6 TI39 rfl TI37 rfl rfl ?_)
  refine WL.c rfl (o_ld TI37 rfl rfl (cell_of hC1b rfl) ?_)
  refine WL.c rfl (o_lenR TI37 rfl hS0 ?_)
  refine WL.c rfl (o_gt rfl rfl ?_)
  refine WL.nil ?_
  refine W.cut (fun e1 w1 => ∃ u, e1 1 = .pointer (some ⟨w0.heap.size, 0, none⟩) ∧ e1 2 = .pointer (some ⟨(w0.heap.size + 1), 0, none⟩) ∧ u.oneCell' = true ∧ w1.heap[w0.heap.size]? = some (.cells (fcells (cutF f) u).toArray 39 (0, 0)) ∧ w1.heap[(w0.heap.size + 1)]? = some (.cells (fcells Fr.nil (.slice none 0 0)).toArray 39 (0, 0)) ∧ u.ownBlock = tv.ownBlock ∧ In w1 u (cutF f).tab ∧ Ext w0 w1) ?_ ?_
  · -- both ways
    refine W.cond rfl (fun c6 => ?_) (fun c6 => ?_)
    · try simp only [decide_eq_true_eq, decide_eq_false_iff_not, Bool.not_eq_true', Bool.not_eq_false', Bool.and_eq_true, Bool.or_eq_true, Bool.and_eq_false_iff, Bool.or_eq_false_iff] at c6
      have hgt : 300 < f.tab.length := by omega
      refine W.region ?_
      refine WL.c rfl (o_fa 6 TI39 rfl TI37 rfl rfl ?_)
      refine WL.c rfl (o_ld TI37 rfl rfl (cell_of hC1b rfl) ?_)
      refine WL.c rfl (o_sl TI37 TI3 rfl hS0 Lo.n (Hi.s (h := 300) rfl) (by omega) (by omega) ?_)
      intro v9 hb9 hS9
      have hx0 := hx1.tr hx2
      refine WL.c rfl (o_fa 6 TI39 rfl TI37 rfl rfl ?_)
      refine WL.u (o_stB TI37 rfl (show _ = v9 from rfl) (by obtain ⟨a, c, rfl⟩ := hS9.isSlice; rfl) hC1b (show 6 < 7 by decide) ?_)
      intro w10 hB10 ho10 hs10
      replace hB10 : w10.heap[w0.heap.size]? = some (.cells (fcells (cutF f) v9).toArray 39 (0, 0)) := hB10
      have hC2b := ho10.blk hC2 (show ¬ _ = w0.heap.size by omega)
      have hx10 : Ext w0 w10 := hx0.trans' ho10 (fun _ h => h) (fun j hj he => by omega)
      refine WL.nil ?_
      first
        | (have e9 : (List.take ((300 - 0) * 1) (List.drop (0 * 1) (ints f.tab))) = ints (cutF f).tab := by simp [cutF, ints, List.map_take]
           have hl9 : (cutF f).tab.length = 300 := by simp [cutF]; omega
           rw [e9] at hS9
           refine ⟨v9, rfl, rfl, by obtain ⟨a, c, rfl⟩ := hS9.isSlice; rfl, hB10, hC2b, hb9, ?_, hx10⟩
           show Sl w10 1 v9 (cutF f).tab.length _
           rw [hl9]
           exact Sl.only hS9 ho10 (fun b hb he => by rw [hb9] at hb; have := Sl.low hS b hb (Nat.le_of_eq (Eq.symm he)); rw [List.map_eq_nil_iff] at this; rw [this] at hgt; simp at hgt))
        | (have e1 : cutF f = f := by
             have : f.tab.take 300 = f.tab := List.take_of_length_le hle
             rw [cutF, this]
           refine ⟨tv, rfl, rfl, by obtain ⟨a, c, rfl⟩ := hS.isSlice; rfl, by rw [e1]; exact hC1b, hC2, rfl, by rw [e1]; exact hS0, hx1.tr hx2⟩)
    · try simp only [decide_eq_true_eq, decide_eq_false_iff_not, Bool.not_eq_true', Bool.not_eq_false', Bool.and_eq_true, Bool.or_eq_true, Bool.and_eq_false_iff, Bool.or_eq_false_iff] at c6
      have hle : f.tab.length ≤ 300 := by omega
      refine W.skip ?_
      first
        | (have e9 : (List.take ((300 - 0) * 1) (List.drop (0 * 1) (ints f.tab))) = ints (cutF f).tab := by simp [cutF, ints, List.map_take]
           have hl9 : (cutF f).tab.length = 300 := by simp [cutF]; omega
           rw [e9] at hS9
           refine ⟨v9, rfl, rfl, by obtain ⟨a, c, rfl⟩ := hS9.isSlice; rfl, hB10, hC2b, hb9, ?_, hx10⟩
           show Sl w10 1 v9 (cutF f).tab.length _
           rw [hl9]
           exact Sl.only hS9 ho10 (fun b hb he => by rw [hb9] at hb; have := Sl.low hS b hb (Nat.le_of_eq (Eq.symm he)); rw [List.map_eq_nil_iff] at this; rw [this] at hgt; simp at hgt))
        | (have e1 : cutF f = f := by
             have : f.tab.take 300 = f.tab := List.take_of_length_le hle
             rw [cutF, this]
           refine ⟨tv, rfl, rfl, by obtain ⟨a, c, rfl⟩ := hS.isSlice; rfl, by rw [e1]; exact hC1b, hC2, rfl, by rw [e1]; exact hS0, hx1.tr hx2⟩)
  rintro e w ⟨u, h1, h2, hu1, hB, hC2b, hub, hSu, hxx⟩
  refine W.seq ?_
  refine W.region ?_
  refine WL.c rfl (o_ldA TI39 rfl h1 (show Cells w w0.heap.size 0 (fcells (cutF f) u) from Cells.of hB 0 _ (by simp)) rfl ?_)
  refine WL.u (o_stA TI39 h2 (show _ = Value.agg (fcells (cutF f) u).toArray from rfl) rfl (fcells_one hu1) hC2b rfl ?_)
  intro w12 hB12 ho12 hs12
  refine WL.nil ?_
  refine W.ret ?_
  refine retC rfl TI39 rfl h2 (show Cells w12 (w0.heap.size + 1) 0 (fcells (cutF f) u) from Cells.of hB12 0 _ (by simp)) rfl ?_
  exact ⟨u, rfl, hub, Sl.keep hSu ho12 (fun b hb he => by rw [hub] at hb; have := Sl.low hS b hb (show w0.heap.size ≤ b by have : b = w0.heap.size + 1 := he; omega); rw [List.map_eq_nil_iff] at this; simp [cutF, this]), hxx.trans' ho12 (fun _ h => h) (fun j hj he => by have := hx1.size; omega)⟩
theorem rightl_spec (f : Fr) (tv : Value) (w0 : World) (hS : In w0 tv f.tab) : Ca Try.prog 21 #[.agg (fcells f tv).toArray] w0 (fun v w' => ∃ u, v = .agg (fcells (rightF f) u).toArray ∧ w'.ownsRow w0.heap.size 3 1 u (rightF f).tab.length (ints (rightF f).tab) ∧ Ext w0 w') := by
  refine Ca.of Try.func21 Try.ntmps21 rfl rfl ?_
  refine W.seq ?_
  refine W.region ?_
  refine WL.c rfl (o_boxB rfl ?_)
  intro w1 hC1 hx1 hs1
  replace hC1 : w1.heap[w0.heap.size]? = some (.cells (fcells f tv).toArray 39 (0, 0)) := hC1
  replace hS0 := Sl.ext hS hx1
  refine WL.c rfl (o_alB TI39 ?_)
  intro w2 hC2 hx2 hs2
  have hC1b := hx2.blk hC1 (fun h => h)
  replace hS0 := Sl.ext hS0 hx2
  rw [hs1] at hC2 hs2 ⊢
  replace hC2 : w2.heap[w0.heap.size + 1]? = some (.cells (fcells Fr.nil (.slice none 0 0)).toArray 39 (0, 0)) := hC2
  refine WL.nil ?_
  refine W.seq ?_
  refine W.region ?_
  refine WL.c rfl (o_ldA TI39 rfl rfl (show Cells w2 w0.heap.size 0 (fcells f tv) from Cells.of hC1b 0 _ (by simp)) rfl ?_)
  refine WL.c rfl (o_call Try.call38 (lc rfl ln) ((cut_spec f tv _ hS0).mono ?_))
  rintro v6 w6 ⟨u6, rfl, hub, hS6, hx6⟩
  have hC1c := hx6.blk hC1b (fun h => h)
  replace hC2 := hx6.blk hC2 (fun h => h)
  refine WL.u (o_stA TI39 rfl (show _ = Value.agg (fcells (cutF f) u6).toArray from rfl) rfl (fcells_one (by obtain ⟨a, c, rfl⟩ := hS6.isSlice; rfl)) hC1c rfl ?_)
  intro w7 hB1 ho1 hs7
  replace hC2 := ho1.blk hC2 (show ¬ _ = w0.heap.size by omega)
  replace hS6 := Sl.keep hS6 ho1 (fun b hb he => by rw [hub] at hb; have := Sl.low hS b hb (Nat.le_of_eq (Eq.symm he)); rw [List.map_eq_nil_iff] at this; simp [cutF, this])
  have hx7 : Ext w0 w7 := ((hx1.tr hx2).tr hx6).trans' ho1 (fun _ h => h) (fun j hj he => by omega)
  have hs6 := hx6.size
  refine WL.nil ?_
  refine W.seq ?_
  obtain ⟨wd, hwd⟩ : ∃ wd, wd = w7.drew := ⟨_, rfl⟩
  have hxd : Ext w7 wd := hwd ▸ Only.drew w7
  replace hB1 := hxd.blk hB1 (fun h => h)
  replace hC2 := hxd.blk hC2 (fun h => h)
  replace hS6 := Sl.ext hS6 hxd
  replace hx7 := hx7.tr hxd
  refine W.drawT 22 (Ext) [(1, fun v _ => v = _), (2, fun v _ => v = _)] rfl (by kernel_rfl) (Only.refl No) (fun _ _ _ h k => h.trans k) ⟨Mono.eq, Mono.eq, trivial⟩ ⟨rfl, rfl, trivial⟩ ?_
  refine WD.p rfl (fun e w hR hh => by obtain ⟨h1, -⟩ := hh; exact SG.n (o_fa 0 TI39 rfl TI3 rfl h1 ⟨rfl, Only.refl No _⟩)) ?_
  refine WD.p rfl (fun e w hR hh => by obtain ⟨h7, -⟩ := hh; rw [← hwd] at hR; have hc := hR.blk hB1 (fun h => h); exact SG.n (o_ld TI3 rfl h7 (cell_of hc rfl) ⟨rfl, Only.refl No _⟩)) ?_
  refine WD.p rfl (fun e w hR hh => by obtain ⟨h8, -⟩ := hh; exact SG.n (o_call Try.call13 (lc h8 (lc rfl ln)) ((rest_spec f.rt 4611686018427387904 _ (by decide) (by decide)).mono (fun v w' ⟨h1, h2⟩ => ⟨h1, by rw [h2]; exact Only.refl No _⟩)))) ?_
  refine WD.p rfl (fun e w hR hh => by obtain ⟨h1, -⟩ := hh; exact SG.n (o_fa 1 TI39 rfl TI3 rfl h1 ⟨rfl, Only.refl No _⟩)) ?_
  refine WD.p rfl (fun e w hR hh => by obtain ⟨h10, -⟩ := hh; rw [← hwd] at hR; have hc := hR.blk hB1 (fun h => h); exact SG.n (o_ld TI3 rfl h10 (cell_of hc rfl) ⟨rfl, Only.refl No _⟩)) ?_
  refine WD.p rfl (fun e w hR hh => by obtain ⟨h11, -⟩ := hh; exact SG.n (o_call Try.call13 (lc h11 (lc rfl ln)) ((rest_spec f.pl 4611686018427387904 _ (by decide) (by decide)).mono (fun v w' ⟨h1, h2⟩ => ⟨h1, by rw [h2]; exact Only.refl No _⟩)))) ?_
  refine WD.p rfl (fun e w hR hh => by obtain ⟨h1, -⟩ := hh; exact SG.n (o_fa 2 TI39 rfl TI3 rfl h1 ⟨rfl, Only.refl No _⟩)) ?_
  refine WD.p rfl (fun e w hR hh => by obtain ⟨h13, -⟩ := hh; rw [← hwd] at hR; have hc := hR.blk hB1 (fun h => h); exact SG.n (o_ld TI3 rfl h13 (cell_of hc rfl) ⟨rfl, Only.refl No _⟩)) ?_
  refine WD.p rfl (fun e w hR hh => by obtain ⟨h14, -⟩ := hh; exact SG.n (o_call Try.call13 (lc h14 (lc rfl ln)) ((rest_spec f.bs 4611686018427387904 _ (by decide) (by decide)).mono (fun v w' ⟨h1, h2⟩ => ⟨h1, by rw [h2]; exact Only.refl No _⟩)))) ?_
  refine WD.p rfl (fun e w hR hh => by obtain ⟨h1, -⟩ := hh; exact SG.n (o_fa 3 TI39 rfl TI3 rfl h1 ⟨rfl, Only.refl No _⟩)) ?_
  refine WD.p rfl (fun e w hR hh => by obtain ⟨h16, -⟩ := hh; rw [← hwd] at hR; have hc := hR.blk hB1 (fun h => h); exact SG.n (o_ld TI3 rfl h16 (cell_of hc rfl) ⟨rfl, Only.refl No _⟩)) ?_
  refine WD.p rfl (fun e w hR hh => by obtain ⟨h17, -⟩ := hh; exact SG.n (o_call Try.call13 (lc h17 (lc rfl ln)) ((rest_spec f.en 4611686018427387904 _ (by decide) (by decide)).mono (fun v w' ⟨h1, h2⟩ => ⟨h1, by rw [h2]; exact Only.refl No _⟩)))) ?_
  refine WD.p rfl (fun e w hR hh => by obtain ⟨h18, -⟩ := hh; exact SG.n (o_subi h18 rfl (by omega) ⟨rfl, Only.refl No _⟩)) ?_
  refine WD.p rfl (fun e w hR hh => by obtain ⟨h1, -⟩ := hh; exact SG.n (o_fa 4 TI39 rfl TI3 rfl h1 ⟨rfl, Only.refl No _⟩)) ?_
  refine WD.p rfl (fun e w hR hh => by obtain ⟨h20, -⟩ := hh; rw [← hwd] at hR; have hc := hR.blk hB1 (fun h => h); exact SG.n (o_ld TI3 rfl h20 (cell_of hc rfl) ⟨rfl, Only.refl No _⟩)) ?_
  refine WD.p rfl (fun e w hR hh => by obtain ⟨h21, -⟩ := hh; exact SG.n (o_call Try.call13 (lc h21 (lc rfl ln)) ((rest_spec f.nd 4611686018427387904 _ (by decide) (by decide)).mono (fun v w' ⟨h1, h2⟩ => ⟨h1, by rw [h2]; exact Only.refl No _⟩)))) ?_
  refine WD.p rfl (fun e w hR hh => by obtain ⟨h22, -⟩ := hh; exact SG.n (o_subi h22 rfl (by omega) ⟨rfl, Only.refl No _⟩)) ?_
  refine WD.p rfl (fun e w hR hh => by obtain ⟨h1, -⟩ := hh; exact SG.n (o_fa 5 TI39 rfl TI3 rfl h1 ⟨rfl, Only.refl No _⟩)) ?_
  refine WD.p rfl (fun e w hR hh => by obtain ⟨h24, -⟩ := hh; rw [← hwd] at hR; have hc := hR.blk hB1 (fun h => h); exact SG.n (o_ld TI3 rfl h24 (cell_of hc rfl) ⟨rfl, Only.refl No _⟩)) ?_
  refine WD.p rfl (fun e w hR hh => by obtain ⟨h25, -⟩ := hh; exact SG.n (o_call Try.call13 (lc h25 (lc rfl ln)) ((rest_spec f.nx 4611686018427387904 _ (by decide) (by decide)).mono (fun v w' ⟨h1, h2⟩ => ⟨h1, by rw [h2]; exact Only.refl No _⟩)))) ?_
  refine WD.p rfl (fun e w hR hh => by obtain ⟨h26, h23, h19, h15, h12, h9, -⟩ := hh; exact SG.n (o_bldC (cs := [_, _, _, _, _, _, (.slice none 0 0)]) TI39 (Sizes.cons TI3 (Sizes.cons TI3 (Sizes.cons TI3 (Sizes.cons TI3 (Sizes.cons TI3 (Sizes.cons TI3 (Sizes.cons TI37 Sizes.nil))))))) rfl (lcp h9 (lcp h12 (lcp h15 (lcp h19 (lcp h23 (lcp h26 lnp)))))) rfl rfl ⟨rfl, Only.refl No _⟩)) ?_
  refine WD.q (fun v w => ∃ c, wd.heap.size ≤ c ∧ v = .pointer (some ⟨c, 0, none⟩) ∧ w.heap[c]? = some (.cells (fcells Fr.nil (.slice none 0 0)).toArray 39 (0, 0))) (fun v w w2 hR hh => by obtain ⟨c, h1, h2, h3⟩ := hh; exact ⟨c, h1, h2, hR.blk h3 (fun h => h)⟩) rfl (fun e w hR hh => by skip; rw [← hwd] at hR; exact SG.n (o_alB TI39 (fun w' h1 h2 h3 => ⟨⟨w.heap.size, hR.size, rfl, h1⟩, h2⟩))) ?_
  rintro e w hR ⟨h3, h27, h26, h25, h24, h23, h22, h21, h20, h19, h18, h17, h16, h15, h14, h13, h12, h11, h10, h9, h8, h7, h1, h2, -⟩
  rw [← hwd] at hR
  obtain ⟨c3, hc3, h3v, hC3⟩ := h3
  replace h1 : e 1 = .pointer (some ⟨w0.heap.size, 0, none⟩) := h1
  replace h2 : e 2 = .pointer (some ⟨w0.heap.size + 1, 0, none⟩) := h2
  clear h7 h10 h13 h16 h20 h24
  refine WL.u (o_stA TI39 h3v (show _ = Value.agg (fcells ⟨rHuge f.rt, rHuge f.pl, rHuge f.bs, rHuge f.en - 1, rHuge f.nd - 1, rHuge f.nx, []⟩ (.slice none 0 0)).toArray from h27) rfl rfl hC3 rfl ?_)
  intro w4 hB4 ho4 hs4
  have hxw : Ext wd w4 := hR.trans' ho4 (fun _ h => h) (fun j hj he => by omega)
  have h3 := h3v
  refine WL.nil ?_
  refine W.seq ?_
  refine W.seq ?_
  refine W.region ?_
  refine WL.c rfl (o_as ?_)
  refine WL.nil ?_
  refine W.block ?_
  refine W.loop (fun e w => ∃ (k : Nat) (u : Value), k ≤ (cutF f).tab.length ∧ e 1 = .pointer (some ⟨w0.heap.size, 0, none⟩) ∧ e 2 = .pointer (some ⟨w0.heap.size + 1, 0, none⟩) ∧ e 3 = .pointer (some ⟨c3, 0, none⟩) ∧ e 4 = .int .i64 (k : Int) ∧ w.heap[c3]? = some (.cells (fcells ⟨rHuge f.rt, rHuge f.pl, rHuge f.bs, rHuge f.en - 1, rHuge f.nd - 1, rHuge f.nx, []⟩ u).toArray 39 (0, 0)) ∧ w.ownsRow c3 3 1 u k (ints (((cutF f).tab.take k).map rHuge)) ∧ Ext wd w) (fun e w => (cutF f).tab.length - (intOf (e 4)).toNat) ?_ ?_
  · exact ⟨0, .slice none 0 0, Nat.zero_le _, h1, h2, h3v, rfl, hB4, by simpa using World.ownsRow_nil _ _ _ _, hxw⟩
  rintro e w ⟨k, u, hk, h1, h2, h3, h4, hC3, hrow, hxw⟩
  have hm4 := h4
  have hB1w := hxw.blk hB1 (fun h => h)
  have hC2w := hxw.blk hC2 (fun h => h)
  have hS6w := Sl.ext hS6 hxw
  have hG : (cutF f).tab.length ≤ 300 := by simp [cutF]; omega
  refine W.seq ?_
  refine W.seq ?_
  refine W.region ?_
  refine WL.c rfl (o_mvh h4 ?_)
  refine WL.c rfl (o_fa 6 TI39 rfl TI37 rfl h1 ?_)
  refine WL.c rfl (o_ld TI37 rfl rfl (cell_of hB1w rfl) ?_)
  refine WL.c rfl (o_lenR TI37 rfl hS6w ?_)
  refine WL.c rfl (o_lt rfl rfl ?_)
  refine WL.nil ?_
  refine W.cond rfl (fun c32 => ?_) (fun c32 => ?_)
  · try simp only [decide_eq_true_eq, decide_eq_false_iff_not, Bool.not_eq_true', Bool.not_eq_false', Bool.and_eq_true, Bool.or_eq_true, Bool.and_eq_false_iff, Bool.or_eq_false_iff] at c32
    refine W.skip ?_
    refine W.seq ?_
    refine W.block ?_
    have hk1 : k < (cutF f).tab.length := by omega
    obtain ⟨tb, to_, tc, hu6, htc, hct⟩ := In.at hS6w (by omega)
    subst hu6
    obtain ⟨we, hwe⟩ : ∃ we, we = w.drew := ⟨_, rfl⟩
    have hxe : Ext w we := hwe ▸ Only.drew w
    replace hxw := hxw.tr hxe
    replace hrow := own_ext hrow hxe
    replace hC3 := hxe.blk hC3 (fun h => h)
    replace hB1w := hxe.blk hB1w (fun h => h)
    replace hct := hct.only hxe (fun h => h)
    have hlt : ∀ k, u.ownBlock = some k → k < we.heap.size := fun k hk => (hrow.lt k hk).2
    have hu3 : ¬ u.ownBlock = some c3 := own_off hrow hC3 (by decide)
    have hge : ∀ k, u.ownBlock = some k → c3 ≤ k := fun k hk => (hrow.lt k hk).1
    have hwdw := hxw.size
    have hw0lt : w0.heap.size < wd.heap.size := (Array.getElem?_eq_some_iff.1 hB1).1
    have hc3lt : c3 < we.heap.size := (Array.getElem?_eq_some_iff.1 hC3).1
    have htb : tb < wd.heap.size := by
      have := Sl.low hS6 tb rfl
      rcases Nat.lt_or_ge tb wd.heap.size with h | h
      · exact h
      · have := this h; rw [List.map_eq_nil_iff] at this; rw [this] at hk1; simp at hk1
    refine W.drawF 10 [9] [fun k => u.ownBlock = some k] [(1, fun v _ => v = _), (2, fun v _ => v = _), (3, fun v _ => v = _), (4, fun v _ => v = _)] rfl (by kernel_rfl) (by kernel_rfl) ⟨Mono.eq, Mono.eq, Mono.eq, Mono.eq, trivial⟩ ⟨h1, h2, h3, h4, trivial⟩ ?_
    refine WDS.p rfl (by decide) (fun e w hR hh => by obtain ⟨h3, -⟩ := hh; exact SG.n (o_fa 6 TI39 rfl TI37 rfl h3 ⟨rfl, Only.refl No _⟩)) ?_
    refine WDS.p rfl (by decide) (fun e w hR hh => by obtain ⟨h35, -⟩ := hh; rw [← hwe] at hR; have hc := hR.blk hC3 (fun hF => by rcases hF with hF | hF <;> first | exact hu3 hF | exact hF); exact SG.n (o_ld TI37 rfl h35 (cell_of hc rfl) ⟨rfl, Only.refl No _⟩)) ?_
    refine WDS.p rfl (by decide) (fun e w hR hh => by obtain ⟨h1, -⟩ := hh; exact SG.n (o_fa 6 TI39 rfl TI37 rfl h1 ⟨rfl, Only.refl No _⟩)) ?_
    refine WDS.p rfl (by decide) (fun e w hR hh => by obtain ⟨h37, -⟩ := hh; rw [← hwe] at hR; have hc := hR.blk hB1w (fun hF => by rcases hF with hF | hF; have := hge _ hF; omega; exact hF); exact SG.n (o_ld TI37 rfl h37 (cell_of hc rfl) ⟨rfl, Only.refl No _⟩)) ?_
    refine WDS.p rfl (by decide) (fun e w hR hh => by obtain ⟨h4, -⟩ := hh; exact SG.n (o_mvh h4 ⟨rfl, Only.refl No _⟩)) ?_
    refine WDS.p rfl (by decide) (fun e w hR hh => by obtain ⟨h39, h38, -⟩ := hh; exact SG.n (o_ixB TI37 TI3 h38 h39 (by omega) ⟨rfl, Only.refl No _⟩)) ?_
    refine WDS.p rfl (by decide) (fun e w hR hh => by obtain ⟨h40, -⟩ := hh; rw [← hwe] at hR; have hc := hct.only hR (fun hF => by rcases hF with hF | hF; have := hge _ hF; omega; exact hF) k _ (getint hk1); exact SG.n (o_ld TI3 rfl h40 (show _ = some (Value.int .i64 (cutF f).tab[k]) by rw [Nat.mul_one]; exact hc) ⟨rfl, Only.refl No _⟩)) ?_
    refine WDS.p rfl (by decide) (fun e w hR hh => by obtain ⟨h41, -⟩ := hh; exact SG.n (o_call Try.call13 (lc h41 (lc rfl ln)) ((rest_spec (cutF f).tab[k] 4611686018427387904 _ (by decide) (by decide)).mono (fun v w' ⟨h1, h2⟩ => ⟨h1, by rw [h2]; exact Only.refl No _⟩)))) ?_
    refine WDS.q 0 (fun v w => w.ownsRow we.heap.size 3 1 v 1 (ints [rHuge (cutF f).tab[k]])) (fun v w w2 hR hh => own_only hh hR (fun k hk hF => by rcases hF with hF | hF <;> first | exact hF | (have := hlt k hF; have := (hh.lt k hk).1; omega))) (by kernel_rfl) rfl (by decide) (fun e w hR hh => by obtain ⟨h42, -⟩ := hh; rw [← hwe] at hR; exact SG.n (o_bs1 TI37 TI3 h42 (by decide) (by decide) rfl ⟨own_mono (own_new1 rfl) hR.size, Only.alloc w _⟩)) ?_
    refine WDS.mf 0 1 (fun v w => w.ownsRow c3 3 1 v (k + 1) (ints (((cutF f).tab.take k).map rHuge) ++ ints [rHuge (cutF f).tab[k]])) (fun v w w2 hR hh => own_ext hh hR) (by kernel_rfl) rfl rfl rfl (fun e w hR hW hh => by obtain ⟨h43, h36, -⟩ := hh; rw [← hwe] at hR hW; have hW2 : Ext we w := hW.mono (fun _ _ h => h); have hw2 := hR.size; exact SGX.n (OP.x (o_apO c3 TI37 TI3 h36 rfl (own_ext hrow hW2) (Sl.own h43) rfl (by decide) (one_ints _) (by rw [maxLen_eq]; omega) (by omega) (by omega) (fun v' w' h1 h2 h3 _ => ⟨h1, h2⟩)))) ?_
    rintro e w hR ⟨h44, h43, h42, h41, h40, h39, h38, h37, h36, h35, h1, h2, h3, h4, -⟩
    rw [← hwe] at hR
    obtain ⟨v44, hv44⟩ : ∃ v, v = e 44 := ⟨_, rfl⟩
    rw [← hv44] at h44
    have hC3m := hR.blk hC3 (fun hF => by rcases hF with hF | hF <;> first | exact hu3 hF | exact hF)
    refine WL.c rfl (o_fa 6 TI39 rfl TI37 rfl h3 ?_)
    refine WL.u (o_stB TI37 rfl (show _ = v44 from hv44.symm) (own_one h44) hC3m (show 6 < 7 by decide) ?_)
    intro w8 hB8 ho8 hs8
    have hC3' : w8.heap[c3]? = some (.cells (fcells ⟨rHuge f.rt, rHuge f.pl, rHuge f.bs, rHuge f.en - 1, rHuge f.nd - 1, rHuge f.nx, []⟩ v44).toArray 39 (0, 0)) := hB8
    have hrow' : w8.ownsRow c3 3 1 v44 (k + 1) (ints (((cutF f).tab.take (k + 1)).map rHuge)) := by
      rw [← List.take_append_getElem hk1, List.map_append, ints, List.map_append]
      exact own_only h44 ho8 (fun k hk he => by subst he; exact own_off h44 hC3m (by decide) hk)
    have hxw' : Ext wd w8 := (hxw.trans' hR (fun _ h => h) (fun k hk hF => by rcases hF with hF | hF; have := hge _ hF; omega; exact hF)).trans' ho8 (fun _ h => h) (fun k hk he => by omega)
    refine WL.nil ?_
    refine W.region ?_
    refine WL.c rfl (o_mvh h4 ?_)
    refine WL.c rfl (o_addi rfl rfl (by omega) ?_)
    refine WL.c rfl (o_as ?_)
    refine WL.nil ?_
    refine ⟨⟨k + 1, v44, by omega, h1, h2, h3, rfl, hC3', hrow', hxw'⟩, ?_⟩
    show (cutF f).tab.length - ((k : Int) + 1).toNat < _
    rw [hm4]; simp [intOf]; omega
  · try simp only [decide_eq_true_eq, decide_eq_false_iff_not, Bool.not_eq_true', Bool.not_eq_false', Bool.and_eq_true, Bool.or_eq_true, Bool.and_eq_false_iff, Bool.or_eq_false_iff] at c32
    refine W.exit ?_
    refine W.seq ?_
    have hkl : k = (cutF f).tab.length := by omega
    subst hkl
    rw [List.take_length] at hrow
    have hrt : (rightF f).tab = (cutF f).tab.map rHuge := rfl
    rw [← hrt] at hrow
    have hrl : (rightF f).tab.length = (cutF f).tab.length := by rw [hrt, List.length_map]
    rw [← hrl] at hrow
    refine W.region ?_
    refine WL.c rfl (o_ldA TI39 rfl h3 (show Cells w c3 0 (fcells (rightF f) u) from Cells.of hC3 0 _ (by simp [fcells, rightF])) rfl ?_)
    refine WL.u (o_stA TI39 h2 (show _ = Value.agg (fcells (rightF f) u).toArray from rfl) rfl (fcells_one (own_one hrow)) hC2w rfl ?_)
    intro w12 hB12 ho12 hs12
    refine WL.nil ?_
    refine W.ret ?_
    refine retC rfl TI39 rfl h2 (show Cells w12 (w0.heap.size + 1) 0 (fcells (rightF f) u) from Cells.of hB12 0 _ (by simp)) rfl ?_
    have hc0 : w0.heap.size ≤ c3 := Nat.le_trans hx7.size hc3
    exact ⟨u, rfl, own_mono (own_only hrow ho12 (fun k hk he => by subst he; exact own_off hrow hC2w (by decide) hk)) hc0, (hx7.tr hxw).trans' ho12 (fun _ h => h) (fun k hk he => by omega)⟩
theorem vsize_up : ∀ (n : Nat), n < 128 ^ vsize n := by
  intro n
  induction n using Nat.strongRecOn with
  | _ n ih =>
    by_cases h : n < 128
    · rw [vsize_lt h]; simpa using h
    · rw [vsize_ge h, Nat.pow_succ]
      have := ih (n / 128) (by omega)
      omega
theorem vsize_dn : ∀ (n : Nat), vsize n = 1 ∨ 128 ^ (vsize n - 1) ≤ n := by
  intro n
  induction n using Nat.strongRecOn with
  | _ n ih =>
    by_cases h : n < 128
    · exact .inl (vsize_lt h)
    · right
      have hp := vsize_pos (n / 128)
      rw [vsize_ge h, Nat.add_sub_cancel]
      rcases ih (n / 128) (by omega) with h1 | h1
      · rw [h1]; omega
      · obtain ⟨k, hk⟩ : ∃ k, vsize (n / 128) = k + 1 := ⟨vsize (n / 128) - 1, by omega⟩
        rw [hk] at h1 ⊢
        rw [Nat.add_sub_cancel] at h1
        rw [Nat.pow_succ]; omega
theorem mod_succ (n j : Nat) : n % 128 ^ (j + 1) = n % 128 ^ j + dig n j * 128 ^ j := by
  rw [Nat.pow_succ, Nat.mod_mul]; unfold dig; rw [Nat.mul_comm (128 ^ j)]
theorem vput_get {n j : Nat} (h : j < vsize n) : (vput n)[j]? = some (vbyte n (vsize n) j) := by simp [vput, h]
theorem dig_lt (n j : Nat) : dig n j < 128 := Nat.mod_lt _ (by decide)
theorem vbyte_nat (n s j : Nat) : (vbyte n s j).toNat = if j + 1 < s then dig n j + 128 else dig n j := by
  have := vbyte_lt n s j
  unfold vbyte
  rw [UInt8.toNat_ofNat']
  exact Nat.mod_eq_of_lt this
theorem vbyte_fine {n j : Nat} (hn : n < 2 ^ 64) (h : j < vsize n) : vfault (vbyte n (vsize n) j) j = false := by
  have h10 := vsize_10 hn
  have hd := dig_lt n j
  simp only [vfault, Bool.or_eq_false_iff, Bool.and_eq_false_iff, decide_eq_false_iff_not, vbyte_nat]
  refine ⟨?_, ?_⟩
  · by_cases hj : 0 < j
    · right
      split
      · omega
      · have hl : j = vsize n - 1 := by omega
        have h1 := (vsize_dn n).resolve_left (by omega)
        rw [← hl] at h1
        have h2 := vsize_up n
        rw [show vsize n = j + 1 by omega, Nat.pow_succ] at h2
        have h3 : n / 128 ^ j < 128 := Nat.div_lt_of_lt_mul (by rw [Nat.mul_comm]; rw [Nat.mul_comm] at h2; exact h2)
        have h4 : 0 < n / 128 ^ j := Nat.div_pos h1 (Nat.pow_pos (by decide))
        unfold dig
        rw [Nat.mod_eq_of_lt h3]; omega
    · left; omega
  · by_cases hj : j = 9
    · right
      subst hj
      rw [if_neg (by omega)]
      have : n / 128 ^ 9 < 2 := Nat.div_lt_of_lt_mul (Nat.lt_of_lt_of_le hn (by decide))
      unfold dig
      omega
    · left; exact hj
theorem drop_cons {α : Type} {l : List α} {j : Nat} {x : α} (h : l[j]? = some x) : l.drop j = x :: l.drop (j + 1) := by
  obtain ⟨hj, rfl⟩ := List.getElem?_eq_some_iff.1 h
  rw [List.getElem_cons_drop]
theorem vget_run {n : Nat} (hn : n < 2 ^ 64) (ys : List UInt8) : ∀ j, j < vsize n → vget 0 0 (vput n ++ ys) = vget j (n % 128 ^ j) ((vput n).drop j ++ ys) := by
  intro j
  induction j with
  | zero => intro _; simp [Nat.mod_one]
  | succ j ih =>
    intro h
    rw [ih (by omega), drop_cons (vput_get (show j < vsize n by omega)), List.cons_append, vget, vbyte_fine hn (by omega)]
    have hd := dig_lt n j
    simp only [Bool.false_eq_true, if_false, vbyte_nat, if_pos h]
    rw [if_neg (by omega), mod_succ, show (dig n j + 128) % 128 = dig n j by omega]
theorem vget_put {n : Nat} (hn : n < 2 ^ 64) (ys : List UInt8) : vget 0 0 (vput n ++ ys) = (n, vsize n, 0) := by
  have hp := vsize_pos n
  have hd := dig_lt n (vsize n - 1)
  rw [vget_run hn ys (vsize n - 1) (by omega), drop_cons (vput_get (show vsize n - 1 < vsize n by omega)), List.cons_append, vget, vbyte_fine hn (by omega)]
  simp only [Bool.false_eq_true, if_false, vbyte_nat, if_neg (show ¬ vsize n - 1 + 1 < vsize n by omega)]
  rw [if_pos (by omega), Nat.mod_eq_of_lt hd, ← mod_succ, show vsize n - 1 + 1 = vsize n by omega, Nat.mod_eq_of_lt (vsize_up n)]
theorem vget_cut {n : Nat} (hn : n < 2 ^ 64) {i : Nat} (hi : i < vsize n) : vget 0 0 ((vput n).take i) = (0, i, 20) := by
  have key : ∀ j, j ≤ i → vget 0 0 ((vput n).take i) = vget j (n % 128 ^ j) (((vput n).take i).drop j) := by
    intro j
    induction j with
    | zero => intro _; simp [Nat.mod_one]
    | succ j ih =>
      intro h
      have hg : ((vput n).take i)[j]? = some (vbyte n (vsize n) j) := by rw [List.getElem?_take, if_pos (by omega)]; exact vput_get (by omega)
      have hd := dig_lt n j
      rw [ih (by omega), drop_cons hg, vget, vbyte_fine hn (by omega)]
      simp only [Bool.false_eq_true, if_false, vbyte_nat, if_pos (show j + 1 < vsize n by omega)]
      rw [if_neg (by omega), mod_succ, show (dig n j + 128) % 128 = dig n j by omega]
  rw [key i (Nat.le_refl _), List.drop_eq_nil_of_le (by simp; omega)]
  rfl
theorem vget_inv : ∀ (xs : List UInt8) (k m : Nat), m < 128 ^ k → k ≤ 9 → (vget k m xs).2.2 = 0 → ∃ f, f < xs.length ∧ (vget k m xs).2.1 = k + f + 1 ∧ (vget k m xs).1 % 128 ^ k = m ∧ (vget k m xs).1 < 2 ^ 64 ∧
    (vget k m xs).1 < 128 ^ (k + f + 1) ∧ (∀ j (h : j < xs.length), j ≤ f → dig (vget k m xs).1 (k + j) = (xs[j]).toNat % 128) ∧ (∀ j (h : j < xs.length), j < f → 128 ≤ (xs[j]).toNat) ∧ (∀ h : f < xs.length, (xs[f]).toNat < 128 ∧ (0 < k + f → (xs[f]).toNat ≠ 0))
  | [], k, m, _, _, h => by simp [vget] at h
  | c :: cs, k, m, hm, hk, h => by
    have hc8 : c.toNat < 256 := UInt8.toNat_lt _
    have hdig : ∀ a, a % 128 ^ (k + 1) = m + c.toNat % 128 * 128 ^ k → dig a k = c.toNat % 128 ∧ a % 128 ^ k = m := by
      intro a ha
      rw [mod_succ] at ha
      have h1 : a % 128 ^ k < 128 ^ k := Nat.mod_lt _ (Nat.pow_pos (by decide))
      have h2 : (a % 128 ^ k + dig a k * 128 ^ k) / 128 ^ k = dig a k := by rw [Nat.add_mul_div_right _ _ (Nat.pow_pos (by decide)), Nat.div_eq_of_lt h1]; omega
      have h3 : (m + c.toNat % 128 * 128 ^ k) / 128 ^ k = c.toNat % 128 := by rw [Nat.add_mul_div_right _ _ (Nat.pow_pos (by decide)), Nat.div_eq_of_lt hm]; omega
      rw [ha, h3] at h2
      refine ⟨h2.symm, ?_⟩
      rw [← h2] at ha; omega
    unfold vget at h ⊢
    cases hf : vfault c k with
    | true => rw [hf] at h; simp at h
    | false =>
      rw [hf] at h
      simp only [Bool.false_eq_true, if_false] at h ⊢
      have hv := vfault9 hf
      have hgr := grp hk hm hc8 hv.1
      by_cases hlt : c.toNat < 128
      · rw [if_pos hlt] at h ⊢
        have hb : m + c.toNat % 128 * 128 ^ k < 128 ^ (k + 0 + 1) := by
          have : c.toNat % 128 * 128 ^ k ≤ 127 * 128 ^ k := Nat.mul_le_mul_right _ (by omega)
          rw [Nat.add_zero, Nat.pow_succ]; omega
        have hd := hdig (m + c.toNat % 128 * 128 ^ k) (Nat.mod_eq_of_lt hb)
        refine ⟨0, by simp, rfl, hd.2, hgr.2.1, hb, ?_, fun j _ hj => absurd hj (Nat.not_lt_zero _), fun _ => ⟨hlt, fun h => hv.2 (by omega)⟩⟩
        intro j hj hj0
        obtain rfl : j = 0 := by omega
        exact hd.1
      · rw [if_neg hlt] at h ⊢
        have hk9 : k < 9 := by have := hv.1; omega
        obtain ⟨f, h1, h2, h3, h4, h5, h6, h7, h8⟩ := vget_inv cs (k + 1) _ (hgr.2.2 hk9) (by omega) h
        have hd := hdig _ h3
        refine ⟨f + 1, by simp; omega, by omega, hd.2, h4, by rw [show k + (f + 1) + 1 = k + 1 + f + 1 by omega]; exact h5, ?_, ?_, ?_⟩
        · intro j hj hjf
          cases j with
          | zero => exact hd.1
          | succ j => have := h6 j (by simp at hj; omega) (by omega); rw [show k + (j + 1) = k + 1 + j by omega]; simpa using this
        · intro j hj hjf
          cases j with
          | zero => simp; omega
          | succ j => have := h7 j (by simp at hj; omega) (by omega); simpa using this
        · intro hff
          have := h8 (by simp at hff; omega)
          simp only [List.getElem_cons_succ]
          exact ⟨this.1, fun _ => this.2 (by omega)⟩
theorem vget_back (xs : List UInt8) (h : (vget 0 0 xs).2.2 = 0) : (vget 0 0 xs).1 < 2 ^ 64 ∧ vput (vget 0 0 xs).1 = xs.take (vget 0 0 xs).2.1 ∧ vsize (vget 0 0 xs).1 = (vget 0 0 xs).2.1 := by
  obtain ⟨f, h1, h2, h3, h4, h5, h6, h7, h8⟩ := vget_inv xs 0 0 (by decide) (by decide) h
  simp only [Nat.zero_add] at h2 h5 h6
  have h8 := h8 h1
  have hs : vsize (vget 0 0 xs).1 = f + 1 := by
    have a1 := vsize_pow f _ h5
    by_cases hf : f = 0
    · have := vsize_pos (vget 0 0 xs).1; omega
    · have hd := h6 f h1 (Nat.le_refl _)
      have hne := h8.2 (by omega)
      rcases Nat.lt_or_ge (vsize (vget 0 0 xs).1) (f + 1) with hlt | hge
      · exfalso
        have : (vget 0 0 xs).1 < 128 ^ f := Nat.lt_of_lt_of_le (vsize_up _) (Nat.pow_le_pow_right (by decide) (by omega))
        unfold dig at hd
        rw [Nat.div_eq_of_lt this] at hd
        omega
      · omega
  refine ⟨h4, ?_, by rw [hs, h2]⟩
  rw [h2]
  apply List.ext_getElem?
  intro j
  by_cases hj : j < f + 1
  · rw [vput_get (by omega), List.getElem?_take, if_pos hj, List.getElem?_eq_getElem (by omega)]
    congr 1
    apply UInt8.toNat_inj.1
    rw [vbyte_nat, hs, h6 j (by omega) (by omega)]
    split
    · have := h7 j (by omega) (by omega)
      have := UInt8.toNat_lt (xs[j])
      omega
    · have : j = f := by omega
      subst this
      omega
  · rw [List.getElem?_eq_none (by rw [vput_len]; omega), List.getElem?_take, if_neg hj]
theorem vput_lt {n : Nat} (h : n < 128) : vput n = [UInt8.ofNat n] := by
  have h1 : n % 128 = n := Nat.mod_eq_of_lt h
  simp [vput, vsize_lt h, vbyte, dig, h1]
theorem vput_ge {n : Nat} (h : ¬ n < 128) : vput n = UInt8.ofNat (n % 128 + 128) :: vput (n / 128) := by
  unfold vput
  rw [vsize_ge h, List.range_succ_eq_map, List.map_cons, List.map_map]
  have hp := vsize_pos (n / 128)
  congr 1
  · unfold vbyte dig
    rw [if_pos (by omega)]; simp
  · refine List.map_congr_left fun j _ => ?_
    have hd : dig n (j + 1) = dig (n / 128) j := by unfold dig; rw [Nat.pow_succ, Nat.mul_comm, ← Nat.div_div_eq_div_mul]
    show vbyte n (vsize (n / 128) + 1) (j + 1) = vbyte (n / 128) (vsize (n / 128)) j
    unfold vbyte
    rw [hd]
    by_cases hj : j + 1 < vsize (n / 128)
    · rw [if_pos hj, if_pos (by omega)]
    · rw [if_neg hj, if_neg (by omega)]
/-- what is read, of any front -/
def Cut {α : Type} (R : List UInt8 → Rd α) (xs : List UInt8) (a0 : Nat) (x : α) (a1 : Nat) : Prop := a0 ≤ a1 ∧ ∀ k, a0 ≤ k → R (xs.take k) = if k < a1 then .bad 20 k else .ok x a1
theorem Cut.bind {α β : Type} {R1 : List UInt8 → Rd α} {R2 : List UInt8 → α → Nat → Rd β} {xs : List UInt8} {a0 a1 a2 : Nat} {x : α} {y : β} (h1 : Cut R1 xs a0 x a1) (h2 : Cut (fun ys => R2 ys x a1) xs a1 y a2) : Cut (fun ys => (R1 ys).bind (R2 ys)) xs a0 y a2 := by
  refine ⟨Nat.le_trans h1.1 h2.1, fun k hk => ?_⟩
  show (R1 (xs.take k)).bind (R2 (xs.take k)) = _
  rw [h1.2 k hk]
  by_cases e : k < a1
  · have := h2.1
    rw [if_pos e, if_pos (by omega)]; rfl
  · rw [if_neg e]
    exact h2.2 k (by omega)
theorem Cut.num {xs ys : List UInt8} {a0 : Nat} {n lo hi : Int} (hd : xs.drop a0 = vI n ++ ys) (hok : numOk n) (hlo : lo ≤ n) (hhi : n ≤ hi) : Cut (fun ys => rdN ys a0 lo hi) xs a0 n.toNat (a0 + (vI n).length) := by
  refine ⟨Nat.le_add_right _ _, fun k hk => ?_⟩
  have e : (xs.take k).drop a0 = (vI n ++ ys).take (k - a0) := by rw [List.drop_take, hd]
  have hlen : (vI n).length = vsize n.toNat := vput_len _
  by_cases h : k < a0 + (vI n).length
  · rw [if_pos h]
    have e2 : (xs.take k).drop a0 = (vput n.toNat).take (k - a0) := by rw [e, List.take_append_of_le_length (by omega)]; rfl
    show rdN (xs.take k) a0 lo hi = _
    rw [rdN, e2, vget_cut (numOk_lt hok) (by omega)]
    show Rd.bad 20 (a0 + (k - a0)) = _
    rw [Nat.add_sub_cancel' hk]
  · rw [if_neg h]
    have e2 : (xs.take k).drop a0 = vput n.toNat ++ ys.take (k - a0 - (vI n).length) := by rw [e, List.take_append, List.take_of_length_le (by omega)]; rfl
    show rdN (xs.take k) a0 lo hi = _
    have h0 := hok.1
    rw [rdN, e2, vget_put (numOk_lt hok)]
    simp only [if_true]
    rw [if_neg (by omega), hlen]
theorem Cut.pure {α : Type} {xs : List UInt8} {a : Nat} {x : α} : Cut (fun _ => Rd.ok x a) xs a x a := ⟨Nat.le_refl _, fun k hk => by rw [if_neg (by omega)]⟩
theorem drop_more {xs ys zs : List UInt8} {a : Nat} (h : xs.drop a = ys ++ zs) : xs.drop (a + ys.length) = zs := by rw [← List.drop_drop, h, List.drop_left]
theorem Cut.many {xs : List UInt8} : ∀ (t acc : List Int) (a0 : Nat) (ys : List UInt8), xs.drop a0 = t.flatMap vI ++ ys → (∀ n ∈ t, 0 ≤ n ∧ n ≤ Huge) → Cut (fun zs => rdMany zs t.length a0 acc) xs a0 (acc ++ t) (a0 + (t.flatMap vI).length)
  | [], acc, a0, ys, h, _ => by simpa [rdMany] using Cut.pure
  | n :: t, acc, a0, ys, h, ho => by
    have hn := ho n (List.mem_cons_self ..)
    rw [List.flatMap_cons, List.append_assoc] at h
    have h1 := Cut.num (lo := 0) (hi := Huge) h ⟨hn.1, by have := hn.2; simp only [Huge] at this; omega⟩ hn.1 hn.2
    have h2 := Cut.many t (acc ++ [n]) _ ys (drop_more h) (fun m hm => ho m (List.mem_cons_of_mem _ hm))
    have e : ((n.toNat : Nat) : Int) = n := by omega
    rw [List.flatMap_cons, List.length_append, ← Nat.add_assoc, show acc ++ n :: t = acc ++ [n] ++ t by simp]
    refine Cut.bind (R1 := fun zs => rdN zs a0 0 Huge) (R2 := fun zs n a => rdMany zs t.length a (acc ++ [(n : Int)])) h1 ?_
    rw [e]
    exact h2
theorem Cut.frame {xs : List UInt8} {f : Fr} {a0 : Nat} {ys : List UInt8} (h : xs.drop a0 = fbytes f ++ ys) (hf : fwhole f = true) : Cut (fun zs => rdF zs a0) xs a0 f (a0 + (fbytes f).length) := by
  have ht := fwhole_tab hf
  have hto : ∀ n ∈ f.tab, 0 ≤ n ∧ n ≤ Huge := fun n hn => by
    simp only [fwhole, tright, Bool.and_eq_true, List.all_eq_true] at hf
    exact inb_iff.1 (hf.2.2 n hn)
  simp only [fwhole, fright, Bool.and_eq_true, inb_iff, Huge] at hf
  obtain ⟨⟨⟨⟨⟨⟨g1, g2⟩, g3⟩, g6⟩, g4⟩, g5⟩, -⟩ := hf
  simp only [fbytes, fnums, List.flatMap_cons, List.flatMap_nil, List.append_nil, List.append_assoc] at h
  have c1 := Cut.num (lo := 0) (hi := Huge) h ⟨g1.1, by omega⟩ g1.1 g1.2
  replace h := drop_more h
  have c2 := Cut.num (lo := 0) (hi := Huge) h ⟨g2.1, by omega⟩ g2.1 g2.2
  replace h := drop_more h
  have c3 := Cut.num (lo := 0) (hi := Huge) h ⟨g3.1, by omega⟩ g3.1 g3.2
  replace h := drop_more h
  have c4 := Cut.num (lo := 0) (hi := 4611686018427387905) h ⟨by omega, by omega⟩ (by omega) (by omega)
  replace h := drop_more h
  have c5 := Cut.num (lo := 0) (hi := 4611686018427387905) h ⟨by omega, by omega⟩ (by omega) (by omega)
  replace h := drop_more h
  have c6 := Cut.num (lo := 0) (hi := Huge) h ⟨g6.1, by omega⟩ g6.1 g6.2
  replace h := drop_more h
  have c7 := Cut.num (lo := 0) (hi := 1048576) h ⟨by omega, by omega⟩ (by omega) (by omega)
  replace h := drop_more h
  have c8 := Cut.many f.tab [] _ _ h hto
  have ef : (⟨(f.rt.toNat : Int), f.pl.toNat, f.bs.toNat, ((f.en + 1).toNat : Int) - 1, ((f.nd + 1).toNat : Int) - 1, f.nx.toNat, f.tab⟩ : Fr) = f := by
    cases f
    simp only [Fr.mk.injEq]
    refine ⟨?_, ?_, ?_, ?_, ?_, ?_, trivial⟩ <;> simp only at * <;> omega
  have el : (fbytes f).length = (vI f.rt).length + ((vI f.pl).length + ((vI f.bs).length + ((vI (f.en + 1)).length + ((vI (f.nd + 1)).length + ((vI f.nx).length + ((vI f.tab.length).length + (f.tab.flatMap vI).length)))))) := by
    simp only [fbytes, fnums, List.flatMap_cons, List.flatMap_nil, List.append_nil, List.length_append]
    omega
  rw [el, ← Nat.add_assoc, ← Nat.add_assoc, ← Nat.add_assoc, ← Nat.add_assoc, ← Nat.add_assoc, ← Nat.add_assoc, ← Nat.add_assoc]
  unfold rdF
  refine Cut.bind c1 (Cut.bind c2 (Cut.bind c3 (Cut.bind c4 (Cut.bind c5 (Cut.bind c6 (Cut.bind c7 (Cut.bind (x := f.tab) (by rw [List.nil_append] at c8; exact c8) ?_)))))))
  rw [ef]
  exact Cut.pure
theorem Cut.list {xs : List UInt8} : ∀ (L acc : List Fr) (a0 : Nat) (ys : List UInt8), xs.drop a0 = L.flatMap fbytes ++ ys → (∀ f ∈ L, fwhole f = true) → Cut (fun zs => rdL zs L.length a0 acc) xs a0 (acc ++ L) (a0 + (L.flatMap fbytes).length)
  | [], acc, a0, ys, h, _ => by simpa [rdL] using Cut.pure
  | f :: L, acc, a0, ys, h, ho => by
    rw [List.flatMap_cons, List.append_assoc] at h
    have h1 := Cut.frame h (ho f (List.mem_cons_self ..))
    have h2 := Cut.list L (acc ++ [f]) _ ys (drop_more h) (fun m hm => ho m (List.mem_cons_of_mem _ hm))
    rw [List.flatMap_cons, List.length_append, ← Nat.add_assoc, show acc ++ f :: L = acc ++ [f] ++ L by simp]
    exact Cut.bind (R1 := fun zs => rdF zs a0) (R2 := fun zs f a => rdL zs L.length a (acc ++ [f])) h1 h2
/-- all but the last question -/
def rdS2 (xs : List UInt8) : Rd SSt := (rdN xs 1 1 1048576).bind fun most a => (rdN xs a 0 most).bind fun n a => (rdN xs a n most).bind fun high a => (rdL xs n a []).bind fun L a => .ok ⟨most, high, L⟩ a
theorem Rd.bind_assoc {α β γ : Type} (r : Rd α) (f : α → Nat → Rd β) (g : β → Nat → Rd γ) : (r.bind f).bind g = r.bind fun x a => (f x a).bind g := by cases r <;> rfl
theorem rdS1_eq (xs : List UInt8) : rdS1 xs = (rdS2 xs).bind fun s a => if a < xs.length then .bad 124 a else .ok s a := by
  unfold rdS1 rdS2
  simp only [Rd.bind_assoc]
  rfl
theorem Cut.stack {most high : Nat} {L : List Fr} {xs ys : List UInt8} (hx : xs = saved most high L ++ ys) (hm : 1 ≤ most) (hm2 : most ≤ 1048576) (hl : L.length ≤ high) (hh : high ≤ most) (hw : ∀ f ∈ L, fwhole f = true) : Cut rdS2 xs 1 ⟨most, high, L⟩ (saved most high L).length := by
  have h : xs.drop 1 = vI most ++ (vI L.length ++ (vI high ++ (L.flatMap fbytes ++ ys))) := by
    rw [hx, saved]
    simp [List.flatMap_cons]
  have c1 := Cut.num (lo := 1) (hi := 1048576) h ⟨by omega, by omega⟩ (by omega) (by omega)
  replace h := drop_more h
  have c2 := Cut.num (lo := 0) (hi := most) h ⟨by omega, by omega⟩ (by omega) (by omega)
  replace h := drop_more h
  have c3 := Cut.num (lo := L.length) (hi := most) h ⟨by omega, by omega⟩ (by omega) (by omega)
  replace h := drop_more h
  have c4 := Cut.list L [] _ _ h hw
  have el : (saved most high L).length = 1 + (vI most).length + (vI L.length).length + (vI high).length + (L.flatMap fbytes).length := by
    rw [saved]
    simp only [List.flatMap_cons, List.flatMap_nil, List.length_cons, List.length_append, List.length_nil]
    omega
  rw [el]
  unfold rdS2
  refine Cut.bind c1 (Cut.bind (x := L.length) (by simpa using c2) (Cut.bind (x := high) (by simpa using c3) (Cut.bind (x := L) (by rw [List.nil_append] at c4; exact c4) Cut.pure)))
theorem saved_head (most high : Nat) (L : List Fr) : (saved most high L).head? = some 102 := rfl
theorem saved_pos (most high : Nat) (L : List Fr) : 0 < (saved most high L).length := by simp [saved]
theorem rdS_saved {most high : Nat} {L : List Fr} (hm : 1 ≤ most) (hm2 : most ≤ 1048576) (hl : L.length ≤ high) (hh : high ≤ most) (hw : ∀ f ∈ L, fwhole f = true) : rdS (saved most high L) = .ok ⟨most, high, L⟩ (saved most high L).length := by
  have h := (Cut.stack (xs := saved most high L) (ys := []) (by simp) hm hm2 hl hh hw).2 (saved most high L).length (saved_pos _ _ _)
  rw [List.take_length, if_neg (Nat.lt_irrefl _)] at h
  have := saved_pos most high L
  rw [rdS, if_neg (by omega), if_pos (saved_head _ _ _), rdS1_eq, h]
  show (if _ then _ else _) = _
  rw [if_neg (Nat.lt_irrefl _)]
theorem rdS_more {most high : Nat} {L : List Fr} {ys : List UInt8} (hy : ys ≠ []) (hm : 1 ≤ most) (hm2 : most ≤ 1048576) (hl : L.length ≤ high) (hh : high ≤ most) (hw : ∀ f ∈ L, fwhole f = true) : rdS (saved most high L ++ ys) = .bad 124 (saved most high L).length := by
  have h := (Cut.stack (xs := saved most high L ++ ys) (ys := ys) rfl hm hm2 hl hh hw).2 (saved most high L ++ ys).length (by have := saved_pos most high L; rw [List.length_append]; omega)
  have hyl := List.length_pos_iff.2 hy
  have hp := saved_pos most high L
  rw [List.take_length, if_neg (by rw [List.length_append]; omega)] at h
  rw [rdS, if_neg (by rw [List.length_append]; omega), if_pos (by simp [saved]), rdS1_eq, h]
  show (if _ then _ else _) = _
  rw [if_pos (by rw [List.length_append]; omega)]
theorem rdS_cut {most high : Nat} {L : List Fr} {k : Nat} (hk : k < (saved most high L).length) (hm : 1 ≤ most) (hm2 : most ≤ 1048576) (hl : L.length ≤ high) (hh : high ≤ most) (hw : ∀ f ∈ L, fwhole f = true) : rdS ((saved most high L).take k) = .bad 20 k := by
  by_cases h0 : k = 0
  · subst h0; rfl
  · have h := (Cut.stack (xs := saved most high L) (ys := []) (by simp) hm hm2 hl hh hw).2 k (by omega)
    rw [if_pos hk] at h
    obtain ⟨k', rfl⟩ : ∃ k', k = k' + 1 := ⟨k - 1, by omega⟩
    rw [rdS, if_neg (by rw [List.length_take]; omega), if_pos (by simp [saved]), rdS1_eq, h]
    rfl
theorem rdN_back {xs : List UInt8} {a0 n a : Nat} {lo hi : Int} (h : rdN xs a0 lo hi = .ok n a) : a0 ≤ a ∧ xs.drop a0 = vI (n : Int) ++ xs.drop a := by
  unfold rdN at h
  split at h
  · rename_i h0
    split at h
    · cases h
    · simp only [Rd.ok.injEq] at h
      obtain ⟨rfl, rfl⟩ := h
      have hb := vget_back (xs.drop a0) h0
      refine ⟨Nat.le_add_right _ _, ?_⟩
      show _ = vput (Int.toNat _) ++ _
      rw [Int.toNat_natCast, hb.2.1, ← List.drop_drop, List.take_append_drop]
  · cases h
theorem rdMany_back {xs : List UInt8} : ∀ {m a0 : Nat} {acc t : List Int} {a : Nat}, rdMany xs m a0 acc = .ok t a → a0 ≤ a ∧ ∃ t', t = acc ++ t' ∧ t'.length = m ∧ xs.drop a0 = t'.flatMap vI ++ xs.drop a
  | 0, a0, acc, t, a, h => by simp only [rdMany, Rd.ok.injEq] at h; obtain ⟨rfl, rfl⟩ := h; exact ⟨Nat.le_refl _, [], by simp, rfl, by simp⟩
  | m + 1, a0, acc, t, a, h => by
    rw [rdMany] at h
    obtain ⟨n, a2, h1, h2⟩ := Rd.bind_ok h
    obtain ⟨g1, g2⟩ := rdN_back h1
    obtain ⟨g3, t', rfl, g4, g5⟩ := rdMany_back h2
    exact ⟨by omega, (n : Int) :: t', by simp, by simp [g4], by rw [g2, g5, List.flatMap_cons, List.append_assoc]⟩
theorem rdF_back {xs : List UInt8} {a0 a : Nat} {f : Fr} (h : rdF xs a0 = .ok f a) : a0 ≤ a ∧ xs.drop a0 = fbytes f ++ xs.drop a := by
  rw [rdF] at h
  obtain ⟨n1, a1, h1, h⟩ := Rd.bind_ok h
  obtain ⟨n2, a2, h2, h⟩ := Rd.bind_ok h
  obtain ⟨n3, a3, h3, h⟩ := Rd.bind_ok h
  obtain ⟨n4, a4, h4, h⟩ := Rd.bind_ok h
  obtain ⟨n5, a5, h5, h⟩ := Rd.bind_ok h
  obtain ⟨n6, a6, h6, h⟩ := Rd.bind_ok h
  obtain ⟨m, a7, h7, h⟩ := Rd.bind_ok h
  obtain ⟨t, a8, h8, h⟩ := Rd.bind_ok h
  simp only [Rd.ok.injEq] at h
  obtain ⟨rfl, rfl⟩ := h
  obtain ⟨b1, g1⟩ := rdN_back h1
  obtain ⟨b2, g2⟩ := rdN_back h2
  obtain ⟨b3, g3⟩ := rdN_back h3
  obtain ⟨b4, g4⟩ := rdN_back h4
  obtain ⟨b5, g5⟩ := rdN_back h5
  obtain ⟨b6, g6⟩ := rdN_back h6
  obtain ⟨b7, g7⟩ := rdN_back h7
  obtain ⟨b8, t', ht, hl, g8⟩ := rdMany_back h8
  simp only [List.nil_append] at ht
  subst ht
  refine ⟨by omega, ?_⟩
  simp only [fbytes, fnums, List.flatMap_cons, List.flatMap_nil, List.append_nil, List.append_assoc, Int.sub_add_cancel, hl]
  rw [g1, g2, g3, g4, g5, g6, g7, g8]
theorem rdL_back {xs : List UInt8} : ∀ {m a0 : Nat} {acc L : List Fr} {a : Nat}, rdL xs m a0 acc = .ok L a → a0 ≤ a ∧ ∃ L', L = acc ++ L' ∧ L'.length = m ∧ xs.drop a0 = L'.flatMap fbytes ++ xs.drop a ∧ ∀ f ∈ L', fwhole f = true
  | 0, a0, acc, t, a, h => by simp only [rdL, Rd.ok.injEq] at h; obtain ⟨rfl, rfl⟩ := h; exact ⟨Nat.le_refl _, [], by simp, rfl, by simp, by simp⟩
  | m + 1, a0, acc, t, a, h => by
    rw [rdL] at h
    obtain ⟨f, a2, h1, h2⟩ := Rd.bind_ok h
    obtain ⟨g1, g2⟩ := rdF_back h1
    obtain ⟨g3, L', rfl, g4, g5, g6⟩ := rdL_back h2
    exact ⟨by omega, f :: L', by simp, by simp [g4], by rw [g2, g5, List.flatMap_cons, List.append_assoc], fun x hx => by rcases List.mem_cons.1 hx with rfl | hx; exact rdF_whole h1; exact g6 x hx⟩
theorem rdS_back {xs : List UInt8} {s : SSt} {a : Nat} (h : rdS xs = .ok s a) : saved s.most s.high s.L = xs ∧ 1 ≤ s.most ∧ s.most ≤ 1048576 ∧ s.L.length ≤ s.high ∧ s.high ≤ s.most ∧ ∀ f ∈ s.L, fwhole f = true := by
  unfold rdS at h
  split at h
  · cases h
  · split at h
    · rename_i h0 hh
      rw [rdS1] at h
      obtain ⟨most, a1, h1, h⟩ := Rd.bind_ok h
      obtain ⟨n, a2, h2, h⟩ := Rd.bind_ok h
      obtain ⟨high, a3, h3, h⟩ := Rd.bind_ok h
      obtain ⟨L, a4, h4, h⟩ := Rd.bind_ok h
      split at h
      · cases h
      · rename_i hlt
        simp only [Rd.ok.injEq] at h
        obtain ⟨rfl, rfl⟩ := h
        obtain ⟨b1, g1⟩ := rdN_back h1
        obtain ⟨b2, g2⟩ := rdN_back h2
        obtain ⟨b3, g3⟩ := rdN_back h3
        obtain ⟨b4, L', hL, hl, g4, g5⟩ := rdL_back h4
        simp only [List.nil_append] at hL
        subst hL
        have r1 := rdN_ok h1
        have r2 := rdN_ok h2
        have r3 := rdN_ok h3
        refine ⟨?_, by show 1 ≤ most; omega, by show most ≤ _; omega, by show L.length ≤ high; omega, by show high ≤ most; omega, g5⟩
        have hx : xs = 102 :: xs.drop 1 := by
          cases xs with
          | nil => cases hh
          | cons c cs => simp only [List.head?_cons, Option.some.injEq] at hh; subst hh; rfl
        rw [hx, g1, g2, g3, g4, List.drop_eq_nil_of_le (by omega)]
        simp [saved, hl]
    · cases h

end Go.Proofs.Ytdiaeafjjffjmaa
