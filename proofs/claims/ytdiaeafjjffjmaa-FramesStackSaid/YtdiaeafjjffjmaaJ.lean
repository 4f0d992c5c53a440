/-
  Walks. Written by program out of specs of mine.
-/
import Derived.Test.YtdiaeafjjffjmaaI
set_option linter.unusedSimpArgs false
set_option linter.unusedVariables false
set_option maxRecDepth 100000
namespace Go.Proofs.Ytdiaeafjjffjmaa
open Go Go.Vc Go.RowKit Go.Proofs
theorem frame_spec (B0 q at_ : Nat) (bv : Value) (xs : List UInt8) (w0 : World) (h : Rdr w0 B0 q bv xs at_) : CaX Try.prog 51 #[.pointer (some ⟨q, 0, none⟩)] w0 (fun v w' => ∃ f tv a, rdF xs at_ = .ok f a ∧ v = .agg (fcells f tv).toArray ∧ w'.ownsRow w0.heap.size 3 1 tv f.tab.length (ints f.tab) ∧ Rdr w' B0 q bv xs a ∧ Only (fun k => k = q) w0 w') (fun ch w' => ∃ e a, rdF xs at_ = .bad e a ∧ ch = [pan e a] ∧ Only (fun k => k = q) w0 w') := by
  have hqlt : q < w0.heap.size := (Array.getElem?_eq_some_iff.1 h.cell).1
  have hB0 := h.hq
  refine CaX.of Try.func51 Try.ntmps51 rfl rfl ?_
  refine W.seq ?_
  refine W.region ?_
  refine WL.c rfl (o_alB TI39 ?_)
  intro w2 hC2 hx2 hs2
  have hq0 : Only (fun k => k = q) w0 w2 := hx2.mono (fun _ _ h => h.elim)
  replace h := h.ext hx2
  refine WL.nil ?_
  refine W.seq ?_
  refine W.region ?_
  refine WL.c rfl (o_mv ?_)
  refine WL.cx rfl (ox_call Try.call50 (lc rfl (lc rfl (lc rfl ln))) ((number_spec B0 q at_ 0 4611686018427387904 bv xs _ h (by decide) (by decide) (by decide)).mono ?_ (fun ch w' hh => by obtain ⟨e, a, h1, h2, h3⟩ := hh; exact ⟨e, a, by simp only [rdF, Rd.bind, h1], h2, hq0.trans' h3 (fun _ h => h) (fun _ _ h => h.elim)⟩)))
  rintro v6 w6 ⟨n6, a6, hr6, rfl, h', ho6⟩
  replace h := h'
  replace hq0 := hq0.trans' ho6 (fun _ h => h) (fun _ _ h => h)
  replace hC2 := ho6.blk hC2 (show ¬ _ = q by omega)
  refine WL.c rfl (o_mv ?_)
  refine WL.cx rfl (ox_call Try.call50 (lc rfl (lc rfl (lc rfl ln))) ((number_spec B0 q a6 0 4611686018427387904 bv xs _ h (by decide) (by decide) (by decide)).mono ?_ (fun ch w' hh => by obtain ⟨e, a, h1, h2, h3⟩ := hh; exact ⟨e, a, by simp only [rdF, Rd.bind, hr6, h1], h2, hq0.trans' h3 (fun _ h => h) (fun _ _ h => h.elim)⟩)))
  rintro v8 w8 ⟨n8, a8, hr8, rfl, h', ho8⟩
  replace h := h'
  replace hq0 := hq0.trans' ho8 (fun _ h => h) (fun _ _ h => h)
  replace hC2 := ho8.blk hC2 (show ¬ _ = q by omega)
  refine WL.c rfl (o_mv ?_)
  refine WL.cx rfl (ox_call Try.call50 (lc rfl (lc rfl (lc rfl ln))) ((number_spec B0 q a8 0 4611686018427387904 bv xs _ h (by decide) (by decide) (by decide)).mono ?_ (fun ch w' hh => by obtain ⟨e, a, h1, h2, h3⟩ := hh; exact ⟨e, a, by simp only [rdF, Rd.bind, hr6, hr8, h1], h2, hq0.trans' h3 (fun _ h => h) (fun _ _ h => h.elim)⟩)))
  rintro v10 w10 ⟨n10, a10, hr10, rfl, h', ho10⟩
  replace h := h'
  replace hq0 := hq0.trans' ho10 (fun _ h => h) (fun _ _ h => h)
  replace hC2 := ho10.blk hC2 (show ¬ _ = q by omega)
  refine WL.c rfl (o_bldC (cs := [_, _, _, (.int .i64 0), (.int .i64 0), (.int .i64 0), (.slice none 0 0)]) TI39 (Sizes.cons TI3 (Sizes.cons TI3 (Sizes.cons TI3 (Sizes.cons TI3 (Sizes.cons TI3 (Sizes.cons TI3 (Sizes.cons TI37 Sizes.nil))))))) rfl (lcp (show _ = Value.int _ _ from rfl) (lcp (show _ = Value.int _ _ from rfl) (lcp (show _ = Value.int _ _ from rfl) lnp))) rfl rfl ?_)
  refine WL.c rfl (o_alB TI39 ?_)
  intro w3 hC3 hx3 hs3
  have hq3 := hq0.size
  have h32 : w0.heap.size < w10.heap.size := (Array.getElem?_eq_some_iff.1 hC2).1
  replace hC2 := hx3.blk hC2 (fun h => h)
  replace h := h.ext hx3
  replace hq0 := hq0.trans' hx3 (fun _ h => h) (fun _ _ h => h.elim)
  refine WL.u (o_stA TI39 rfl (show _ = Value.agg (fcells ⟨n6, n8, n10, 0, 0, 0, []⟩ (.slice none 0 0)).toArray from rfl) rfl rfl hC3 rfl ?_)
  intro w4 hB4 ho4 hs4
  obtain ⟨c3, hc3⟩ : ∃ c3, c3 = w10.heap.size := ⟨_, rfl⟩
  rw [← hc3] at hB4 ho4 hC3 ⊢
  clear hC3
  have hC3 := hB4
  have h3 : w0.heap.size < c3 := by omega
  replace hC2 := ho4.blk hC2 (show ¬ w0.heap.size = c3 by omega)
  replace h := h.keep ho4 (fun k he => by omega) (show ¬ q = c3 by omega)
  replace hq0 := hq0.trans' ho4 (fun _ h => h) (fun k hk he => by omega)
  clear hB4 ho4
  refine WL.nil ?_
  refine W.seq ?_
  refine W.region ?_
  refine WL.c rfl (o_mv ?_)
  refine WL.cx rfl (ox_call Try.call50 (lc rfl (lc rfl (lc rfl ln))) ((number_spec B0 q a10 0 4611686018427387905 bv xs _ h (by decide) (by decide) (by decide)).mono ?_ (fun ch w' hh => by obtain ⟨e, a, h1, h2, h3⟩ := hh; exact ⟨e, a, by simp only [rdF, Rd.bind, hr6, hr8, hr10, h1], h2, hq0.trans' h3 (fun _ h => h) (fun _ _ h => h.elim)⟩)))
  rintro v13 w13 ⟨n13, a13, hr13, rfl, h', ho13⟩
  replace h := h'
  replace hq0 := hq0.trans' ho13 (fun _ h => h) (fun _ _ h => h)
  replace hC2 := ho13.blk hC2 (show ¬ _ = q by omega)
  replace hC3 := ho13.blk hC3 (show ¬ _ = q by omega)
  refine WL.c rfl (o_subi rfl rfl (by have := rdN_ok hr13; omega) ?_)
  refine WL.c rfl (o_fa 3 TI39 rfl TI3 rfl rfl ?_)
  refine WL.u (o_stB TI3 rfl (show _ = Value.int _ _ from rfl) rfl hC3 (show 3 < 7 by decide) ?_)
  intro w15x hB4 ho4 hs4
  clear hC3
  have hC3 : w15x.heap[c3]? = some (.cells (fcells ⟨n6, n8, n10, (n13 : Int) - 1, 0, 0, []⟩ (.slice none 0 0)).toArray 39 (0, 0)) := hB4
  replace hC2 := ho4.blk hC2 (show ¬ w0.heap.size = c3 by omega)
  replace h := h.keep ho4 (fun k he => by omega) (show ¬ q = c3 by omega)
  replace hq0 := hq0.trans' ho4 (fun _ h => h) (fun k hk he => by omega)
  clear hB4 ho4
  refine WL.nil ?_
  refine W.seq ?_
  refine W.region ?_
  refine WL.c rfl (o_mv ?_)
  refine WL.cx rfl (ox_call Try.call50 (lc rfl (lc rfl (lc rfl ln))) ((number_spec B0 q a13 0 4611686018427387905 bv xs _ h (by decide) (by decide) (by decide)).mono ?_ (fun ch w' hh => by obtain ⟨e, a, h1, h2, h3⟩ := hh; exact ⟨e, a, by simp only [rdF, Rd.bind, hr6, hr8, hr10, hr13, h1], h2, hq0.trans' h3 (fun _ h => h) (fun _ _ h => h.elim)⟩)))
  rintro v17 w17 ⟨n17, a17, hr17, rfl, h', ho17⟩
  replace h := h'
  replace hq0 := hq0.trans' ho17 (fun _ h => h) (fun _ _ h => h)
  replace hC2 := ho17.blk hC2 (show ¬ _ = q by omega)
  replace hC3 := ho17.blk hC3 (show ¬ _ = q by omega)
  refine WL.c rfl (o_subi rfl rfl (by have := rdN_ok hr17; omega) ?_)
  refine WL.c rfl (o_fa 4 TI39 rfl TI3 rfl rfl ?_)
  refine WL.u (o_stB TI3 rfl (show _ = Value.int _ _ from rfl) rfl hC3 (show 4 < 7 by decide) ?_)
  intro w19x hB4 ho4 hs4
  clear hC3
  have hC3 : w19x.heap[c3]? = some (.cells (fcells ⟨n6, n8, n10, (n13 : Int) - 1, (n17 : Int) - 1, 0, []⟩ (.slice none 0 0)).toArray 39 (0, 0)) := hB4
  replace hC2 := ho4.blk hC2 (show ¬ w0.heap.size = c3 by omega)
  replace h := h.keep ho4 (fun k he => by omega) (show ¬ q = c3 by omega)
  replace hq0 := hq0.trans' ho4 (fun _ h => h) (fun k hk he => by omega)
  clear hB4 ho4
  refine WL.nil ?_
  refine W.seq ?_
  refine W.region ?_
  refine WL.c rfl (o_mv ?_)
  refine WL.cx rfl (ox_call Try.call50 (lc rfl (lc rfl (lc rfl ln))) ((number_spec B0 q a17 0 4611686018427387904 bv xs _ h (by decide) (by decide) (by decide)).mono ?_ (fun ch w' hh => by obtain ⟨e, a, h1, h2, h3⟩ := hh; exact ⟨e, a, by simp only [rdF, Rd.bind, hr6, hr8, hr10, hr13, hr17, h1], h2, hq0.trans' h3 (fun _ h => h) (fun _ _ h => h.elim)⟩)))
  rintro v21 w21 ⟨n21, a21, hr21, rfl, h', ho21⟩
  replace h := h'
  replace hq0 := hq0.trans' ho21 (fun _ h => h) (fun _ _ h => h)
  replace hC2 := ho21.blk hC2 (show ¬ _ = q by omega)
  replace hC3 := ho21.blk hC3 (show ¬ _ = q by omega)
  refine WL.c rfl (o_fa 5 TI39 rfl TI3 rfl rfl ?_)
  refine WL.u (o_stB TI3 rfl (show _ = Value.int _ _ from rfl) rfl hC3 (show 5 < 7 by decide) ?_)
  intro w22x hB4 ho4 hs4
  clear hC3
  have hC3 : w22x.heap[c3]? = some (.cells (fcells ⟨n6, n8, n10, (n13 : Int) - 1, (n17 : Int) - 1, n21, []⟩ (.slice none 0 0)).toArray 39 (0, 0)) := hB4
  replace hC2 := ho4.blk hC2 (show ¬ w0.heap.size = c3 by omega)
  replace h := h.keep ho4 (fun k he => by omega) (show ¬ q = c3 by omega)
  replace hq0 := hq0.trans' ho4 (fun _ h => h) (fun k hk he => by omega)
  clear hB4 ho4
  refine WL.nil ?_
  refine W.seq ?_
  refine W.seq ?_
  refine W.region ?_
  refine WL.c rfl (o_mv ?_)
  refine WL.cx rfl (ox_call Try.call50 (lc rfl (lc rfl (lc rfl ln))) ((number_spec B0 q a21 0 1048576 bv xs _ h (by decide) (by decide) (by decide)).mono ?_ (fun ch w' hh => by obtain ⟨e, a, h1, h2, h3⟩ := hh; exact ⟨e, a, by simp only [rdF, Rd.bind, hr6, hr8, hr10, hr13, hr17, hr21, h1], h2, hq0.trans' h3 (fun _ h => h) (fun _ _ h => h.elim)⟩)))
  rintro v24 w24 ⟨n24, a24, hr24, rfl, h', ho24⟩
  replace h := h'
  replace hq0 := hq0.trans' ho24 (fun _ h => h) (fun _ _ h => h)
  replace hC2 := ho24.blk hC2 (show ¬ _ = q by omega)
  replace hC3 := ho24.blk hC3 (show ¬ _ = q by omega)
  refine WL.c rfl (o_as ?_)
  refine WL.nil ?_
  refine W.block ?_
  refine W.loop (fun e w => ∃ (m : Nat) (acc : List Int) (a : Nat) (tv : Value), e 0 = .pointer (some ⟨q, 0, none⟩) ∧ e 2 = .pointer (some ⟨w0.heap.size, 0, none⟩) ∧ e 3 = .pointer (some ⟨c3, 0, none⟩) ∧ e 4 = .int .i64 (m : Int) ∧ w.heap[c3]? = some (.cells (fcells ⟨n6, n8, n10, (n13 : Int) - 1, (n17 : Int) - 1, n21, []⟩ tv).toArray 39 (0, 0)) ∧ w.heap[w0.heap.size]? = some (.cells (fcells Fr.nil (.slice none 0 0)).toArray 39 (0, 0)) ∧ w.ownsRow w0.heap.size 3 1 tv acc.length (ints acc) ∧ Rdr w B0 q bv xs a ∧ Only (fun k => k = q) w0 w ∧ rdMany xs n24 a24 [] = rdMany xs m a acc ∧ acc.length + m = n24) (fun e w => (intOf (e 4)).toNat) ?_ ?_
  · exact ⟨n24, [], a24, .slice none 0 0, rfl, rfl, rfl, rfl, hC3, hC2, World.ownsRow_nil _ _ _ _, h, hq0, rfl, by simp⟩
  rintro e w ⟨m, acc, a, tv, h0, h2, h3p, h4, hC3, hC2, hrow, h, hq0, hmany, hcnt⟩
  have hm4 := h4
  have h3 := h3p
  have hn24 := rdN_ok hr24
  refine W.seq ?_
  refine W.seq ?_
  refine W.region ?_
  refine WL.c rfl (o_mvh h4 ?_)
  refine WL.c rfl (o_gt rfl rfl ?_)
  refine WL.nil ?_
  refine W.cond rfl (fun c26 => ?_) (fun c26 => ?_)
  · try simp only [decide_eq_true_eq, decide_eq_false_iff_not, Bool.not_eq_true', Bool.not_eq_false', Bool.and_eq_true, Bool.or_eq_true, Bool.and_eq_false_iff, Bool.or_eq_false_iff] at c26
    refine W.skip ?_
    refine W.seq ?_
    refine W.block ?_
    obtain ⟨wd, hwd⟩ : ∃ wd, wd = w.drew := ⟨_, rfl⟩
    have hxd : Ext w wd := hwd ▸ Only.drew w
    replace h := h.ext hxd
    replace hrow := own_ext hrow hxd
    replace hC3 := hxd.blk hC3 (fun h => h)
    replace hC2 := hxd.blk hC2 (fun h => h)
    replace hq0 := hq0.ext hxd
    have hm1 : 1 ≤ m := by omega
    have htq : ¬ tv.ownBlock = some q := fun hk => by have := (hrow.lt q hk).1; omega
    have ht3 : ¬ tv.ownBlock = some c3 := own_off hrow hC3 (by decide)
    have ht2 : ¬ tv.ownBlock = some w0.heap.size := own_off hrow hC2 (by decide)
    have htB : ∀ k, tv.ownBlock = some k → B0 ≤ k := fun k hk => by have := (hrow.lt k hk).1; omega
    have hlt : ∀ k, tv.ownBlock = some k → k < wd.heap.size := fun k hk => (hrow.lt k hk).2
    have hqd : q < wd.heap.size := by have := hq0.size; omega
    refine W.drawF 6 [3, 5] [fun k => k = q, fun k => tv.ownBlock = some k] [(0, fun v _ => v = _), (2, fun v _ => v = _), (3, fun v _ => v = _), (4, fun v _ => v = _)] rfl (by kernel_rfl) (by kernel_rfl) ⟨Mono.eq, Mono.eq, Mono.eq, Mono.eq, trivial⟩ ⟨h0, h2, h3, h4, trivial⟩ ?_
    refine WDS.p rfl (by decide) (fun e w hR hh => by obtain ⟨h3, -⟩ := hh; exact SG.n (o_fa 6 TI39 rfl TI37 rfl h3 ⟨rfl, Only.refl No _⟩)) ?_
    refine WDS.p rfl (by decide) (fun e w hR hh => by obtain ⟨h29, -⟩ := hh; rw [← hwd] at hR; have hc := hR.blk hC3 (fun hF => by rcases hF with hF | hF | hF <;> first | exact ht3 hF | exact hF | omega); exact SG.n (o_ld TI37 rfl h29 (cell_of hc rfl) ⟨rfl, Only.refl No _⟩)) ?_
    refine WDS.p rfl (by decide) (fun e w hR hh => by obtain ⟨h0, -⟩ := hh; exact SG.n (o_mvh h0 ⟨rfl, Only.refl No _⟩)) ?_
    refine WDS.mf 0 1 (fun v w => ∃ n a2, rdN xs a 0 4611686018427387904 = .ok n a2 ∧ v = .int .i64 (n : Int) ∧ Rdr w B0 q bv xs a2) (fun v w w2 hR hh => by obtain ⟨n, a2, h1, h2, h3⟩ := hh; exact ⟨n, a2, h1, h2, h3.keep hR (fun k hF => by rcases hF with hF | hF; exact htB k hF; exact hF.elim) (fun hF => by rcases hF with hF | hF; exact htq hF; exact hF)⟩) (by kernel_rfl) rfl rfl rfl (fun e w hR hW hh => by obtain ⟨h31, -⟩ := hh; rw [← hwd] at hW; have hW2 : Ext wd w := hW.mono (fun k _ hF => hF); exact SGX.n (ox_call Try.call50 (lc h31 (lc rfl (lc rfl ln))) ((number_spec B0 q a 0 4611686018427387904 bv xs w (h.ext hW2) (by decide) (by decide) (by decide)).mono (fun v w' hh => by obtain ⟨n, a2, h1, h2, h3, h4⟩ := hh; exact ⟨⟨n, a2, h1, h2, h3⟩, h4⟩) (fun ch w' hh => by obtain ⟨e1, a1, h1, h2, h3⟩ := hh; exact ⟨e1, a1, by obtain ⟨m', rfl⟩ : ∃ m', m = m' + 1 := ⟨m - 1, by omega⟩; simp only [rdF, Rd.bind, hr6, hr8, hr10, hr13, hr17, hr21, hr24, hmany, rdMany, h1], h2, (hq0.ext hW2).trans' h3 (fun _ h => h) (fun _ _ h => h.elim)⟩)))) ?_
    refine WDS.q 1 (fun v w => ∃ n a2, rdN xs a 0 4611686018427387904 = .ok n a2 ∧ w.ownsRow wd.heap.size 3 1 v 1 (ints [(n : Int)]) ∧ Rdr w B0 q bv xs a2) (fun v w w2 hR hh => by obtain ⟨n, a2, h1, h2, h3⟩ := hh; exact ⟨n, a2, h1, own_only h2 hR (fun k hk hF => by rcases hF with hF | hF <;> first | exact hF | (have := hlt k hF; have := (h2.lt k hk).1; omega)), h3.keep hR (fun k hF => by rcases hF with hF | hF; exact htB k hF; exact hF.elim) (fun hF => by rcases hF with hF | hF; exact htq hF; exact hF)⟩) (by kernel_rfl) rfl (by decide) (fun e w hR hh => by obtain ⟨h32, -⟩ := hh; rw [← hwd] at hR; obtain ⟨n, a2, hrn, h32v, hrd⟩ := h32; exact SG.n (o_bs1 TI37 TI3 h32v (by decide) (by decide) rfl ⟨⟨n, a2, hrn, own_mono (own_new1 rfl) hR.size, hrd.ext (Only.alloc w _)⟩, Only.alloc w _⟩)) ?_
    refine WDS.mf 1 2 (fun v w => ∃ n a2, rdN xs a 0 4611686018427387904 = .ok n a2 ∧ w.ownsRow w0.heap.size 3 1 v (acc.length + 1) (ints acc ++ ints [(n : Int)]) ∧ Rdr w B0 q bv xs a2) (fun v w w2 hR hh => by obtain ⟨n, a2, h1, h2, h3⟩ := hh; exact ⟨n, a2, h1, own_ext h2 hR, h3.ext hR⟩) (by kernel_rfl) rfl rfl rfl (fun e w hR hW hh => by obtain ⟨h33, h30, -⟩ := hh; rw [← hwd] at hR hW; obtain ⟨n, a2, hrn, h33r, hrd⟩ := h33; have hrow4 := own_only hrow hW (fun k hk hF => by rcases hF with hF | hF <;> first | exact hF | (subst hF; exact htq hk)); have hw2 := hR.size; have hw3 := hq0.size; exact SGX.n (OP.x (o_apO w0.heap.size TI37 TI3 h30 rfl hrow4 (Sl.own h33r) rfl (by decide) (one_ints _) (by rw [maxLen_eq]; omega) (by omega) (by omega) (fun v' w' h1 h2 h3 _ => ⟨⟨n, a2, hrn, h1, hrd.keep h2 htB htq⟩, h2⟩)))) ?_
    rintro e w hR ⟨h34, h33, h32, h31, h30, h29, h0, h2, h3, h4, -⟩
    rw [← hwd] at hR
    obtain ⟨n, a2, hrn, hr34, hrd⟩ := h34
    obtain ⟨v34, hv34⟩ : ∃ v, v = e 34 := ⟨_, rfl⟩
    rw [← hv34] at hr34
    replace hC3 := hR.blk hC3 (fun hF => by rcases hF with hF | hF | hF <;> first | exact ht3 hF | exact hF | omega)
    replace hC2 := hR.blk hC2 (fun hF => by rcases hF with hF | hF | hF <;> first | exact ht2 hF | exact hF | omega)
    refine WL.c rfl (o_fa 6 TI39 rfl TI37 rfl h3 ?_)
    refine WL.u (o_stB TI37 rfl (show _ = v34 from hv34.symm) (own_one hr34) hC3 (show 6 < 7 by decide) ?_)
    intro w35 hB35 ho35 hs35
    have hC3' : w35.heap[c3]? = some (.cells (fcells ⟨n6, n8, n10, (n13 : Int) - 1, (n17 : Int) - 1, n21, []⟩ v34).toArray 39 (0, 0)) := hB35
    have hC2' := ho35.blk hC2 (show ¬ w0.heap.size = c3 by omega)
    have hrow' : w35.ownsRow w0.heap.size 3 1 v34 (acc ++ [(n : Int)]).length (ints (acc ++ [(n : Int)])) := by
      rw [List.length_append, List.length_singleton, ints, List.map_append]
      exact own_only hr34 ho35 (fun k hk he => by subst he; exact own_off hr34 hC3 (by decide) hk)
    have hrd' := hrd.keep ho35 (fun k he => by omega) (show ¬ q = c3 by omega)
    have hq34 : Only (fun k => k = q) w0 w35 := (hq0.trans' hR (fun _ h => h) (fun k hk hF => by rcases hF with hF | hF | hF; exact hF; have := (hrow.lt k hF).1; omega; exact hF.elim)).trans' ho35 (fun _ h => h) (fun k hk he => by omega)
    refine WL.nil ?_
    refine W.region ?_
    refine WL.c rfl (o_mvh h4 ?_)
    refine WL.c rfl (o_subi rfl rfl (by omega) ?_)
    refine WL.c rfl (o_as ?_)
    refine WL.nil ?_
    refine ⟨⟨m - 1, acc ++ [(n : Int)], a2, v34, h0, h2, h3, ?_, hC3', hC2', hrow', hrd', hq34, ?_, ?_⟩, ?_⟩
    · show Value.int _ ((m : Int) - 1) = _; congr 1; omega
    · rw [hmany]; obtain ⟨m', rfl⟩ : ∃ m', m = m' + 1 := ⟨m - 1, by omega⟩; simp only [rdMany, hrn, Rd.bind, Nat.add_sub_cancel]
    · rw [List.length_append, List.length_singleton]; omega
    · show ((m : Int) - 1).toNat < _
      rw [hm4]; simp [intOf]; omega
  · try simp only [decide_eq_true_eq, decide_eq_false_iff_not, Bool.not_eq_true', Bool.not_eq_false', Bool.and_eq_true, Bool.or_eq_true, Bool.and_eq_false_iff, Bool.or_eq_false_iff] at c26
    refine W.exit ?_
    refine W.seq ?_
    refine W.region ?_
    refine WL.c rfl (o_ldA TI39 rfl h3 (show Cells w c3 0 (fcells ⟨n6, n8, n10, (n13 : Int) - 1, (n17 : Int) - 1, n21, acc⟩ tv) from Cells.of hC3 0 _ (by simp [fcells])) rfl ?_)
    refine WL.u (o_stA TI39 h2 (show _ = Value.agg (fcells ⟨n6, n8, n10, (n13 : Int) - 1, (n17 : Int) - 1, n21, acc⟩ tv).toArray from rfl) rfl (fcells_one (own_one hrow)) hC2 rfl ?_)
    intro w12 hB12 ho12 hs12
    refine WL.nil ?_
    refine W.ret ?_
    refine retC rfl TI39 rfl h2 (show Cells w12 w0.heap.size 0 (fcells ⟨n6, n8, n10, (n13 : Int) - 1, (n17 : Int) - 1, n21, acc⟩ tv) from Cells.of hB12 0 _ (by simp)) rfl ?_
    have hm0 : m = 0 := by omega
    subst hm0
    exact ⟨⟨n6, n8, n10, (n13 : Int) - 1, (n17 : Int) - 1, n21, acc⟩, tv, a, by simp only [rdF, Rd.bind, hr6, hr8, hr10, hr13, hr17, hr21, hr24, hmany, rdMany], rfl, own_only hrow ho12 (fun k hk he => by subst he; exact own_off hrow hC2 (by decide) hk), h.keep ho12 (fun k he => by omega) (show ¬ q = w0.heap.size by omega), hq0.trans' ho12 (fun _ h => h) (fun k hk he => by omega)⟩
end Go.Proofs.Ytdiaeafjjffjmaa
