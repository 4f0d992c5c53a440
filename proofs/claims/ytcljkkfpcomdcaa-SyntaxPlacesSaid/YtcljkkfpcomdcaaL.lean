/-
  Walks. Written by program out of specs of mine.
-/
import Derived.Test.YtcljkkfpcomdcaaK
set_option linter.unusedSimpArgs false
set_option linter.unusedVariables false
set_option maxRecDepth 100000
namespace Go.Proofs.Ytcljkkfpcomdcaa
open Go Go.Vc Go.RowKit Go.Proofs

theorem pf1 : parseA [116, 121, 112, 101, 32, 111, 61, 117, 110, 105, 111, 110, 123, 51, 58, 98, 111, 111, 108, 44, 48, 58, 111, 112, 116, 105, 111, 110, 60, 118, 97, 114, 105, 110, 116, 62, 125, 59] = ([⟨[111], 5, [⟨7, 0, [], [], 0, 2, 7⟩, ⟨2, 0, [], [], 3, 0, 13⟩, ⟨6, 0, [], [], 0, 1, 20⟩, ⟨3, 0, [], [], 0, 0, 29⟩]⟩], 0, 0) := by decide +kernel
theorem pf2 : parseA [116, 121, 112, 101, 32, 97, 32, 61, 32, 115, 116, 114, 117, 99, 116, 32, 123, 125, 59] = ([], 60, 17) := by decide +kernel
theorem pf3 : chkS [⟨[117, 56], 0, [⟨2, 0, [], [], 0, 0, 0⟩]⟩] = (0, 0, 62) := by decide +kernel
theorem ty1 (d : Df) : tyD [d] 0 = d.ty := rfl

set_option maxHeartbeats 2000000 in
theorem first_spec (w0 : World) : Ca Try.prog 11 #[] w0 (fun v w' => v = .bool true ∧ Ext w0 w') := by
  have hx : Ext w0 w0 := Only.refl _ _
  refine Ca.of Try.func11 Try.ntmps11 rfl rfl ?_
  refine W.seq ?_
  refine W.region ?_
  refine WL.c rfl (o_ash (show _ = Value.bool _ from rfl) ?_)
  refine WL.nil ?_
  refine W.seq ?_
  refine W.region ?_
  refine WL.c rfl (o_call Try.call19 (lc rfl ln) ((parse_spec [116, 121, 112, 101, 32, 111, 61, 117, 110, 105, 111, 110, 123, 51, 58, 98, 111, 111, 108, 44, 48, 58, 111, 112, 116, 105, 111, 110, 60, 118, 97, 114, 105, 110, 116, 62, 125, 59] _ (by decide)).mono ?_))
  rw [pf1]
  rintro v10 w10 ⟨dv10, V10, rfl, hD10, hxp10⟩
  replace hx := hx.tr hxp10
  refine WL.c rfl (o_mvh (by first | exact (show _ = Value.tuple _ from rfl) | exact rfl) ?_)
  refine WL.c rfl (o_ext rfl rfl ?_)
  refine WL.c rfl (o_ext rfl rfl ?_)
  refine WL.c rfl (o_alB TI28 ?_)
  intro wa hCs hxs hss
  refine WL.c rfl (o_alB TI49 ?_)
  intro wb hCf hxf hsf
  replace hCs := hxf.blk hCs (fun h => h)
  refine WL.u (o_stA TI28 rfl (show _ = Value.agg #[dv10] from rfl) rfl (by simp [own_one hD10.row]) hCs rfl ?_)
  intro wc hB1 hos hsz
  replace hCf := hos.blk hCf (by omega)
  refine WL.u (o_stA TI49 rfl (show _ = Value.agg (faultV _ _) from rfl) rfl rfl hCf rfl ?_)
  intro w2z hB2 hof hsz2
  replace hB1 := hof.blk hB1 (by omega)
  have hxn : Ext w10 w2z := ((hxs.tr hxf).trans' hos (fun _ h => h) (fun k hk he => by omega)).trans' hof (fun _ h => h) (fun k hk he => by omega)
  obtain ⟨b1, hb1⟩ : ∃ b, b = w10.heap.size := ⟨_, rfl⟩
  obtain ⟨b2, hb2⟩ : ∃ b, b = wa.heap.size := ⟨_, rfl⟩
  rw [← hb1] at hB1 ⊢
  rw [← hb2] at hB2 ⊢
  clear hCs hCf hos hof
  replace hx := hx.tr hxn
  replace hD10 := hD10.ext hxn
  clear hxn
  refine WL.nil ?_
  refine W.seq ?_
  refine W.region ?_
  refine WL.c rfl (o_call Try.call19 (lc rfl ln) ((parse_spec [116, 121, 112, 101, 32, 97, 32, 61, 32, 115, 116, 114, 117, 99, 116, 32, 123, 125, 59] _ (by decide)).mono ?_))
  rw [pf2]
  rintro v14 w14 ⟨dv14, V14, rfl, hD14, hxp14⟩
  replace hx := hx.tr hxp14
  replace hB1 := hxp14.blk hB1 (fun h => h)
  replace hB2 := hxp14.blk hB2 (fun h => h)
  replace hD10 := hD10.ext hxp14
  refine WL.c rfl (o_mvh (by first | exact (show _ = Value.tuple _ from rfl) | exact rfl) ?_)
  refine WL.c rfl (o_ext rfl rfl ?_)
  refine WL.c rfl (o_ext rfl rfl ?_)
  refine WL.c rfl (o_alB TI28 ?_)
  intro wa hCs hxs hss
  refine WL.c rfl (o_alB TI49 ?_)
  intro wb hCf hxf hsf
  replace hCs := hxf.blk hCs (fun h => h)
  refine WL.u (o_stA TI28 rfl (show _ = Value.agg #[dv14] from rfl) rfl (by simp [own_one hD14.row]) hCs rfl ?_)
  intro wc hB3 hos hsz
  replace hCf := hos.blk hCf (by omega)
  refine WL.u (o_stA TI49 rfl (show _ = Value.agg (faultV _ _) from rfl) rfl rfl hCf rfl ?_)
  intro w4z hB4 hof hsz2
  replace hB3 := hof.blk hB3 (by omega)
  have hxn : Ext w14 w4z := ((hxs.tr hxf).trans' hos (fun _ h => h) (fun k hk he => by omega)).trans' hof (fun _ h => h) (fun k hk he => by omega)
  obtain ⟨b3, hb3⟩ : ∃ b, b = w14.heap.size := ⟨_, rfl⟩
  obtain ⟨b4, hb4⟩ : ∃ b, b = wa.heap.size := ⟨_, rfl⟩
  rw [← hb3] at hB3 ⊢
  rw [← hb4] at hB4 ⊢
  clear hCs hCf hos hof
  replace hx := hx.tr hxn
  replace hB1 := hxn.blk hB1 (fun h => h)
  replace hB2 := hxn.blk hB2 (fun h => h)
  replace hD10 := hD10.ext hxn
  replace hD14 := hD14.ext hxn
  clear hxn
  obtain ⟨b, o, c, rfl, hcd⟩ := hD10.rd.at (k := 0) (by decide)
  replace hcd : Cells w4z b (o + 0 * 3) [st [111], .int .i64 5, V10 0] := hcd
  have hT : Sl w4z 7 (V10 0) 4 (exs [⟨7, 0, [], [], 0, 2, 7⟩, ⟨2, 0, [], [], 3, 0, 13⟩, ⟨6, 0, [], [], 0, 1, 20⟩, ⟨3, 0, [], [], 0, 0, 29⟩]) := hD10.rd.tys 0 (by decide)
  generalize V10 0 = V0 at hcd hT
  obtain ⟨b2_, o2, c2, rfl, -⟩ := Sl.exq (ts := [⟨7, 0, [], [], 0, 2, 7⟩, ⟨2, 0, [], [], 3, 0, 13⟩, ⟨6, 0, [], [], 0, 1, 20⟩, ⟨3, 0, [], [], 0, 0, 29⟩]) hT (k := 0) (by decide)
  refine WL.nil ?_
  refine W.seq ?_
  refine W.seq ?_
  refine W.region ?_
  refine WL.c rfl (o_ldA TI49 rfl rfl (cells_all hB2) rfl ?_)
  refine WL.c rfl (o_bldC (cs := [(.int .i64 0), (.int .i64 0)]) TI49 (Sizes.cons TI32 (Sizes.cons TI3 Sizes.nil)) rfl lnp rfl rfl ?_)
  refine WL.c rfl (o_neR TI49 (by kernel_rfl) (by kernel_rfl) rfl rfl (.int TI32 (by decide) rfl rfl (.int TI3 (by decide) rfl rfl .nil)) ?_)
  refine WL.c rfl (o_mvh (show _ = Value.bool _ from rfl) ?_)
  refine WL.g rfl (by decide +kernel) rfl (o_ldA TI49 rfl rfl (cells_all hB4) rfl ?_)
  refine WL.g rfl (by decide +kernel) rfl (o_bldC (cs := [(.int .i64 60), (.int .i64 17)]) TI49 (Sizes.cons TI32 (Sizes.cons TI3 Sizes.nil)) rfl (lcp (show _ = Value.int _ _ from rfl) (lcp (show _ = Value.int _ _ from rfl) lnp)) rfl rfl ?_)
  refine WL.g rfl (by decide +kernel) rfl (o_neR TI49 (by kernel_rfl) (by kernel_rfl) rfl rfl (.int TI32 (by decide) rfl rfl (.int TI3 (by decide) rfl rfl .nil)) ?_)
  refine WL.c rfl (o_pickO rfl rfl ?_)
  refine WL.c rfl (o_mvh (show _ = Value.bool _ from rfl) ?_)
  refine WL.g rfl (by decide +kernel) rfl (o_fa 0 TI28 rfl TI26 rfl rfl ?_)
  refine WL.g rfl (by decide +kernel) rfl (o_ld TI26 rfl rfl (cell_of hB1 rfl) ?_)
  refine WL.g rfl (by decide +kernel) rfl (o_len TI26 rfl ?_)
  refine WL.g rfl (by decide +kernel) rfl (o_ne rfl rfl ?_)
  refine WL.c rfl (o_pickO rfl rfl ?_)
  refine WL.c rfl (o_mvh (show _ = Value.bool _ from rfl) ?_)
  refine WL.g rfl (by decide) rfl (o_fa 0 TI28 rfl TI26 rfl rfl ?_)
  refine WL.g rfl (by decide) rfl (o_ld TI26 rfl rfl (cell_of hB1 rfl) ?_)
  refine WL.g rfl (by decide) rfl (o_ixB (i := 0) TI26 TI40 rfl rfl (by decide) ?_)
  refine WL.g rfl (by decide) rfl (o_fa 0 TI40 rfl TI9 rfl rfl ?_)
  refine WL.g rfl (by decide) rfl (o_ld TI9 rfl rfl (hcd 0 _ rfl) ?_)
  refine WL.g rfl (by decide) rfl (o_neT rfl rfl ?_)
  refine WL.c rfl (o_pickO rfl rfl ?_)
  refine WL.c rfl (o_mvh (show _ = Value.bool _ from rfl) ?_)
  refine WL.g rfl (by decide) rfl (o_fa 0 TI28 rfl TI26 rfl rfl ?_)
  refine WL.g rfl (by decide) rfl (o_ld TI26 rfl rfl (cell_of hB1 rfl) ?_)
  refine WL.g rfl (by decide) rfl (o_ixB (i := 0) TI26 TI40 rfl rfl (by decide) ?_)
  refine WL.g rfl (by decide) rfl (o_fa 1 TI40 rfl TI3 rfl rfl ?_)
  refine WL.g rfl (by decide) rfl (o_ld TI3 rfl rfl (hcd 1 _ rfl) ?_)
  refine WL.g rfl (by decide) rfl (o_ne rfl rfl ?_)
  refine WL.c rfl (o_pickO rfl rfl ?_)
  refine WL.c rfl (o_mvh (show _ = Value.bool _ from rfl) ?_)
  refine WL.g rfl (by decide) rfl (o_fa 0 TI28 rfl TI26 rfl rfl ?_)
  refine WL.g rfl (by decide) rfl (o_ld TI26 rfl rfl (cell_of hB1 rfl) ?_)
  refine WL.g rfl (by decide) rfl (o_ixB (i := 0) TI26 TI40 rfl rfl (by decide) ?_)
  refine WL.g rfl (by decide) rfl (o_fa 2 TI40 rfl TI38 rfl rfl ?_)
  refine WL.g rfl (by decide) rfl (o_ld TI38 rfl rfl (hcd 2 _ rfl) ?_)
  refine WL.g rfl (by decide) rfl (o_len TI38 rfl ?_)
  refine WL.g rfl (by decide) rfl (o_ne rfl rfl ?_)
  refine WL.c rfl (o_pickO rfl rfl ?_)
  refine WL.nil ?_
  refine W.condF' rfl (by decide) ?_
  refine W.skip ?_
  refine W.seq ?_
  refine W.region ?_
  refine WL.c rfl (o_fa 0 TI28 rfl TI26 rfl rfl ?_)
  refine WL.c rfl (o_ld TI26 rfl rfl (cell_of hB1 rfl) ?_)
  refine WL.c rfl (o_ixB (i := 0) TI26 TI40 rfl rfl (by decide) ?_)
  refine WL.c rfl (o_fa 2 TI40 rfl TI38 rfl rfl ?_)
  refine WL.c rfl (o_ld TI38 rfl rfl (hcd 2 _ rfl) ?_)
  refine WL.c rfl (o_ash (by first | exact (show _ = Value.slice _ _ _ from rfl) | exact rfl) ?_)
  refine WL.nil ?_
  refine W.seq ?_
  refine W.seq ?_
  refine W.region ?_
  refine WL.c rfl (o_mvh (by first | exact (show _ = Value.slice _ _ _ from rfl) | exact rfl) ?_)
  refine WL.c rfl (o_ixB (i := 0) TI38 TI30 rfl rfl (by decide) ?_)
  refine WL.c rfl (o_ldA TI30 rfl rfl (by obtain ⟨_, _, _, hv, hc⟩ := Sl.exq (ts := [⟨7, 0, [], [], 0, 2, 7⟩, ⟨2, 0, [], [], 3, 0, 13⟩, ⟨6, 0, [], [], 0, 1, 20⟩, ⟨3, 0, [], [], 0, 0, 29⟩]) hT (k := 0) (by decide); cases hv; exact hc) rfl ?_)
  refine WL.c rfl (o_bldC (cs := [(.int .i64 7), (.int .i64 0), (.string ⟨#[]⟩), (.string ⟨#[]⟩), (.int .i64 0), (.int .i64 2), (.int .i64 7)]) TI30 (Sizes.cons TI3 (Sizes.cons TI3 (Sizes.cons TI9 (Sizes.cons TI9 (Sizes.cons TI3 (Sizes.cons TI3 (Sizes.cons TI3 Sizes.nil))))))) rfl (lcp (show _ = Value.int _ _ from rfl) (lcp (show _ = Value.int _ _ from rfl) (lcp (show _ = Value.int _ _ from rfl) lnp))) rfl rfl ?_)
  refine WL.c rfl (o_neR TI30 (by kernel_rfl) (by kernel_rfl) rfl rfl (.int TI3 (by decide) rfl rfl (.int TI3 (by decide) rfl rfl (.str TI9 (by decide) rfl rfl (.str TI9 (by decide) rfl rfl (.int TI3 (by decide) rfl rfl (.int TI3 (by decide) rfl rfl (.int TI3 (by decide) rfl rfl .nil))))))) ?_)
  refine WL.c rfl (o_mvh (show _ = Value.bool _ from rfl) ?_)
  refine WL.g rfl (by decide) rfl (o_mvh (by first | exact (show _ = Value.slice _ _ _ from rfl) | exact rfl) ?_)
  refine WL.g rfl (by decide) rfl (o_ixB (i := 1) TI38 TI30 rfl rfl (by decide) ?_)
  refine WL.g rfl (by decide) rfl (o_ldA TI30 rfl rfl (by obtain ⟨_, _, _, hv, hc⟩ := Sl.exq (ts := [⟨7, 0, [], [], 0, 2, 7⟩, ⟨2, 0, [], [], 3, 0, 13⟩, ⟨6, 0, [], [], 0, 1, 20⟩, ⟨3, 0, [], [], 0, 0, 29⟩]) hT (k := 1) (by decide); cases hv; exact hc) rfl ?_)
  refine WL.g rfl (by decide) rfl (o_bldC (cs := [(.int .i64 2), (.int .i64 0), (.string ⟨#[]⟩), (.string ⟨#[]⟩), (.int .i64 3), (.int .i64 0), (.int .i64 13)]) TI30 (Sizes.cons TI3 (Sizes.cons TI3 (Sizes.cons TI9 (Sizes.cons TI9 (Sizes.cons TI3 (Sizes.cons TI3 (Sizes.cons TI3 Sizes.nil))))))) rfl (lcp (show _ = Value.int _ _ from rfl) (lcp (show _ = Value.int _ _ from rfl) (lcp (show _ = Value.int _ _ from rfl) lnp))) rfl rfl ?_)
  refine WL.g rfl (by decide) rfl (o_neR TI30 (by kernel_rfl) (by kernel_rfl) rfl rfl (.int TI3 (by decide) rfl rfl (.int TI3 (by decide) rfl rfl (.str TI9 (by decide) rfl rfl (.str TI9 (by decide) rfl rfl (.int TI3 (by decide) rfl rfl (.int TI3 (by decide) rfl rfl (.int TI3 (by decide) rfl rfl .nil))))))) ?_)
  refine WL.c rfl (o_pickO rfl rfl ?_)
  refine WL.c rfl (o_mvh (show _ = Value.bool _ from rfl) ?_)
  refine WL.g rfl (by decide) rfl (o_mvh (by first | exact (show _ = Value.slice _ _ _ from rfl) | exact rfl) ?_)
  refine WL.g rfl (by decide) rfl (o_ixB (i := 2) TI38 TI30 rfl rfl (by decide) ?_)
  refine WL.g rfl (by decide) rfl (o_ldA TI30 rfl rfl (by obtain ⟨_, _, _, hv, hc⟩ := Sl.exq (ts := [⟨7, 0, [], [], 0, 2, 7⟩, ⟨2, 0, [], [], 3, 0, 13⟩, ⟨6, 0, [], [], 0, 1, 20⟩, ⟨3, 0, [], [], 0, 0, 29⟩]) hT (k := 2) (by decide); cases hv; exact hc) rfl ?_)
  refine WL.g rfl (by decide) rfl (o_bldC (cs := [(.int .i64 6), (.int .i64 0), (.string ⟨#[]⟩), (.string ⟨#[]⟩), (.int .i64 0), (.int .i64 1), (.int .i64 20)]) TI30 (Sizes.cons TI3 (Sizes.cons TI3 (Sizes.cons TI9 (Sizes.cons TI9 (Sizes.cons TI3 (Sizes.cons TI3 (Sizes.cons TI3 Sizes.nil))))))) rfl (lcp (show _ = Value.int _ _ from rfl) (lcp (show _ = Value.int _ _ from rfl) (lcp (show _ = Value.int _ _ from rfl) lnp))) rfl rfl ?_)
  refine WL.g rfl (by decide) rfl (o_neR TI30 (by kernel_rfl) (by kernel_rfl) rfl rfl (.int TI3 (by decide) rfl rfl (.int TI3 (by decide) rfl rfl (.str TI9 (by decide) rfl rfl (.str TI9 (by decide) rfl rfl (.int TI3 (by decide) rfl rfl (.int TI3 (by decide) rfl rfl (.int TI3 (by decide) rfl rfl .nil))))))) ?_)
  refine WL.c rfl (o_pickO rfl rfl ?_)
  refine WL.c rfl (o_mvh (show _ = Value.bool _ from rfl) ?_)
  refine WL.g rfl (by decide) rfl (o_mvh (by first | exact (show _ = Value.slice _ _ _ from rfl) | exact rfl) ?_)
  refine WL.g rfl (by decide) rfl (o_ixB (i := 3) TI38 TI30 rfl rfl (by decide) ?_)
  refine WL.g rfl (by decide) rfl (o_ldA TI30 rfl rfl (by obtain ⟨_, _, _, hv, hc⟩ := Sl.exq (ts := [⟨7, 0, [], [], 0, 2, 7⟩, ⟨2, 0, [], [], 3, 0, 13⟩, ⟨6, 0, [], [], 0, 1, 20⟩, ⟨3, 0, [], [], 0, 0, 29⟩]) hT (k := 3) (by decide); cases hv; exact hc) rfl ?_)
  refine WL.g rfl (by decide) rfl (o_bldC (cs := [(.int .i64 3), (.int .i64 0), (.string ⟨#[]⟩), (.string ⟨#[]⟩), (.int .i64 0), (.int .i64 0), (.int .i64 29)]) TI30 (Sizes.cons TI3 (Sizes.cons TI3 (Sizes.cons TI9 (Sizes.cons TI9 (Sizes.cons TI3 (Sizes.cons TI3 (Sizes.cons TI3 Sizes.nil))))))) rfl (lcp (show _ = Value.int _ _ from rfl) (lcp (show _ = Value.int _ _ from rfl) lnp)) rfl rfl ?_)
  refine WL.g rfl (by decide) rfl (o_neR TI30 (by kernel_rfl) (by kernel_rfl) rfl rfl (.int TI3 (by decide) rfl rfl (.int TI3 (by decide) rfl rfl (.str TI9 (by decide) rfl rfl (.str TI9 (by decide) rfl rfl (.int TI3 (by decide) rfl rfl (.int TI3 (by decide) rfl rfl (.int TI3 (by decide) rfl rfl .nil))))))) ?_)
  refine WL.c rfl (o_pickO rfl rfl ?_)
  refine WL.nil ?_
  refine W.condF' rfl (by decide) ?_
  refine W.skip ?_
  refine W.seq ?_
  refine W.region ?_
  refine WL.c rfl (o_bldC (cs := [(.int .i64 2), (.int .i64 0), (.string ⟨#[]⟩), (.string ⟨#[]⟩), (.int .i64 0), (.int .i64 0), (.int .i64 0)]) TI30 (Sizes.cons TI3 (Sizes.cons TI3 (Sizes.cons TI9 (Sizes.cons TI9 (Sizes.cons TI3 (Sizes.cons TI3 (Sizes.cons TI3 Sizes.nil))))))) rfl (lcp (show _ = Value.int _ _ from rfl) lnp) rfl rfl ?_)
  refine WL.c rfl (o_bs1 TI38 TI30 (show _ = Value.agg #[.int .i64 2, .int .i64 0, .string ⟨#[]⟩, .string ⟨#[]⟩, .int .i64 0, .int .i64 0, .int .i64 0] from rfl) (by decide) (by decide) rfl ?_)
  have hT9 : Sl (w4z.alloc (.cells (Value.agg #[.int .i64 2, .int .i64 0, .string ⟨#[]⟩, .string ⟨#[]⟩, .int .i64 0, .int .i64 0, .int .i64 0]).cells 30)) 7 (.slice (some ⟨w4z.heap.size, 0, none⟩) 1 1) 1 (exs [⟨2, 0, [], [], 0, 0, 0⟩]) := Sl.one rfl
  have hx9 : Ext w4z (w4z.alloc (.cells (Value.agg #[.int .i64 2, .int .i64 0, .string ⟨#[]⟩, .string ⟨#[]⟩, .int .i64 0, .int .i64 0, .int .i64 0]).cells 30)) := Only.alloc w4z _
  obtain ⟨g9, hg9⟩ : ∃ g, g = w4z.heap.size := ⟨_, rfl⟩
  rw [← hg9] at hT9 ⊢
  generalize w4z.alloc (.cells (Value.agg #[.int .i64 2, .int .i64 0, .string ⟨#[]⟩, .string ⟨#[]⟩, .int .i64 0, .int .i64 0, .int .i64 0]).cells 30) = w9 at *
  replace hx := hx.tr hx9
  refine WL.c rfl (o_bldC (cs := [(st [117, 56]), (.int .i64 0), _]) TI40 (Sizes.cons TI9 (Sizes.cons TI3 (Sizes.cons TI38 Sizes.nil))) rfl (lcp (show _ = Value.string _ from rfl) (lcp (show _ = Value.slice (some ⟨g9, 0, none⟩) 1 1 from rfl) lnp)) rfl rfl ?_)
  refine WL.c rfl (o_bs1 TI26 TI40 (show _ = Value.agg #[st [117, 56], .int .i64 0, .slice (some ⟨g9, 0, none⟩) 1 1] from rfl) (by decide) (by decide) rfl ?_)
  have hR9 : Sl (w9.alloc (.cells (Value.agg #[st [117, 56], .int .i64 0, .slice (some ⟨g9, 0, none⟩) 1 1]).cells 40)) 3 (.slice (some ⟨w9.heap.size, 0, none⟩) 1 1) 1 (drows [⟨[117, 56], 0, [⟨2, 0, [], [], 0, 0, 0⟩]⟩] (fun _ => .slice (some ⟨g9, 0, none⟩) 1 1)) := Sl.one rfl
  have hx8 : Ext w9 (w9.alloc (.cells (Value.agg #[st [117, 56], .int .i64 0, .slice (some ⟨g9, 0, none⟩) 1 1]).cells 40)) := Only.alloc w9 _
  obtain ⟨g8, hg8⟩ : ∃ g, g = w9.heap.size := ⟨_, rfl⟩
  rw [← hg8] at hR9 ⊢
  generalize w9.alloc (.cells (Value.agg #[st [117, 56], .int .i64 0, .slice (some ⟨g9, 0, none⟩) 1 1]).cells 40) = w8 at *
  replace hx := hx.tr hx8
  replace hT9 := hT9.ext hx8
  refine WL.c rfl (o_bldC (cs := [_]) TI28 (Sizes.cons TI26 Sizes.nil) rfl (lcp (show _ = Value.slice (some ⟨g8, 0, none⟩) 1 1 from rfl) lnp) rfl rfl ?_)
  refine WL.c rfl (o_call Try.call14 (lc rfl ln) ((check_spec [⟨[117, 56], 0, [⟨2, 0, [], [], 0, 0, 0⟩]⟩] _ (fun _ => .slice (some ⟨g9, 0, none⟩) 1 1) _ ⟨hR9, fun j hj => by obtain rfl : j = 0 := (by simpa using hj); exact hT9⟩ (by intro d hd; rw [List.mem_singleton] at hd; subst hd; exact ⟨by decide, by decide, fun x hx => by rw [List.mem_singleton] at hx; subst hx; exact ⟨by decide, by decide⟩⟩)).mono ?_))
  rw [pf3]
  rintro v93 w93 ⟨rfl, hx93⟩
  replace hx := hx.tr hx93
  refine WL.c rfl (o_mvh (by first | exact (show _ = Value.tuple _ from rfl) | exact rfl) ?_)
  refine WL.c rfl (o_ext rfl rfl ?_)
  refine WL.c rfl (o_ext rfl rfl ?_)
  refine WL.c rfl (o_ext rfl rfl ?_)
  refine WL.c rfl (o_ash (show _ = Value.int _ _ from rfl) ?_)
  refine WL.c rfl (o_ash (show _ = Value.int _ _ from rfl) ?_)
  refine WL.c rfl (o_ash (show _ = Value.int _ _ from rfl) ?_)
  refine WL.nil ?_
  refine W.seq ?_
  refine W.region ?_
  refine WL.c rfl (o_mvh (show _ = Value.int _ _ from rfl) ?_)
  refine WL.c rfl (o_eq rfl rfl ?_)
  refine WL.c rfl (o_mvh (show _ = Value.bool _ from rfl) ?_)
  refine WL.g rfl (rfl) rfl (o_mvh (show _ = Value.int _ _ from rfl) ?_)
  refine WL.g rfl (rfl) rfl (o_eq rfl rfl ?_)
  refine WL.c rfl (o_pickA rfl rfl ?_)
  refine WL.c rfl (o_mvh (show _ = Value.bool _ from rfl) ?_)
  refine WL.g rfl (rfl) rfl (o_mvh (show _ = Value.int _ _ from rfl) ?_)
  refine WL.g rfl (rfl) rfl (o_eq rfl rfl ?_)
  refine WL.c rfl (o_pickA rfl rfl ?_)
  refine WL.c rfl (o_ash (show _ = Value.bool _ from rfl) ?_)
  refine WL.nil ?_
  refine W.ret ?_
  refine ret1v rfl (show _ = Value.bool _ from rfl) ?_
  exact ⟨rfl, hx⟩
end Go.Proofs.Ytcljkkfpcomdcaa
