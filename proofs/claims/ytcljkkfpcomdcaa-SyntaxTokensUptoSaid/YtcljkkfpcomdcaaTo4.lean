/-
  Walks and lemmas. Written by program out of specs of mine.
-/
import Derived.WalkKit
import Derived.WalkSpells
import Derived.WalkLawsBesides
import Derived.Deep.Quiet
import Derived.StillTail
import Derived.StringKeys
import Derived.Laws.StructEq
import Derived.Laws.Externs
import Derived.Laws.Tables
import Derived.Scope
import Derived.Test.YtcljkkfpcomdcaaProg
import Derived.Laws.AppendOwn
import Derived.Maps.AppendAt
import Derived.Recover
import Derived.Lib.Bytealg
import Derived.SizedLaws
import Derived.ChangeArms
import Derived.ChangeSlices
import Derived.Test.YtcljkkfpcomdcaaRows
import Derived.ProofKit
import Derived.OpenShut
import Derived.ShutString
import Derived.ChangeOld
import Derived.Below
import Derived.JoinedCond
import Derived.SliceStrings
import Derived.Test.YtcljkkfpcomdcaaTo3
set_option linter.unusedSimpArgs false
set_option linter.unusedVariables false
set_option maxRecDepth 100000
set_option linter.unusedSimpArgs false
set_option linter.unusedVariables false
set_option maxRecDepth 100000
namespace Go.Proofs.Ytcljkkfpcomdcaa
open Go Go.Vc Go.RowKit Go.Proofs

theorem pf1 : parseA [116, 121, 112, 101, 32, 111, 61, 117, 110, 105, 111, 110, 123, 51, 58, 98, 111, 111, 108, 44, 48, 58, 111, 112, 116, 105, 111, 110, 60, 118, 97, 114, 105, 110, 116, 62, 125, 59] = ([⟨[111], 5, [⟨7, 0, [], [], 0, 2, 7⟩, ⟨2, 0, [], [], 3, 0, 13⟩, ⟨6, 0, [], [], 0, 1, 20⟩, ⟨3, 0, [], [], 0, 0, 29⟩]⟩], 0, 0) := by decide +kernel
theorem pf2 : parseA [116, 121, 112, 101, 32, 97, 32, 61, 32, 115, 116, 114, 117, 99, 116, 32, 123, 125, 59] = ([], 60, 17) := by decide +kernel
theorem pf3 : chkS [⟨[117, 56], 0, [⟨2, 0, [], [], 0, 0, 0⟩]⟩] = (0, 0, 62) := by decide +kernel
set_option maxHeartbeats 2000000 in
theorem first_spec (w0 : World) : Ca Try.prog 11 #[] w0 (fun v w' => v = .bool true ∧ Ext w0 w') := by
  have hx : Ext w0 w0 := Only.refl _ _
  refine Ca.of Try.func11 Try.ntmps11 rfl rfl ?_
  refine W.seq ?_
  refine W.region ?_
  refine WL.c rfl (o_ash (show _ = Value.bool _ from rfl) ?_)
  refine WL.nil ?_
  refine W.seq ?_
  refine W.region ?_
  refine WL.c rfl (o_call Try.call19 (lc rfl ln) ((parse_spec [116, 121, 112, 101, 32, 111, 61, 117, 110, 105, 111, 110, 123, 51, 58, 98, 111, 111, 108, 44, 48, 58, 111, 112, 116, 105, 111, 110, 60, 118, 97, 114, 105, 110, 116, 62, 125, 59] _ (by decide)).mono ?_))
  rw [pf1]
  rintro v10 w10 ⟨dv10, V10, rfl, hD10, hxp10⟩
  replace hx := hx.tr hxp10
  refine WL.c rfl (o_mvh (by first | exact (show _ = Value.tuple _ from rfl) | exact rfl) ?_)
  refine WL.c rfl (o_ext rfl rfl ?_)
  refine WL.c rfl (o_ext rfl rfl ?_)
  refine WL.c rfl (o_alB TI28 ?_)
  intro wa hCs hxs hss
  refine WL.c rfl (o_alB TI49 ?_)
  intro wb hCf hxf hsf
  replace hCs := hxf.blk hCs (fun h => h)
  refine WL.u (o_stA TI28 rfl (show _ = Value.agg #[dv10] from rfl) rfl (by simp [own_one hD10.row]) hCs rfl ?_)
  intro wc hB1 hos hsz
  replace hCf := hos.blk hCf (by omega)
  refine WL.u (o_stA TI49 rfl (show _ = Value.agg (faultV _ _) from rfl) rfl rfl hCf rfl ?_)
  intro w2z hB2 hof hsz2
  replace hB1 := hof.blk hB1 (by omega)
  have hxn : Ext w10 w2z := ((hxs.tr hxf).trans' hos (fun _ h => h) (fun k hk he => by omega)).trans' hof (fun _ h => h) (fun k hk he => by omega)
  obtain ⟨b1, hb1⟩ : ∃ b, b = w10.heap.size := ⟨_, rfl⟩
  obtain ⟨b2, hb2⟩ : ∃ b, b = wa.heap.size := ⟨_, rfl⟩
  rw [← hb1] at hB1 ⊢
  rw [← hb2] at hB2 ⊢
  clear hCs hCf hos hof
  replace hx := hx.tr hxn
  replace hD10 := hD10.ext hxn
  clear hxn
  refine WL.nil ?_
  refine W.seq ?_
  refine W.region ?_
  refine WL.c rfl (o_call Try.call19 (lc rfl ln) ((parse_spec [116, 121, 112, 101, 32, 97, 32, 61, 32, 115, 116, 114, 117, 99, 116, 32, 123, 125, 59] _ (by decide)).mono ?_))
  rw [pf2]
  rintro v14 w14 ⟨dv14, V14, rfl, hD14, hxp14⟩
  replace hx := hx.tr hxp14
  replace hB1 := hxp14.blk hB1 (fun h => h)
  replace hB2 := hxp14.blk hB2 (fun h => h)
  replace hD10 := hD10.ext hxp14
  refine WL.c rfl (o_mvh (by first | exact (show _ = Value.tuple _ from rfl) | exact rfl) ?_)
  refine WL.c rfl (o_ext rfl rfl ?_)
  refine WL.c rfl (o_ext rfl rfl ?_)
  refine WL.c rfl (o_alB TI28 ?_)
  intro wa hCs hxs hss
  refine WL.c rfl (o_alB TI49 ?_)
  intro wb hCf hxf hsf
  replace hCs := hxf.blk hCs (fun h => h)
  refine WL.u (o_stA TI28 rfl (show _ = Value.agg #[dv14] from rfl) rfl (by simp [own_one hD14.row]) hCs rfl ?_)
  intro wc hB3 hos hsz
  replace hCf := hos.blk hCf (by omega)
  refine WL.u (o_stA TI49 rfl (show _ = Value.agg (faultV _ _) from rfl) rfl rfl hCf rfl ?_)
  intro w4z hB4 hof hsz2
  replace hB3 := hof.blk hB3 (by omega)
  have hxn : Ext w14 w4z := ((hxs.tr hxf).trans' hos (fun _ h => h) (fun k hk he => by omega)).trans' hof (fun _ h => h) (fun k hk he => by omega)
  obtain ⟨b3, hb3⟩ : ∃ b, b = w14.heap.size := ⟨_, rfl⟩
  obtain ⟨b4, hb4⟩ : ∃ b, b = wa.heap.size := ⟨_, rfl⟩
  rw [← hb3] at hB3 ⊢
  rw [← hb4] at hB4 ⊢
  clear hCs hCf hos hof
  replace hx := hx.tr hxn
  replace hB1 := hxn.blk hB1 (fun h => h)
  replace hB2 := hxn.blk hB2 (fun h => h)
  replace hD10 := hD10.ext hxn
  replace hD14 := hD14.ext hxn
  clear hxn
  obtain ⟨b, o, c, rfl, hcd⟩ := hD10.rd.at (k := 0) (by decide)
  replace hcd : Cells w4z b (o + 0 * 3) [st [111], .int .i64 5, V10 0] := hcd
  have hT : Sl w4z 7 (V10 0) 4 (exs [⟨7, 0, [], [], 0, 2, 7⟩, ⟨2, 0, [], [], 3, 0, 13⟩, ⟨6, 0, [], [], 0, 1, 20⟩, ⟨3, 0, [], [], 0, 0, 29⟩]) := hD10.rd.tys 0 (by decide)
  generalize V10 0 = V0 at hcd hT
  obtain ⟨b2_, o2, c2, rfl, -⟩ := Sl.exq (ts := [⟨7, 0, [], [], 0, 2, 7⟩, ⟨2, 0, [], [], 3, 0, 13⟩, ⟨6, 0, [], [], 0, 1, 20⟩, ⟨3, 0, [], [], 0, 0, 29⟩]) hT (k := 0) (by decide)
  refine WL.nil ?_
  refine W.seq ?_
  refine W.seq ?_
  refine W.region ?_
  refine WL.c rfl (o_ldA TI49 rfl rfl (cells_all hB2) rfl ?_)
  refine WL.c rfl (o_bldC (cs := [(.int .i64 0), (.int .i64 0)]) TI49 (Sizes.cons TI32 (Sizes.cons TI3 Sizes.nil)) rfl lnp rfl rfl ?_)
  refine WL.c rfl (o_neR TI49 (by kernel_rfl) (by kernel_rfl) rfl rfl (.int TI32 (by decide) rfl rfl (.int TI3 (by decide) rfl rfl .nil)) ?_)
  refine WL.c rfl (o_mvh (show _ = Value.bool _ from rfl) ?_)
  refine WL.g rfl (by decide +kernel) rfl (o_ldA TI49 rfl rfl (cells_all hB4) rfl ?_)
  refine WL.g rfl (by decide +kernel) rfl (o_bldC (cs := [(.int .i64 60), (.int .i64 17)]) TI49 (Sizes.cons TI32 (Sizes.cons TI3 Sizes.nil)) rfl (lcp (show _ = Value.int _ _ from rfl) (lcp (show _ = Value.int _ _ from rfl) lnp)) rfl rfl ?_)
  refine WL.g rfl (by decide +kernel) rfl (o_neR TI49 (by kernel_rfl) (by kernel_rfl) rfl rfl (.int TI32 (by decide) rfl rfl (.int TI3 (by decide) rfl rfl .nil)) ?_)
  refine WL.c rfl (o_pickO rfl rfl ?_)
  refine WL.c rfl (o_mvh (show _ = Value.bool _ from rfl) ?_)
  refine WL.g rfl (by decide +kernel) rfl (o_fa 0 TI28 rfl TI26 rfl rfl ?_)
  refine WL.g rfl (by decide +kernel) rfl (o_ld TI26 rfl rfl (cell_of hB1 rfl) ?_)
  refine WL.g rfl (by decide +kernel) rfl (o_len TI26 rfl ?_)
  refine WL.g rfl (by decide +kernel) rfl (o_ne rfl rfl ?_)
  refine WL.c rfl (o_pickO rfl rfl ?_)
  refine WL.c rfl (o_mvh (show _ = Value.bool _ from rfl) ?_)
  refine WL.g rfl (by decide) rfl (o_fa 0 TI28 rfl TI26 rfl rfl ?_)
  refine WL.g rfl (by decide) rfl (o_ld TI26 rfl rfl (cell_of hB1 rfl) ?_)
  refine WL.g rfl (by decide) rfl (o_ixB (i := 0) TI26 TI40 rfl rfl (by decide) ?_)
  refine WL.g rfl (by decide) rfl (o_fa 0 TI40 rfl TI9 rfl rfl ?_)
  refine WL.g rfl (by decide) rfl (o_ld TI9 rfl rfl (hcd 0 _ rfl) ?_)
  refine WL.g rfl (by decide) rfl (o_neT rfl rfl ?_)
  refine WL.c rfl (o_pickO rfl rfl ?_)
  refine WL.c rfl (o_mvh (show _ = Value.bool _ from rfl) ?_)
  refine WL.g rfl (by decide) rfl (o_fa 0 TI28 rfl TI26 rfl rfl ?_)
  refine WL.g rfl (by decide) rfl (o_ld TI26 rfl rfl (cell_of hB1 rfl) ?_)
  refine WL.g rfl (by decide) rfl (o_ixB (i := 0) TI26 TI40 rfl rfl (by decide) ?_)
  refine WL.g rfl (by decide) rfl (o_fa 1 TI40 rfl TI3 rfl rfl ?_)
  refine WL.g rfl (by decide) rfl (o_ld TI3 rfl rfl (hcd 1 _ rfl) ?_)
  refine WL.g rfl (by decide) rfl (o_ne rfl rfl ?_)
  refine WL.c rfl (o_pickO rfl rfl ?_)
  refine WL.c rfl (o_mvh (show _ = Value.bool _ from rfl) ?_)
  refine WL.g rfl (by decide) rfl (o_fa 0 TI28 rfl TI26 rfl rfl ?_)
  refine WL.g rfl (by decide) rfl (o_ld TI26 rfl rfl (cell_of hB1 rfl) ?_)
  refine WL.g rfl (by decide) rfl (o_ixB (i := 0) TI26 TI40 rfl rfl (by decide) ?_)
  refine WL.g rfl (by decide) rfl (o_fa 2 TI40 rfl TI38 rfl rfl ?_)
  refine WL.g rfl (by decide) rfl (o_ld TI38 rfl rfl (hcd 2 _ rfl) ?_)
  refine WL.g rfl (by decide) rfl (o_len TI38 rfl ?_)
  refine WL.g rfl (by decide) rfl (o_ne rfl rfl ?_)
  refine WL.c rfl (o_pickO rfl rfl ?_)
  refine WL.nil ?_
  refine W.condF' rfl (by decide) ?_
  refine W.skip ?_
  refine W.seq ?_
  refine W.region ?_
  refine WL.c rfl (o_fa 0 TI28 rfl TI26 rfl rfl ?_)
  refine WL.c rfl (o_ld TI26 rfl rfl (cell_of hB1 rfl) ?_)
  refine WL.c rfl (o_ixB (i := 0) TI26 TI40 rfl rfl (by decide) ?_)
  refine WL.c rfl (o_fa 2 TI40 rfl TI38 rfl rfl ?_)
  refine WL.c rfl (o_ld TI38 rfl rfl (hcd 2 _ rfl) ?_)
  refine WL.c rfl (o_ash (by first | exact (show _ = Value.slice _ _ _ from rfl) | exact rfl) ?_)
  refine WL.nil ?_
  refine W.seq ?_
  refine W.seq ?_
  refine W.region ?_
  refine WL.c rfl (o_mvh (by first | exact (show _ = Value.slice _ _ _ from rfl) | exact rfl) ?_)
  refine WL.c rfl (o_ixB (i := 0) TI38 TI30 rfl rfl (by decide) ?_)
  refine WL.c rfl (o_ldA TI30 rfl rfl (by obtain ⟨_, _, _, hv, hc⟩ := Sl.exq (ts := [⟨7, 0, [], [], 0, 2, 7⟩, ⟨2, 0, [], [], 3, 0, 13⟩, ⟨6, 0, [], [], 0, 1, 20⟩, ⟨3, 0, [], [], 0, 0, 29⟩]) hT (k := 0) (by decide); cases hv; exact hc) rfl ?_)
  refine WL.c rfl (o_bldC (cs := [(.int .i64 7), (.int .i64 0), (.string ⟨#[]⟩), (.string ⟨#[]⟩), (.int .i64 0), (.int .i64 2), (.int .i64 7)]) TI30 (Sizes.cons TI3 (Sizes.cons TI3 (Sizes.cons TI9 (Sizes.cons TI9 (Sizes.cons TI3 (Sizes.cons TI3 (Sizes.cons TI3 Sizes.nil))))))) rfl (lcp (show _ = Value.int _ _ from rfl) (lcp (show _ = Value.int _ _ from rfl) (lcp (show _ = Value.int _ _ from rfl) lnp))) rfl rfl ?_)
  refine WL.c rfl (o_neR TI30 (by kernel_rfl) (by kernel_rfl) rfl rfl (.int TI3 (by decide) rfl rfl (.int TI3 (by decide) rfl rfl (.str TI9 (by decide) rfl rfl (.str TI9 (by decide) rfl rfl (.int TI3 (by decide) rfl rfl (.int TI3 (by decide) rfl rfl (.int TI3 (by decide) rfl rfl .nil))))))) ?_)
  refine WL.c rfl (o_mvh (show _ = Value.bool _ from rfl) ?_)
  refine WL.g rfl (by decide) rfl (o_mvh (by first | exact (show _ = Value.slice _ _ _ from rfl) | exact rfl) ?_)
  refine WL.g rfl (by decide) rfl (o_ixB (i := 1) TI38 TI30 rfl rfl (by decide) ?_)
  refine WL.g rfl (by decide) rfl (o_ldA TI30 rfl rfl (by obtain ⟨_, _, _, hv, hc⟩ := Sl.exq (ts := [⟨7, 0, [], [], 0, 2, 7⟩, ⟨2, 0, [], [], 3, 0, 13⟩, ⟨6, 0, [], [], 0, 1, 20⟩, ⟨3, 0, [], [], 0, 0, 29⟩]) hT (k := 1) (by decide); cases hv; exact hc) rfl ?_)
  refine WL.g rfl (by decide) rfl (o_bldC (cs := [(.int .i64 2), (.int .i64 0), (.string ⟨#[]⟩), (.string ⟨#[]⟩), (.int .i64 3), (.int .i64 0), (.int .i64 13)]) TI30 (Sizes.cons TI3 (Sizes.cons TI3 (Sizes.cons TI9 (Sizes.cons TI9 (Sizes.cons TI3 (Sizes.cons TI3 (Sizes.cons TI3 Sizes.nil))))))) rfl (lcp (show _ = Value.int _ _ from rfl) (lcp (show _ = Value.int _ _ from rfl) (lcp (show _ = Value.int _ _ from rfl) lnp))) rfl rfl ?_)
  refine WL.g rfl (by decide) rfl (o_neR TI30 (by kernel_rfl) (by kernel_rfl) rfl rfl (.int TI3 (by decide) rfl rfl (.int TI3 (by decide) rfl rfl (.str TI9 (by decide) rfl rfl (.str TI9 (by decide) rfl rfl (.int TI3 (by decide) rfl rfl (.int TI3 (by decide) rfl rfl (.int TI3 (by decide) rfl rfl .nil))))))) ?_)
  refine WL.c rfl (o_pickO rfl rfl ?_)
  refine WL.c rfl (o_mvh (show _ = Value.bool _ from rfl) ?_)
  refine WL.g rfl (by decide) rfl (o_mvh (by first | exact (show _ = Value.slice _ _ _ from rfl) | exact rfl) ?_)
  refine WL.g rfl (by decide) rfl (o_ixB (i := 2) TI38 TI30 rfl rfl (by decide) ?_)
  refine WL.g rfl (by decide) rfl (o_ldA TI30 rfl rfl (by obtain ⟨_, _, _, hv, hc⟩ := Sl.exq (ts := [⟨7, 0, [], [], 0, 2, 7⟩, ⟨2, 0, [], [], 3, 0, 13⟩, ⟨6, 0, [], [], 0, 1, 20⟩, ⟨3, 0, [], [], 0, 0, 29⟩]) hT (k := 2) (by decide); cases hv; exact hc) rfl ?_)
  refine WL.g rfl (by decide) rfl (o_bldC (cs := [(.int .i64 6), (.int .i64 0), (.string ⟨#[]⟩), (.string ⟨#[]⟩), (.int .i64 0), (.int .i64 1), (.int .i64 20)]) TI30 (Sizes.cons TI3 (Sizes.cons TI3 (Sizes.cons TI9 (Sizes.cons TI9 (Sizes.cons TI3 (Sizes.cons TI3 (Sizes.cons TI3 Sizes.nil))))))) rfl (lcp (show _ = Value.int _ _ from rfl) (lcp (show _ = Value.int _ _ from rfl) (lcp (show _ = Value.int _ _ from rfl) lnp))) rfl rfl ?_)
  refine WL.g rfl (by decide) rfl (o_neR TI30 (by kernel_rfl) (by kernel_rfl) rfl rfl (.int TI3 (by decide) rfl rfl (.int TI3 (by decide) rfl rfl (.str TI9 (by decide) rfl rfl (.str TI9 (by decide) rfl rfl (.int TI3 (by decide) rfl rfl (.int TI3 (by decide) rfl rfl (.int TI3 (by decide) rfl rfl .nil))))))) ?_)
  refine WL.c rfl (o_pickO rfl rfl ?_)
  refine WL.c rfl (o_mvh (show _ = Value.bool _ from rfl) ?_)
  refine WL.g rfl (by decide) rfl (o_mvh (by first | exact (show _ = Value.slice _ _ _ from rfl) | exact rfl) ?_)
  refine WL.g rfl (by decide) rfl (o_ixB (i := 3) TI38 TI30 rfl rfl (by decide) ?_)
  refine WL.g rfl (by decide) rfl (o_ldA TI30 rfl rfl (by obtain ⟨_, _, _, hv, hc⟩ := Sl.exq (ts := [⟨7, 0, [], [], 0, 2, 7⟩, ⟨2, 0, [], [], 3, 0, 13⟩, ⟨6, 0, [], [], 0, 1, 20⟩, ⟨3, 0, [], [], 0, 0, 29⟩]) hT (k := 3) (by decide); cases hv; exact hc) rfl ?_)
  refine WL.g rfl (by decide) rfl (o_bldC (cs := [(.int .i64 3), (.int .i64 0), (.string ⟨#[]⟩), (.string ⟨#[]⟩), (.int .i64 0), (.int .i64 0), (.int .i64 29)]) TI30 (Sizes.cons TI3 (Sizes.cons TI3 (Sizes.cons TI9 (Sizes.cons TI9 (Sizes.cons TI3 (Sizes.cons TI3 (Sizes.cons TI3 Sizes.nil))))))) rfl (lcp (show _ = Value.int _ _ from rfl) (lcp (show _ = Value.int _ _ from rfl) lnp)) rfl rfl ?_)
  refine WL.g rfl (by decide) rfl (o_neR TI30 (by kernel_rfl) (by kernel_rfl) rfl rfl (.int TI3 (by decide) rfl rfl (.int TI3 (by decide) rfl rfl (.str TI9 (by decide) rfl rfl (.str TI9 (by decide) rfl rfl (.int TI3 (by decide) rfl rfl (.int TI3 (by decide) rfl rfl (.int TI3 (by decide) rfl rfl .nil))))))) ?_)
  refine WL.c rfl (o_pickO rfl rfl ?_)
  refine WL.nil ?_
  refine W.condF' rfl (by decide) ?_
  refine W.skip ?_
  refine W.seq ?_
  refine W.region ?_
  refine WL.c rfl (o_bldC (cs := [(.int .i64 2), (.int .i64 0), (.string ⟨#[]⟩), (.string ⟨#[]⟩), (.int .i64 0), (.int .i64 0), (.int .i64 0)]) TI30 (Sizes.cons TI3 (Sizes.cons TI3 (Sizes.cons TI9 (Sizes.cons TI9 (Sizes.cons TI3 (Sizes.cons TI3 (Sizes.cons TI3 Sizes.nil))))))) rfl (lcp (show _ = Value.int _ _ from rfl) lnp) rfl rfl ?_)
  refine WL.c rfl (o_bs1 TI38 TI30 (show _ = Value.agg #[.int .i64 2, .int .i64 0, .string ⟨#[]⟩, .string ⟨#[]⟩, .int .i64 0, .int .i64 0, .int .i64 0] from rfl) (by decide) (by decide) rfl ?_)
  have hT9 : Sl (w4z.alloc (.cells (Value.agg #[.int .i64 2, .int .i64 0, .string ⟨#[]⟩, .string ⟨#[]⟩, .int .i64 0, .int .i64 0, .int .i64 0]).cells 30)) 7 (.slice (some ⟨w4z.heap.size, 0, none⟩) 1 1) 1 (exs [⟨2, 0, [], [], 0, 0, 0⟩]) := Sl.one rfl
  have hx9 : Ext w4z (w4z.alloc (.cells (Value.agg #[.int .i64 2, .int .i64 0, .string ⟨#[]⟩, .string ⟨#[]⟩, .int .i64 0, .int .i64 0, .int .i64 0]).cells 30)) := Only.alloc w4z _
  obtain ⟨g9, hg9⟩ : ∃ g, g = w4z.heap.size := ⟨_, rfl⟩
  rw [← hg9] at hT9 ⊢
  generalize w4z.alloc (.cells (Value.agg #[.int .i64 2, .int .i64 0, .string ⟨#[]⟩, .string ⟨#[]⟩, .int .i64 0, .int .i64 0, .int .i64 0]).cells 30) = w9 at *
  replace hx := hx.tr hx9
  refine WL.c rfl (o_bldC (cs := [(st [117, 56]), (.int .i64 0), _]) TI40 (Sizes.cons TI9 (Sizes.cons TI3 (Sizes.cons TI38 Sizes.nil))) rfl (lcp (show _ = Value.string _ from rfl) (lcp (show _ = Value.slice (some ⟨g9, 0, none⟩) 1 1 from rfl) lnp)) rfl rfl ?_)
  refine WL.c rfl (o_bs1 TI26 TI40 (show _ = Value.agg #[st [117, 56], .int .i64 0, .slice (some ⟨g9, 0, none⟩) 1 1] from rfl) (by decide) (by decide) rfl ?_)
  have hR9 : Sl (w9.alloc (.cells (Value.agg #[st [117, 56], .int .i64 0, .slice (some ⟨g9, 0, none⟩) 1 1]).cells 40)) 3 (.slice (some ⟨w9.heap.size, 0, none⟩) 1 1) 1 (drows [⟨[117, 56], 0, [⟨2, 0, [], [], 0, 0, 0⟩]⟩] (fun _ => .slice (some ⟨g9, 0, none⟩) 1 1)) := Sl.one rfl
  have hx8 : Ext w9 (w9.alloc (.cells (Value.agg #[st [117, 56], .int .i64 0, .slice (some ⟨g9, 0, none⟩) 1 1]).cells 40)) := Only.alloc w9 _
  obtain ⟨g8, hg8⟩ : ∃ g, g = w9.heap.size := ⟨_, rfl⟩
  rw [← hg8] at hR9 ⊢
  generalize w9.alloc (.cells (Value.agg #[st [117, 56], .int .i64 0, .slice (some ⟨g9, 0, none⟩) 1 1]).cells 40) = w8 at *
  replace hx := hx.tr hx8
  replace hT9 := hT9.ext hx8
  refine WL.c rfl (o_bldC (cs := [_]) TI28 (Sizes.cons TI26 Sizes.nil) rfl (lcp (show _ = Value.slice (some ⟨g8, 0, none⟩) 1 1 from rfl) lnp) rfl rfl ?_)
  refine WL.c rfl (o_call Try.call14 (lc rfl ln) ((check_spec [⟨[117, 56], 0, [⟨2, 0, [], [], 0, 0, 0⟩]⟩] _ (fun _ => .slice (some ⟨g9, 0, none⟩) 1 1) _ ⟨hR9, fun j hj => by obtain rfl : j = 0 := (by simpa using hj); exact hT9⟩ (by intro d hd; rw [List.mem_singleton] at hd; subst hd; exact ⟨by decide, by decide, fun x hx => by rw [List.mem_singleton] at hx; subst hx; exact ⟨by decide, by decide⟩⟩)).mono ?_))
  rw [pf3]
  rintro v93 w93 ⟨rfl, hx93⟩
  replace hx := hx.tr hx93
  refine WL.c rfl (o_mvh (by first | exact (show _ = Value.tuple _ from rfl) | exact rfl) ?_)
  refine WL.c rfl (o_ext rfl rfl ?_)
  refine WL.c rfl (o_ext rfl rfl ?_)
  refine WL.c rfl (o_ext rfl rfl ?_)
  refine WL.c rfl (o_ash (show _ = Value.int _ _ from rfl) ?_)
  refine WL.c rfl (o_ash (show _ = Value.int _ _ from rfl) ?_)
  refine WL.c rfl (o_ash (show _ = Value.int _ _ from rfl) ?_)
  refine WL.nil ?_
  refine W.seq ?_
  refine W.region ?_
  refine WL.c rfl (o_mvh (show _ = Value.int _ _ from rfl) ?_)
  refine WL.c rfl (o_eq rfl rfl ?_)
  refine WL.c rfl (o_mvh (show _ = Value.bool _ from rfl) ?_)
  refine WL.g rfl (rfl) rfl (o_mvh (show _ = Value.int _ _ from rfl) ?_)
  refine WL.g rfl (rfl) rfl (o_eq rfl rfl ?_)
  refine WL.c rfl (o_pickA rfl rfl ?_)
  refine WL.c rfl (o_mvh (show _ = Value.bool _ from rfl) ?_)
  refine WL.g rfl (rfl) rfl (o_mvh (show _ = Value.int _ _ from rfl) ?_)
  refine WL.g rfl (rfl) rfl (o_eq rfl rfl ?_)
  refine WL.c rfl (o_pickA rfl rfl ?_)
  refine WL.c rfl (o_ash (show _ = Value.bool _ from rfl) ?_)
  refine WL.nil ?_
  refine W.ret ?_
  refine ret1v rfl (show _ = Value.bool _ from rfl) ?_
  exact ⟨rfl, hx⟩
end Go.Proofs.Ytcljkkfpcomdcaa

set_option linter.unusedSimpArgs false
set_option linter.unusedVariables false
set_option maxRecDepth 100000
namespace Go.Proofs.Ytcljkkfpcomdcaa
open Go Go.Vc Go.RowKit Go.Proofs

theorem drop_eq {A B : List Df} {k : Nat} (ha : k < A.length) (hb : k < B.length) : A.drop k = B.drop k ↔ A[k].name = B[k].name ∧ A[k].at_ = B[k].at_ ∧ A[k].ty = B[k].ty ∧ A.drop (k + 1) = B.drop (k + 1) := by
  rw [← List.getElem_cons_drop ha, ← List.getElem_cons_drop hb, List.cons.injEq]
  constructor
  · rintro ⟨h1, h2⟩; rw [h1]; exact ⟨rfl, rfl, rfl, h2⟩
  · rintro ⟨h1, h2, h3, h4⟩
    refine ⟨?_, h4⟩
    cases hA : A[k]; cases hB : B[k]
    rw [hA, hB] at h1 h2 h3
    simp only at h1 h2 h3
    rw [h1, h2, h3]
theorem drop_eqE {A B : List Ex} {k : Nat} (ha : k < A.length) (hb : k < B.length) : A.drop k = B.drop k ↔ A[k] = B[k] ∧ A.drop (k + 1) = B.drop (k + 1) := by
  rw [← List.getElem_cons_drop ha, ← List.getElem_cons_drop hb, List.cons.injEq]
theorem ex_ext {a b : Ex} (h1 : a.kind = b.kind) (h2 : a.n = b.n) (h3 : a.name = b.name) (h4 : a.label = b.label) (h5 : a.tag = b.tag) (h6 : a.kids = b.kids) (h7 : a.at_ = b.at_) : a = b := by
  cases a; cases b; simp_all
theorem dec_iff {p q : Prop} [Decidable p] [Decidable q] (h : p ↔ q) : decide p = decide q := decide_eq_decide.2 h
theorem tyD_at {D : List Df} {k : Nat} (hk : k < D.length) : tyD D k = D[k].ty := by simp [tyD, List.getD_eq_getElem?_getD, hk]
theorem getD_at {D : List Df} {k : Nat} (hk : k < D.length) : D.getD k df0 = D[k] := by simp [List.getD_eq_getElem?_getD, hk]
theorem DefR.atk {w : World} {D : List Df} {dv : Value} {V : Nat → Value} (h : DefR w D dv V) {k : Nat} (hk : k < D.length) : ∃ b o c, dv = .slice (some ⟨b, o, none⟩) D.length c ∧ Cells w b (o + k * 3) (dcell D[k] (V k)) ∧ Sl w 7 (V k) D[k].ty.length (exs D[k].ty) := by
  obtain ⟨b, o, c, h1, h2⟩ := h.at hk
  have h3 := h.tys k hk
  rw [getD_at hk] at h2
  rw [tyD_at hk] at h3
  exact ⟨b, o, c, h1, h2, h3⟩

set_option maxHeartbeats 2000000 in
theorem same_spec (A B : List Df) (dv1 dv2 : Value) (V1 V2 : Nat → Value) (w0 : World) (hA : DefR w0 A dv1 V1) (hB : DefR w0 B dv2 V2) (hAl : A.length ≤ 4611686018427387904) (hAt : ∀ d ∈ A, d.ty.length ≤ 4611686018427387904) : Ca Try.prog 20 #[.agg #[dv1], .agg #[dv2], .bool true] w0 (fun v w' => v = .bool (decide (A = B)) ∧ Ext w0 w') := by
  refine Ca.of Try.func20 Try.ntmps20 rfl rfl ?_
  refine W.seq ?_
  refine W.region ?_
  refine WL.c rfl (o_boxB rfl ?_)
  intro w3 hC3 hx3 hs3
  have hx := hx3
  replace hC3 : w3.heap[w0.heap.size]? = some (.cells #[dv1] 28 (0, 0)) := hC3
  obtain ⟨c3, hc3⟩ : ∃ c, c = w0.heap.size := ⟨_, rfl⟩
  rw [← hc3] at hC3 ⊢
  replace hA := hA.ext hx3
  replace hB := hB.ext hx3
  refine WL.c rfl (o_boxB rfl ?_)
  intro w4 hC4 hx4 hs4
  replace hx := hx.tr hx4
  replace hC4 : w4.heap[w3.heap.size]? = some (.cells #[dv2] 28 (0, 0)) := hC4
  obtain ⟨c4, hc4⟩ : ∃ c, c = w3.heap.size := ⟨_, rfl⟩
  rw [← hc4] at hC4 ⊢
  replace hA := hA.ext hx4
  replace hB := hB.ext hx4
  replace hC3 := hx4.blk hC3 (fun h => h)
  refine WL.c rfl (o_ash (show _ = Value.bool _ from rfl) ?_)
  refine WL.nil ?_
  refine W.seq ?_
  refine W.seq ?_
  refine W.region ?_
  refine WL.c rfl (o_fa 0 TI28 rfl TI26 rfl rfl ?_)
  refine WL.c rfl (o_ld TI26 rfl rfl (cell_of hC3 rfl) ?_)
  refine WL.c rfl (o_lenR TI26 rfl hA.row ?_)
  refine WL.c rfl (o_fa 0 TI28 rfl TI26 rfl rfl ?_)
  refine WL.c rfl (o_ld TI26 rfl rfl (cell_of hC4 rfl) ?_)
  refine WL.c rfl (o_lenR TI26 rfl hB.row ?_)
  refine WL.c rfl (o_ne rfl rfl ?_)
  refine WL.nil ?_
  refine W.cond rfl (fun c19 => ?_) (fun c19 => ?_)
  · try simp only [decide_eq_true_eq, decide_eq_false_iff_not, Bool.not_eq_true', Bool.not_eq_false', Bool.and_eq_true, Bool.or_eq_true, Bool.and_eq_false_iff, Bool.or_eq_false_iff] at c19
    have hn : ¬ A.length = B.length := by omega
    refine W.seq ?_
    refine W.region ?_
    refine WL.c rfl (o_ash (show _ = Value.bool _ from rfl) ?_)
    refine WL.nil ?_
    refine W.ret ?_
    refine ret1v rfl (show _ = Value.bool _ from rfl) ?_
    exact ⟨congrArg Value.bool (decide_eq_false (fun h => hn (by rw [h]))).symm, hx⟩
  · try simp only [decide_eq_true_eq, decide_eq_false_iff_not, Bool.not_eq_true', Bool.not_eq_false', Bool.and_eq_true, Bool.or_eq_true, Bool.and_eq_false_iff, Bool.or_eq_false_iff] at c19
    have hn : A.length = B.length := by omega
    refine W.skip ?_
    refine W.seq ?_
    refine W.seq ?_
    refine W.region ?_
    refine WL.c rfl (o_ash (show _ = Value.int _ _ from rfl) ?_)
    refine WL.nil ?_
    refine W.block ?_
    refine W.loop (fun e w => ∃ k : Nat, k ≤ A.length ∧ e 2 = .bool true ∧ e 3 = .pointer (some ⟨c3, 0, none⟩) ∧ e 4 = .pointer (some ⟨c4, 0, none⟩) ∧ e 7 = .int .i64 (k : Int) ∧ w.heap[c3]? = some (.cells #[dv1] 28 (0, 0)) ∧ w.heap[c4]? = some (.cells #[dv2] 28 (0, 0)) ∧ DefR w A dv1 V1 ∧ DefR w B dv2 V2 ∧ decide (A = B) = decide (A.drop k = B.drop k) ∧ Ext w0 w) (fun e w => A.length - (intOf (e 7)).toNat) ?_ ?_
    · exact ⟨0, Nat.zero_le _, rfl, rfl, rfl, rfl, hC3, hC4, hA, hB, rfl, hx⟩
    rintro e w ⟨k, hk, h2, h3, h4, h7, hC3, hC4, hA, hB, hres, hx⟩
    have hm7 := h7
    refine W.seq ?_
    refine W.seq ?_
    refine W.region ?_
    refine WL.c rfl (o_mvh h7 ?_)
    refine WL.c rfl (o_fa 0 TI28 rfl TI26 rfl h3 ?_)
    refine WL.c rfl (o_ld TI26 rfl rfl (cell_of hC3 rfl) ?_)
    refine WL.c rfl (o_lenR TI26 rfl hA.row ?_)
    refine WL.c rfl (o_lt rfl rfl ?_)
    refine WL.nil ?_
    refine W.cond rfl (fun c24 => ?_) (fun c24 => ?_)
    · try simp only [decide_eq_true_eq, decide_eq_false_iff_not, Bool.not_eq_true', Bool.not_eq_false', Bool.and_eq_true, Bool.or_eq_true, Bool.and_eq_false_iff, Bool.or_eq_false_iff] at c24
      have hk1 : k < A.length := by omega
      have hk2 : k < B.length := by omega
      have hAk := hAt _ (List.getElem_mem hk1)
      obtain ⟨tb, to_, tc, rfl, htc, hty⟩ := hA.atk hk1
      obtain ⟨tb2, to2, tc2, rfl, htc2, hty2⟩ := hB.atk hk2
      have hde := drop_eq hk1 hk2
      refine W.skip ?_
      refine W.seq ?_
      refine W.block ?_
      refine W.seq ?_
      refine W.region ?_
      refine WL.c rfl (o_fa 0 TI28 rfl TI26 rfl h3 ?_)
      refine WL.c rfl (o_ld TI26 rfl rfl (cell_of hC3 rfl) ?_)
      refine WL.c rfl (o_mvh h7 ?_)
      refine WL.c rfl (o_ixB TI26 TI40 rfl rfl (by omega) ?_)
      refine WL.c rfl (o_ldA TI40 rfl rfl htc rfl ?_)
      refine WL.c rfl (o_alB TI40 ?_)
      intro wa hCa hxa hsa
      refine WL.u (o_stA TI40 rfl (show _ = Value.agg (dcell A[k] (V1 k)).toArray from rfl) rfl (by simp only [dcell, List.toArray, Array.toList, List.all_cons, List.all_nil, sl_one1 hty]; rfl) hCa rfl ?_)
      intro wb8 hC8 hob hsb
      have hxb := Ext.own hxa (Nat.le_refl _) hob
      clear hCa hxa hsa hob hsb
      replace hC3 := hxb.blk hC3 (fun h => h)
      replace hC4 := hxb.blk hC4 (fun h => h)
      replace hA := hA.ext hxb
      replace hB := hB.ext hxb
      replace hty := hty.ext hxb
      replace hty2 := hty2.ext hxb
      replace hx := hx.tr hxb
      replace htc2 := Cells.only htc2 hxb (fun h => h)
      obtain ⟨c8, hc8⟩ : ∃ c, c = w.heap.size := ⟨_, rfl⟩
      rw [← hc8] at hC8 ⊢
      clear hxb
      refine WL.nil ?_
      refine W.seq ?_
      refine W.region ?_
      refine WL.c rfl (o_fa 0 TI28 rfl TI26 rfl h4 ?_)
      refine WL.c rfl (o_ld TI26 rfl rfl (cell_of hC4 rfl) ?_)
      refine WL.c rfl (o_mvh h7 ?_)
      refine WL.c rfl (o_ixB TI26 TI40 rfl rfl (by omega) ?_)
      refine WL.c rfl (o_ldA TI40 rfl rfl htc2 rfl ?_)
      refine WL.c rfl (o_alB TI40 ?_)
      intro wa hCa hxa hsa
      refine WL.u (o_stA TI40 rfl (show _ = Value.agg (dcell B[k] (V2 k)).toArray from rfl) rfl (by simp only [dcell, List.toArray, Array.toList, List.all_cons, List.all_nil, sl_one1 hty2]; rfl) hCa rfl ?_)
      intro wb9 hC9 hob hsb
      have hxb := Ext.own hxa (Nat.le_refl _) hob
      clear hCa hxa hsa hob hsb
      replace hC3 := hxb.blk hC3 (fun h => h)
      replace hC4 := hxb.blk hC4 (fun h => h)
      replace hC8 := hxb.blk hC8 (fun h => h)
      replace hA := hA.ext hxb
      replace hB := hB.ext hxb
      replace hty := hty.ext hxb
      replace hty2 := hty2.ext hxb
      replace hx := hx.tr hxb
      obtain ⟨c9, hc9⟩ : ∃ c, c = wb8.heap.size := ⟨_, rfl⟩
      rw [← hc9] at hC9 ⊢
      clear hxb
      refine WL.nil ?_
      refine W.seq ?_
      refine W.seq ?_
      refine W.region ?_
      refine WL.cut (fun e1 w1 => e1 2 = .bool true ∧ e1 3 = .pointer (some ⟨c3, 0, none⟩) ∧ e1 4 = .pointer (some ⟨c4, 0, none⟩) ∧ e1 7 = .int .i64 (k : Int) ∧ e1 8 = .pointer (some ⟨c8, 0, none⟩) ∧ e1 9 = .pointer (some ⟨c9, 0, none⟩) ∧ e1 60 = .bool (!(decide (A[k].name = B[k].name) && decide (A[k].at_ = B[k].at_) && decide (A[k].ty.length = B[k].ty.length))) ∧ w1 = wb9) ?_ ?_
      · -- region 8
        refine WL.c rfl (o_fa 0 TI40 rfl TI9 rfl rfl ?_)
        refine WL.c rfl (o_ld TI9 rfl rfl (cell_of hC8 rfl) ?_)
        refine WL.c rfl (o_fa 0 TI40 rfl TI9 rfl rfl ?_)
        refine WL.c rfl (o_ld TI9 rfl rfl (cell_of hC9 rfl) ?_)
        refine WL.c rfl (o_neT rfl rfl ?_)
        refine WL.c rfl (o_mvh (show _ = Value.bool _ from rfl) ?_)
        refine WL.sp 5 rfl (fun g42 => ?_) (fun g42 => ?_)
        · skip
          refine WL.s rfl (g42) rfl ?_
          refine WL.s rfl (g42) rfl ?_
          refine WL.z rfl rfl ?_
          refine WL.z rfl rfl ?_
          refine WL.z rfl rfl ?_
          refine WL.z rfl rfl ?_
          refine WL.z rfl rfl ?_
          refine WL.s rfl (g42) rfl ?_
          refine WL.c rfl (o_pickT rfl (g42) ?_)
          refine WL.c rfl (o_mvh (show _ = Value.bool _ from rfl) ?_)
          refine WL.s rfl (rfl) rfl ?_
          refine WL.s rfl (rfl) rfl ?_
          refine WL.s rfl (rfl) rfl ?_
          refine WL.s rfl (rfl) rfl ?_
          refine WL.s rfl (rfl) rfl ?_
          refine WL.s rfl (rfl) rfl ?_
          refine WL.s rfl (rfl) rfl ?_
          refine WL.c rfl (o_pickT rfl (rfl) ?_)
          exact WL.nil (⟨h2, h3, h4, h7, rfl, rfl, congrArg Value.bool (by clear hde hres; (try rw [show decide ((A[k].ty.length : Int) = (B[k].ty.length : Int)) = decide (A[k].ty.length = B[k].ty.length) from dec_iff (by omega)]); generalize decide (A[k].name = B[k].name) = x at *; generalize decide (A[k].at_ = B[k].at_) = y at *; first | (revert g42 g52; cases x <;> cases y <;> simp; done) | (revert g42; cases x <;> cases y <;> simp; done)), rfl⟩)
        · skip
          refine WL.g rfl (g42) rfl (o_mvh h2 ?_)
          refine WL.g rfl (g42) rfl (o_mvh (show _ = Value.bool _ from rfl) ?_)
          refine WL.g rfl (rfl) rfl (o_fa 1 TI40 rfl TI3 rfl rfl ?_)
          refine WL.g rfl (rfl) rfl (o_ld TI3 rfl rfl (cell_of hC8 rfl) ?_)
          refine WL.g rfl (rfl) rfl (o_fa 1 TI40 rfl TI3 rfl rfl ?_)
          refine WL.g rfl (rfl) rfl (o_ld TI3 rfl rfl (cell_of hC9 rfl) ?_)
          refine WL.g rfl (rfl) rfl (o_ne rfl rfl ?_)
          refine WL.g rfl (g42) rfl (o_pickA rfl rfl ?_)
          refine WL.c rfl (o_pickO rfl rfl ?_)
          refine WL.c rfl (o_mvh (show _ = Value.bool _ from rfl) ?_)
          refine WL.sp 15 rfl (fun g52 => ?_) (fun g52 => ?_)
          · skip
            refine WL.s rfl (g52) rfl ?_
            refine WL.s rfl (g52) rfl ?_
            refine WL.s rfl (g52) rfl ?_
            refine WL.s rfl (g52) rfl ?_
            refine WL.s rfl (g52) rfl ?_
            refine WL.s rfl (g52) rfl ?_
            refine WL.s rfl (g52) rfl ?_
            refine WL.c rfl (o_pickT rfl (g52) ?_)
            exact WL.nil (⟨h2, h3, h4, h7, rfl, rfl, congrArg Value.bool (by clear hde hres; (try rw [show decide ((A[k].ty.length : Int) = (B[k].ty.length : Int)) = decide (A[k].ty.length = B[k].ty.length) from dec_iff (by omega)]); generalize decide (A[k].name = B[k].name) = x at *; generalize decide (A[k].at_ = B[k].at_) = y at *; first | (revert g42 g52; cases x <;> cases y <;> simp; done) | (revert g42; cases x <;> cases y <;> simp; done)), rfl⟩)
          · skip
            refine WL.g rfl (g52) rfl (o_fa 2 TI40 rfl TI38 rfl rfl ?_)
            refine WL.g rfl (g52) rfl (o_ld TI38 rfl rfl (cell_of hC8 rfl) ?_)
            refine WL.g rfl (g52) rfl (o_lenR TI38 rfl hty ?_)
            refine WL.g rfl (g52) rfl (o_fa 2 TI40 rfl TI38 rfl rfl ?_)
            refine WL.g rfl (g52) rfl (o_ld TI38 rfl rfl (cell_of hC9 rfl) ?_)
            refine WL.g rfl (g52) rfl (o_lenR TI38 rfl hty2 ?_)
            refine WL.g rfl (g52) rfl (o_ne rfl rfl ?_)
            refine WL.c rfl (o_pickO rfl rfl ?_)
            exact WL.nil (⟨h2, h3, h4, h7, rfl, rfl, congrArg Value.bool (by clear hde hres; (try rw [show decide ((A[k].ty.length : Int) = (B[k].ty.length : Int)) = decide (A[k].ty.length = B[k].ty.length) from dec_iff (by omega)]); generalize decide (A[k].name = B[k].name) = x at *; generalize decide (A[k].at_ = B[k].at_) = y at *; first | (revert g42 g52; cases x <;> cases y <;> simp; done) | (revert g42; cases x <;> cases y <;> simp; done)), rfl⟩)
      rintro e w ⟨h2, h3, h4, h7, h8, h9, h60, rfl⟩
      refine W.cond h60 (fun c60 => ?_) (fun c60 => ?_)
      · try simp only [decide_eq_true_eq, decide_eq_false_iff_not, Bool.not_eq_true', Bool.not_eq_false', Bool.and_eq_true, Bool.or_eq_true, Bool.and_eq_false_iff, Bool.or_eq_false_iff] at c60
        refine W.seq ?_
        refine W.region ?_
        refine WL.c rfl (o_ash (show _ = Value.bool _ from rfl) ?_)
        refine WL.nil ?_
        refine W.ret ?_
        refine ret1v rfl (show _ = Value.bool _ from rfl) ?_
        exact ⟨congrArg Value.bool (by rw [hres]; exact (decide_eq_false (fun h => by obtain ⟨a1, a2, a3, -⟩ := hde.1 h; simp [a1, a2, a3] at c60)).symm), hx⟩
      · try simp only [decide_eq_true_eq, decide_eq_false_iff_not, Bool.not_eq_true', Bool.not_eq_false', Bool.and_eq_true, Bool.or_eq_true, Bool.and_eq_false_iff, Bool.or_eq_false_iff] at c60
        have hq : A[k].name = B[k].name ∧ A[k].at_ = B[k].at_ ∧ A[k].ty.length = B[k].ty.length := by simpa [and_assoc] using c60
        obtain ⟨q1, q2, q3⟩ := hq
        have hres2 : decide (A = B) = decide (A[k].ty.drop 0 = B[k].ty.drop 0 ∧ A.drop (k + 1) = B.drop (k + 1)) := by rw [hres]; exact dec_iff (hde.trans (by simp [q1, q2]))
        refine W.skip ?_
        refine W.seq ?_
        refine W.region ?_
        refine WL.c rfl (o_ash (show _ = Value.int _ _ from rfl) ?_)
        refine WL.nil ?_
        refine W.block ?_
        refine W.loop (fun e w => ∃ j : Nat, j ≤ A[k].ty.length ∧ e 2 = .bool true ∧ e 3 = .pointer (some ⟨c3, 0, none⟩) ∧ e 4 = .pointer (some ⟨c4, 0, none⟩) ∧ e 7 = .int .i64 (k : Int) ∧ e 8 = .pointer (some ⟨c8, 0, none⟩) ∧ e 9 = .pointer (some ⟨c9, 0, none⟩) ∧ e 10 = .int .i64 (j : Int) ∧ w.heap[c3]? = some (.cells #[Value.slice (some ⟨tb, to_, none⟩) A.length tc] 28 (0, 0)) ∧ w.heap[c4]? = some (.cells #[Value.slice (some ⟨tb2, to2, none⟩) B.length tc2] 28 (0, 0)) ∧ w.heap[c8]? = some (.cells (dcell A[k] (V1 k)).toArray 40 (0, 0)) ∧ w.heap[c9]? = some (.cells (dcell B[k] (V2 k)).toArray 40 (0, 0)) ∧ DefR w A (Value.slice (some ⟨tb, to_, none⟩) A.length tc) V1 ∧ DefR w B (Value.slice (some ⟨tb2, to2, none⟩) B.length tc2) V2 ∧ Sl w 7 (V1 k) A[k].ty.length (exs A[k].ty) ∧ Sl w 7 (V2 k) B[k].ty.length (exs B[k].ty) ∧ decide (A = B) = decide (A[k].ty.drop j = B[k].ty.drop j ∧ A.drop (k + 1) = B.drop (k + 1)) ∧ Ext w0 w) (fun e w => A[k].ty.length - (intOf (e 10)).toNat) ?_ ?_
        · exact ⟨0, Nat.zero_le _, h2, h3, h4, h7, h8, h9, rfl, hC3, hC4, hC8, hC9, hA, hB, hty, hty2, hres2, hx⟩
        rintro e w ⟨j, hj, h2, h3, h4, h7, h8, h9, h10, hC3, hC4, hC8, hC9, hA, hB, hty, hty2, hres2, hx⟩
        have hm10 := h10
        refine W.seq ?_
        refine W.seq ?_
        refine W.region ?_
        refine WL.c rfl (o_mvh h10 ?_)
        refine WL.c rfl (o_fa 2 TI40 rfl TI38 rfl h8 ?_)
        refine WL.c rfl (o_ld TI38 rfl rfl (cell_of hC8 rfl) ?_)
        refine WL.c rfl (o_lenR TI38 rfl hty ?_)
        refine WL.c rfl (o_lt rfl rfl ?_)
        refine WL.nil ?_
        refine W.cond rfl (fun c65 => ?_) (fun c65 => ?_)
        · try simp only [decide_eq_true_eq, decide_eq_false_iff_not, Bool.not_eq_true', Bool.not_eq_false', Bool.and_eq_true, Bool.or_eq_true, Bool.and_eq_false_iff, Bool.or_eq_false_iff] at c65
          have hj1 : j < A[k].ty.length := by omega
          have hj2 : j < B[k].ty.length := by omega
          have hdj := drop_eqE hj1 hj2
          obtain ⟨ub, uo, uc, hV1, huc⟩ := Sl.exq hty hj1
          obtain ⟨ub2, uo2, uc2, hV2, huc2⟩ := Sl.exq hty2 hj2
          refine W.skip ?_
          refine W.seq ?_
          refine W.block ?_
          refine W.seq ?_
          refine W.region ?_
          refine WL.c rfl (o_fa 2 TI40 rfl TI38 rfl h8 ?_)
          refine WL.c rfl (o_ld TI38 rfl rfl (cell_of hC8 rfl) ?_)
          refine WL.c rfl (o_mvh h10 ?_)
          refine WL.c rfl (o_ixB (i := j) TI38 TI30 (show _ = _ from hV1) rfl (by omega) ?_)
          refine WL.c rfl (o_ldA TI30 rfl rfl huc rfl ?_)
          refine WL.c rfl (o_alB TI30 ?_)
          intro wa hCa hxa hsa
          refine WL.u (o_stA TI30 rfl (show _ = Value.agg (exV A[k].ty[j]).toArray from rfl) rfl rfl hCa rfl ?_)
          intro wb11 hC11 hob hsb
          have hxb := Ext.own hxa (Nat.le_refl _) hob
          clear hCa hxa hsa hob hsb
          replace hC3 := hxb.blk hC3 (fun h => h)
          replace hC4 := hxb.blk hC4 (fun h => h)
          replace hC8 := hxb.blk hC8 (fun h => h)
          replace hC9 := hxb.blk hC9 (fun h => h)
          replace hA := hA.ext hxb
          replace hB := hB.ext hxb
          replace hty := hty.ext hxb
          replace hty2 := hty2.ext hxb
          replace hx := hx.tr hxb
          replace huc2 := Cells.only huc2 hxb (fun h => h)
          obtain ⟨c11, hc11⟩ : ∃ c, c = w.heap.size := ⟨_, rfl⟩
          rw [← hc11] at hC11 ⊢
          clear hxb
          refine WL.nil ?_
          refine W.seq ?_
          refine W.region ?_
          refine WL.c rfl (o_fa 2 TI40 rfl TI38 rfl h9 ?_)
          refine WL.c rfl (o_ld TI38 rfl rfl (cell_of hC9 rfl) ?_)
          refine WL.c rfl (o_mvh h10 ?_)
          refine WL.c rfl (o_ixB (i := j) TI38 TI30 (show _ = _ from hV2) rfl (by omega) ?_)
          refine WL.c rfl (o_ldA TI30 rfl rfl huc2 rfl ?_)
          refine WL.c rfl (o_alB TI30 ?_)
          intro wa hCa hxa hsa
          refine WL.u (o_stA TI30 rfl (show _ = Value.agg (exV B[k].ty[j]).toArray from rfl) rfl rfl hCa rfl ?_)
          intro wb12 hC12 hob hsb
          have hxb := Ext.own hxa (Nat.le_refl _) hob
          clear hCa hxa hsa hob hsb
          replace hC3 := hxb.blk hC3 (fun h => h)
          replace hC4 := hxb.blk hC4 (fun h => h)
          replace hC8 := hxb.blk hC8 (fun h => h)
          replace hC9 := hxb.blk hC9 (fun h => h)
          replace hC11 := hxb.blk hC11 (fun h => h)
          replace hA := hA.ext hxb
          replace hB := hB.ext hxb
          replace hty := hty.ext hxb
          replace hty2 := hty2.ext hxb
          replace hx := hx.tr hxb
          obtain ⟨c12, hc12⟩ : ∃ c, c = wb11.heap.size := ⟨_, rfl⟩
          rw [← hc12] at hC12 ⊢
          clear hxb
          refine WL.nil ?_
          refine W.seq ?_
          refine W.seq ?_
          refine W.region ?_
          refine WL.c rfl (o_mvh h2 ?_)
          refine WL.c rfl (o_not' rfl ?_)
          refine WL.nil ?_
          refine W.condF' rfl (rfl) ?_
          refine W.skip ?_
          refine W.seq ?_
          refine W.region ?_
          refine WL.c rfl (o_ldA TI30 rfl rfl (show Cells _ c11 0 (exV A[k].ty[j]) from Cells.of hC11 0 _ (by simp)) rfl ?_)
          refine WL.c rfl (o_ldA TI30 rfl rfl (show Cells _ c12 0 (exV B[k].ty[j]) from Cells.of hC12 0 _ (by simp)) rfl ?_)
          refine WL.c rfl (o_neR TI30 (by kernel_rfl) (by kernel_rfl) rfl rfl (.int TI3 (by decide) rfl rfl (.int TI3 (by decide) rfl rfl (.str TI9 (by decide) rfl rfl (.str TI9 (by decide) rfl rfl (.int TI3 (by decide) rfl rfl (.int TI3 (by decide) rfl rfl (.int TI3 (by decide) rfl rfl .nil))))))) ?_)
          refine WL.nil ?_
          refine W.cond rfl (fun c84 => ?_) (fun c84 => ?_)
          · try simp only [decide_eq_true_eq, decide_eq_false_iff_not, Bool.not_eq_true', Bool.not_eq_false', Bool.and_eq_true, Bool.or_eq_true, Bool.and_eq_false_iff, Bool.or_eq_false_iff] at c84
            refine W.seq ?_
            refine W.region ?_
            refine WL.c rfl (o_ash (show _ = Value.bool _ from rfl) ?_)
            refine WL.nil ?_
            refine W.ret ?_
            refine ret1v rfl (show _ = Value.bool _ from rfl) ?_
            exact ⟨congrArg Value.bool (by rw [hres2]; exact (decide_eq_false (fun h => by have he := (hdj.1 h.1).1; simp [he] at c84)).symm), hx⟩
          · try simp only [decide_eq_true_eq, decide_eq_false_iff_not, Bool.not_eq_true', Bool.not_eq_false', Bool.and_eq_true, Bool.or_eq_true, Bool.and_eq_false_iff, Bool.or_eq_false_iff] at c84
            have heq : A[k].ty[j] = B[k].ty[j] := by simp at c84; obtain ⟨a1, a2, a3, a4, a5, a6, a7⟩ := c84; exact ex_ext a1 a2 a3 a4 a5 a6 a7
            refine W.skip ?_
            refine W.region ?_
            refine WL.c rfl (o_mvh h10 ?_)
            refine WL.c rfl (o_addi rfl rfl (by omega) ?_)
            refine WL.c rfl (o_ash (show _ = Value.int _ _ from rfl) ?_)
            refine WL.nil ?_
            refine ⟨⟨j + 1, by omega, h2, h3, h4, h7, h8, h9, rfl, hC3, hC4, hC8, hC9, hA, hB, hty, hty2, ?_, hx⟩, ?_⟩
            · rw [hres2]; exact dec_iff (by rw [hdj, and_assoc]; exact ⟨fun h => h.2, fun h => ⟨heq, h⟩⟩)
            · show A[k].ty.length - ((j : Int) + 1).toNat < _
              rw [hm10]; simp [intOf]; omega
        · try simp only [decide_eq_true_eq, decide_eq_false_iff_not, Bool.not_eq_true', Bool.not_eq_false', Bool.and_eq_true, Bool.or_eq_true, Bool.and_eq_false_iff, Bool.or_eq_false_iff] at c65
          have hj1 : j = A[k].ty.length := by omega
          have hjl : A[k].ty.drop j = [] := by rw [hj1, List.drop_length]
          have hjl2 : B[k].ty.drop j = [] := by rw [hj1, q3, List.drop_length]
          refine W.exit ?_
          refine W.region ?_
          refine WL.c rfl (o_mvh h7 ?_)
          refine WL.c rfl (o_addi rfl rfl (by omega) ?_)
          refine WL.c rfl (o_ash (show _ = Value.int _ _ from rfl) ?_)
          refine WL.nil ?_
          refine ⟨⟨k + 1, by omega, h2, h3, h4, rfl, hC3, hC4, hA, hB, ?_, hx⟩, ?_⟩
          · rw [hres2]; exact dec_iff (by rw [hjl, hjl2]; simp)
          · show A.length - ((k : Int) + 1).toNat < _
            rw [hm7]; simp [intOf]; omega
    · try simp only [decide_eq_true_eq, decide_eq_false_iff_not, Bool.not_eq_true', Bool.not_eq_false', Bool.and_eq_true, Bool.or_eq_true, Bool.and_eq_false_iff, Bool.or_eq_false_iff] at c24
      have hk1 : k = A.length := by omega
      rw [hk1, List.drop_length, hn, List.drop_length] at hres
      refine W.exit ?_
      refine W.seq ?_
      refine W.region ?_
      refine WL.c rfl (o_ash (show _ = Value.bool _ from rfl) ?_)
      refine WL.nil ?_
      refine W.ret ?_
      refine ret1v rfl (show _ = Value.bool _ from rfl) ?_
      exact ⟨congrArg Value.bool (by rw [hres]; simp), hx⟩
end Go.Proofs.Ytcljkkfpcomdcaa

set_option linter.unusedSimpArgs false
set_option linter.unusedVariables false
set_option maxRecDepth 100000
namespace Go.Proofs.Ytcljkkfpcomdcaa
open Go Go.Vc Go.RowKit Go.Proofs

/-- one element less -/
def shr : Value → Value
  | .slice a n c => .slice a (n - 1) c
  | v => v
theorem shr_blk (v : Value) : (shr v).ownBlock = v.ownBlock := by
  cases v with
  | slice a n c => cases a <;> rfl
  | _ => rfl
theorem own_shr {w : World} {base : Nat} {el : TypeId} {s n : Nat} {v : Value} {xs ys : List Value} (h : w.ownsRow base el s v (n + 1) (xs ++ ys)) (hl : xs.length = n * s) : w.ownsRow base el s (shr v) n xs := by
  obtain ⟨g, cap, rfl, hb⟩ := own_some h (by omega)
  have := own_take h (m := n) (by omega)
  rw [List.take_left' hl] at this
  exact this
def exK : Ex := ⟨-77, 0, [], [], 0, 0, 0⟩
def markD : List Value := [st [109, 97, 114, 107], .int .i64 (-78), .slice none 0 0]
def drowsK (D : List Df) (V : Nat → Value) (k : Nat) : List Value := (List.range k).flatMap fun j => dcell (D.getD j df0) (V j)
theorem drowsK_succ (D : List Df) (V : Nat → Value) {k : Nat} (v : Value) : drowsK D (fun j => if j = k then v else V j) (k + 1) = drowsK D V k ++ dcell (D.getD k df0) v := by
  rw [drowsK, List.range_succ, List.flatMap_append, List.flatMap_singleton, if_pos rfl]
  congr 1
  refine dfm_congr fun j hj => ?_
  have hj := List.mem_range.1 hj
  rw [if_neg (by omega)]
theorem drows_len (D : List Df) (V : Nat → Value) : (drows D V).length = D.length * 3 := by
  rw [drows]
  have : ∀ l : List Nat, (l.flatMap fun j => dcell (D.getD j df0) (V j)).length = l.length * 3 := by
    intro l
    induction l with
    | nil => rfl
    | cons a l ih => rw [List.flatMap_cons, List.length_append, ih, dcell_len, List.length_cons]; omega
  rw [this, List.length_range]
/-- sizes that a machine can hold -/
structure DOk (D : List Df) : Prop where
  len : D.length * 48 ≤ 140737488351232
  ty : ∀ d ∈ D, d.ty.length * 72 ≤ 140737488351232
  nm : ∀ d ∈ D, d.name.length ≤ 9223372036854775807
  ex : ∀ d ∈ D, ∀ x ∈ d.ty, x.name.length ≤ 9223372036854775807 ∧ x.label.length ≤ 9223372036854775807
abbrev lenM (D : List Df) (j : Nat) : Nat := (tyD D j).length + 1
abbrev rowM (D : List Df) (j : Nat) : List Value := exs (tyD D j) ++ exV exK
/-- definitions in rows of our own, a mark behind each -/
structure Lent (w : World) (H : Nat) (D : List Df) (gv : Value) (W : Nat → Value) : Prop where
  row : w.ownsRow H 40 3 gv (D.length + 1) (drows D (fun j => shr (W j)) ++ markD)
  tys : Many w H 30 7 D.length W (lenM D) (rowM D)
theorem Lent.defs {w : World} {H : Nat} {D : List Df} {gv : Value} {W : Nat → Value} (h : Lent w H D gv W) : Defs w H D (shr gv) (fun j => shr (W j)) :=
  ⟨own_shr h.row (drows_len _ _), ⟨fun j hj => own_shr (h.tys.row j hj) (exs_len _), fun i j hi hj hij k hk => by rw [shr_blk] at hk ⊢; exact h.tys.off i j hi hj hij k hk⟩⟩
theorem Lent.only {w w' : World} {H : Nat} {D : List Df} {gv : Value} {W : Nat → Value} {F : Nat → Prop} (h : Lent w H D gv W) (ho : Only F w w') (hn : ∀ k, DF gv W D.length k → ¬ F k) : Lent w' H D gv W :=
  ⟨own_only h.row ho (fun k hk => hn k (.inl hk)), h.tys.only ho (fun j hj k hk => hn k (.inr ⟨j, hj, hk⟩))⟩
theorem Lent.ext {w w' : World} {H : Nat} {D : List Df} {gv : Value} {W : Nat → Value} (h : Lent w H D gv W) (ho : Ext w w') : Lent w' H D gv W := h.only ho (fun _ _ h => h)
theorem Lent.lt {w : World} {H : Nat} {D : List Df} {gv : Value} {W : Nat → Value} (h : Lent w H D gv W) : ∀ k, DF gv W D.length k → H ≤ k ∧ k < w.heap.size := fun k hk => by
  rcases hk with hk | ⟨j, hj, hk⟩
  · exact h.row.lt k hk
  · exact h.tys.lt hj hk
theorem one_exs (L : List Ex) : ∀ a ∈ exs L, a.oneCell' = true := by
  intro a ha
  obtain ⟨x, -, hx⟩ := List.mem_flatMap.1 ha
  have : ∀ a ∈ exV x, a.oneCell' = true := by simp [exV, Value.oneCell', st]
  exact this a hx
theorem lent_snoc {w : World} {H : Nat} {D : List Df} {k m : Nat} {W : Nat → Value} {v : Value} (h : Many w H 30 7 k W (lenM D) (rowM D)) (hr : w.ownsRow m 30 7 v (lenM D k) (rowM D k)) (hm : H ≤ m) (hlt : ∀ j, j < k → ∀ b, (W j).ownBlock = some b → b < m) : Many w H 30 7 (k + 1) (fun j => if j = k then v else W j) (lenM D) (rowM D) := Many.snocG h hr hm hlt rfl rfl

set_option maxHeartbeats 2000000 in
theorem lent_spec (D : List Df) (dv : Value) (V : Nat → Value) (w0 : World) (hD0 : DefR w0 D dv V) (hlim : DOk D) : Ca Try.prog 13 #[.agg #[dv]] w0 (fun r w' => ∃ gv U, r = .agg #[shr gv] ∧ Lent w' w0.heap.size D gv U ∧ Ext w0 w') := by
  obtain ⟨BB, hBB⟩ : ∃ B, B = w0.heap.size := ⟨_, rfl⟩
  rw [← hBB]
  have hlen := hlim.len
  refine Ca.of Try.func13 Try.ntmps13 rfl rfl ?_
  refine W.seq ?_
  refine W.region ?_
  refine WL.c rfl (o_boxB rfl ?_)
  intro w1 hC1 hx1 hs1
  have hx := hx1
  replace hC1 : w1.heap[w0.heap.size]? = some (.cells #[dv] 28 (0, 0)) := hC1
  obtain ⟨c1, hc1⟩ : ∃ c, c = w0.heap.size := ⟨_, rfl⟩
  rw [← hc1] at hC1 ⊢
  refine WL.c rfl (o_alB TI28 ?_)
  intro w2 hC2 hx2 hs2
  replace hx := hx.tr hx2
  replace hC1 := hx2.blk hC1 (fun h => h)
  replace hC2 : w2.heap[w1.heap.size]? = some (.cells #[.slice none 0 0] 28 (0, 0)) := hC2
  obtain ⟨c2, hc2⟩ : ∃ c, c = w1.heap.size := ⟨_, rfl⟩
  rw [← hc2] at hC2 ⊢
  refine WL.nil ?_
  refine W.seq ?_
  refine W.region ?_
  refine WL.c rfl (o_alB TI28 ?_)
  intro w3 hC3 hx3 hs3
  replace hx := hx.tr hx3
  replace hC1 := hx3.blk hC1 (fun h => h)
  replace hC2 := hx3.blk hC2 (fun h => h)
  replace hC3 : w3.heap[w2.heap.size]? = some (.cells #[.slice none 0 0] 28 (0, 0)) := hC3
  obtain ⟨c3, hc3⟩ : ∃ c, c = w2.heap.size := ⟨_, rfl⟩
  rw [← hc3] at hC3 ⊢
  have hB1 : BB ≤ c1 := by omega
  have hB2 : BB ≤ c2 := by omega
  have hB3 : BB ≤ c3 := by omega
  have hc12 : ¬ c1 = c2 := by omega
  have hc13 : ¬ c1 = c3 := by omega
  have hc23 : ¬ c2 = c3 := by omega
  refine WL.nil ?_
  refine W.seq ?_
  refine W.seq ?_
  refine W.region ?_
  refine WL.c rfl (o_ash (show _ = Value.int _ _ from rfl) ?_)
  refine WL.nil ?_
  refine W.block ?_
  refine W.loop (fun e w => ∃ (k : Nat) (gv : Value) (U : Nat → Value), k ≤ D.length ∧ e 1 = .pointer (some ⟨c1, 0, none⟩) ∧ e 2 = .pointer (some ⟨c2, 0, none⟩) ∧ e 3 = .pointer (some ⟨c3, 0, none⟩) ∧ e 4 = .int .i64 (k : Int) ∧ w.heap[c1]? = some (.cells #[dv] 28 (0, 0)) ∧ w.heap[c2]? = some (.cells #[.slice none 0 0] 28 (0, 0)) ∧ w.heap[c3]? = some (.cells #[gv] 28 (0, 0)) ∧ w.ownsRow BB 40 3 gv k (drowsK D (fun j => shr (U j)) k) ∧ Many w BB 30 7 k U (lenM D) (rowM D) ∧ Ext w0 w) (fun e w => D.length - (intOf (e 4)).toNat) ?_ ?_
  · exact ⟨0, .slice none 0 0, fun _ => undef, Nat.zero_le _, rfl, rfl, rfl, rfl, hC1, hC2, hC3, World.ownsRow_nil _ _ _ _, Many.zero, hx⟩
  rintro e w ⟨k, gv, U, hk, h1, h2, h3, h4, hC1, hC2, hC3, hrow, htys, hx⟩
  have hm4 := h4
  have hxs := hx.size
  refine W.seq ?_
  refine W.seq ?_
  refine W.region ?_
  refine WL.c rfl (o_mvh h4 ?_)
  refine WL.c rfl (o_fa 0 TI28 rfl TI26 rfl h1 ?_)
  refine WL.c rfl (o_ld TI26 rfl rfl (cell_of hC1 rfl) ?_)
  refine WL.c rfl (o_lenR TI26 rfl (hD0.ext hx).row ?_)
  refine WL.c rfl (o_lt rfl rfl ?_)
  refine WL.nil ?_
  refine W.cond rfl (fun c10 => ?_) (fun c10 => ?_)
  · try simp only [decide_eq_true_eq, decide_eq_false_iff_not, Bool.not_eq_true', Bool.not_eq_false', Bool.and_eq_true, Bool.or_eq_true, Bool.and_eq_false_iff, Bool.or_eq_false_iff] at c10
    have hk1 : k < D.length := by omega
    obtain ⟨tb, to_, tc, rfl, htc, hty⟩ := (hD0.ext hx).atk hk1
    have htl := hlim.ty _ (List.getElem_mem hk1)
    refine W.skip ?_
    refine W.seq ?_
    refine W.block ?_
    refine W.seq ?_
    refine W.region ?_
    refine WL.c rfl (o_ash (by first | exact (show _ = Value.slice _ _ _ from rfl) | exact rfl) ?_)
    refine WL.nil ?_
    refine W.seq ?_
    refine W.region ?_
    refine WL.c rfl (o_mvh (by first | exact (show _ = Value.slice _ _ _ from rfl) | exact rfl) ?_)
    refine WL.c rfl (o_fa 0 TI28 rfl TI26 rfl h1 ?_)
    refine WL.c rfl (o_ld TI26 rfl rfl (cell_of hC1 rfl) ?_)
    refine WL.c rfl (o_mvh h4 ?_)
    refine WL.c rfl (o_ixB TI26 TI40 rfl rfl (by omega) ?_)
    refine WL.c rfl (o_fa 2 TI40 rfl TI38 rfl rfl ?_)
    refine WL.c rfl (o_ld TI38 rfl rfl (htc 2 _ rfl) ?_)
    refine WL.c rfl (o_apO (w.heap.size) TI38 TI30 rfl rfl (World.ownsRow_nil _ _ _ _) hty rfl (by decide) (one_exs _) (by rw [maxLen_eq]; omega) (by omega) (Nat.le_refl _) ?_)
    intro v20 w20 hown20 ho20 hb20 hk20
    rw [Nat.zero_add, List.nil_append] at hown20
    have hx20 : Ext w w20 := ho20.mono (fun j _ h => by cases h)
    clear ho20 hb20 hk20
    replace hC1 := hx20.blk hC1 (fun h => h)
    replace hC2 := hx20.blk hC2 (fun h => h)
    replace hC3 := hx20.blk hC3 (fun h => h)
    have hrow20 := own_ext hrow hx20
    have htys20 := htys.ext hx20
    replace hx := hx.tr hx20
    have hs20 := hx20.size
    refine WL.c rfl (o_ash (by first | exact (show _ = Value.slice _ _ _ from rfl) | exact rfl) ?_)
    refine WL.nil ?_
    refine W.seq ?_
    refine W.region ?_
    refine WL.c rfl (o_mvh (by first | exact (show _ = Value.slice _ _ _ from rfl) | exact rfl) ?_)
    refine WL.c rfl (o_bldC (cs := [(.int .i64 (-77)), (.int .i64 0), (.string ⟨#[]⟩), (.string ⟨#[]⟩), (.int .i64 0), (.int .i64 0), (.int .i64 0)]) TI30 (Sizes.cons TI3 (Sizes.cons TI3 (Sizes.cons TI9 (Sizes.cons TI9 (Sizes.cons TI3 (Sizes.cons TI3 (Sizes.cons TI3 Sizes.nil))))))) rfl (lcp (show _ = Value.int _ _ from rfl) lnp) rfl rfl ?_)
    refine WL.apO (w.heap.size) rfl rfl TI38 TI30 (show _ = Value.agg (exV exK).toArray from rfl) (show _ = v20 from rfl) hown20 (by decide) (by decide) rfl (fun a ha => List.all_eq_true.1 (show List.all _ (fun a => a.oneCell') = true from rfl) a ha) rfl (by rw [maxLen_eq]; omega) (by omega) hs20 ?_
    intro v24 w24 hown24 ho24 hb24 _
    replace hown24 : w24.ownsRow w.heap.size 30 7 v24 (D[k].ty.length + 1) (exs D[k].ty ++ exV exK) := hown24
    replace ho24 : Only (fun k => v20.ownBlock = some k) w20 w24 := ho24
    have hlt20 : ∀ b, v20.ownBlock = some b → w.heap.size ≤ b := fun b hb => (hown20.lt b hb).1
    have hc1l := (Array.getElem?_eq_some_iff.1 hC1).1
    replace hC1 := ho24.blk hC1 (fun he => own_off hown20 hC1 (by decide) he)
    replace hC2 := ho24.blk hC2 (fun he => own_off hown20 hC2 (by decide) he)
    replace hC3 := ho24.blk hC3 (fun he => own_off hown20 hC3 (by decide) he)
    replace hrow := own_only hrow20 ho24 (fun b hb hF => by have := hlt20 b hF; have := (hrow.lt b hb).2; omega)
    have htl2 : ∀ j, j < k → ∀ b, (U j).ownBlock = some b → b < w.heap.size := fun j hj b hb => (htys.lt hj hb).2
    replace htys := htys20.only ho24 (fun j hj b hb hF => by have := hlt20 b hF; have := htl2 j hj b hb; omega)
    replace hx := hx.trans' ho24 (fun _ h => h) (fun b hb he => by have := hlt20 b he; omega)
    have hs24 := hx.size
    have hs25 := ho24.size
    obtain ⟨g, cap, rfl, hgb⟩ := own_some hown24 (by omega)
    refine WL.c rfl (o_ash (by first | exact (show _ = Value.slice _ _ _ from rfl) | exact rfl) ?_)
    refine WL.nil ?_
    obtain ⟨wd, hwd⟩ : ∃ wd, wd = w24.drew := ⟨_, rfl⟩
    have hxd : Ext w24 wd := hwd ▸ Only.drew w24
    replace hx := hx.tr hxd
    replace hown24 := own_ext hown24 hxd
    replace hC1 := hxd.blk hC1 (fun h => h)
    replace hC2 := hxd.blk hC2 (fun h => h)
    replace hC3 := hxd.blk hC3 (fun h => h)
    replace hrow := own_ext hrow hxd
    replace htys := htys.ext hxd
    obtain ⟨_, _, _, hvd, htcd, -⟩ := (hD0.ext hx).atk hk1
    cases hvd
    refine W.drawT 21 (Ext) [(1, fun v _ => v = _), (2, fun v _ => v = _), (3, fun v _ => v = _), (4, fun v _ => v = _), (5, fun v _ => v = _)] rfl (by kernel_rfl) (Only.refl No) (fun _ _ _ h k => h.trans k) ⟨Mono.eq, Mono.eq, Mono.eq, Mono.eq, Mono.eq, trivial⟩ ⟨h1, h2, h3, h4, rfl, trivial⟩ ?_
    refine WD.p rfl (fun e w hR hh => by obtain ⟨h3, -⟩ := hh; exact SG.n (o_fa 0 TI28 rfl TI26 rfl h3 ⟨rfl, Only.refl No _⟩)) ?_
    refine WD.p rfl (fun e w hR hh => by obtain ⟨h25, -⟩ := hh; rw [← hwd] at hR; exact SG.n (o_ld TI26 rfl h25 (cell_of (hR.blk hC3 (fun h => h)) rfl) ⟨rfl, Only.refl No _⟩)) ?_
    refine WD.p rfl (fun e w hR hh => by obtain ⟨h1, -⟩ := hh; exact SG.n (o_fa 0 TI28 rfl TI26 rfl h1 ⟨rfl, Only.refl No _⟩)) ?_
    refine WD.p rfl (fun e w hR hh => by obtain ⟨h27, -⟩ := hh; rw [← hwd] at hR; exact SG.n (o_ld TI26 rfl h27 (cell_of (hR.blk hC1 (fun h => h)) rfl) ⟨rfl, Only.refl No _⟩)) ?_
    refine WD.p rfl (fun e w hR hh => by obtain ⟨h4, -⟩ := hh; exact SG.n (o_mvh h4 ⟨rfl, Only.refl No _⟩)) ?_
    refine WD.p rfl (fun e w hR hh => by obtain ⟨h29, h28, -⟩ := hh; exact SG.n (o_ixB TI26 TI40 h28 h29 (by omega) ⟨rfl, Only.refl No _⟩)) ?_
    refine WD.p rfl (fun e w hR hh => by obtain ⟨h30, -⟩ := hh; exact SG.n (o_fa 0 TI40 rfl TI9 rfl h30 ⟨rfl, Only.refl No _⟩)) ?_
    refine WD.p rfl (fun e w hR hh => by obtain ⟨h31, -⟩ := hh; rw [← hwd] at hR; exact SG.n (o_ld TI9 rfl h31 (Cells.only htcd hR (fun h => h) 0 _ rfl) ⟨rfl, Only.refl No _⟩)) ?_
    refine WD.p rfl (fun e w hR hh => by obtain ⟨h1, -⟩ := hh; exact SG.n (o_fa 0 TI28 rfl TI26 rfl h1 ⟨rfl, Only.refl No _⟩)) ?_
    refine WD.p rfl (fun e w hR hh => by obtain ⟨h33, -⟩ := hh; rw [← hwd] at hR; exact SG.n (o_ld TI26 rfl h33 (cell_of (hR.blk hC1 (fun h => h)) rfl) ⟨rfl, Only.refl No _⟩)) ?_
    refine WD.p rfl (fun e w hR hh => by obtain ⟨h4, -⟩ := hh; exact SG.n (o_mvh h4 ⟨rfl, Only.refl No _⟩)) ?_
    refine WD.p rfl (fun e w hR hh => by obtain ⟨h35, h34, -⟩ := hh; exact SG.n (o_ixB TI26 TI40 h34 h35 (by omega) ⟨rfl, Only.refl No _⟩)) ?_
    refine WD.p rfl (fun e w hR hh => by obtain ⟨h36, -⟩ := hh; exact SG.n (o_fa 1 TI40 rfl TI3 rfl h36 ⟨rfl, Only.refl No _⟩)) ?_
    refine WD.p rfl (fun e w hR hh => by obtain ⟨h37, -⟩ := hh; rw [← hwd] at hR; exact SG.n (o_ld TI3 rfl h37 (Cells.only htcd hR (fun h => h) 1 _ rfl) ⟨rfl, Only.refl No _⟩)) ?_
    refine WD.p rfl (fun e w hR hh => by obtain ⟨h5, -⟩ := hh; exact SG.n (o_mvh h5 ⟨rfl, Only.refl No _⟩)) ?_
    refine WD.p rfl (fun e w hR hh => by obtain ⟨h5, -⟩ := hh; exact SG.n (o_mvh h5 ⟨rfl, Only.refl No _⟩)) ?_
    refine WD.p rfl (fun e w hR hh => by obtain ⟨h40, -⟩ := hh; exact SG.n (o_len TI38 h40 ⟨rfl, Only.refl No _⟩)) ?_
    refine WD.p rfl (fun e w hR hh => by obtain ⟨h41, -⟩ := hh; exact SG.n (o_subi h41 rfl (by omega) ⟨rfl, Only.refl No _⟩)) ?_
    refine WD.p rfl (fun e w hR hh => by obtain ⟨h42, h39, -⟩ := hh; exact SG.n (o_slv (h := D[k].ty.length) TI38 TI30 h39 Lo.n (Hi.s (h42.trans (by congr 1; omega))) (Nat.zero_le _) (by obtain ⟨_, _, hv, hh⟩ := own_form hown24; cases hv; omega) ⟨sliced0 _ _ _ _, Only.refl No _⟩)) ?_
    refine WD.p rfl (fun e w hR hh => by obtain ⟨h43, h38, h32, -⟩ := hh; exact SG.n (o_bldC (cs := [_, _, _]) TI40 (Sizes.cons TI9 (Sizes.cons TI3 (Sizes.cons TI38 Sizes.nil))) rfl (lcp h32 (lcp h38 (lcp h43 lnp))) rfl rfl ⟨rfl, Only.refl No _⟩)) ?_
    refine WD.q (fun u w => w.ownsRow wd.heap.size 40 3 u 1 (dcell D[k] (.slice (some ⟨g, 0, none⟩) D[k].ty.length cap))) (fun u w w2 hR hh => own_ext hh hR) rfl (fun e w hR hh => by obtain ⟨h44, -⟩ := hh; rw [← hwd] at hR; exact SG.n (o_bs1 TI26 TI40 h44 (by decide) (by decide) rfl ⟨own_mono (own_new1 rfl) hR.size, Only.alloc w _⟩)) ?_
    rintro e w hR ⟨h45, h44, h43, h42, h41, h40, h39, h38, h37, h36, h35, h34, h33, h32, h31, h30, h29, h28, h27, h26, h25, h1, h2, h3, h4, h5, -⟩
    rw [← hwd] at hR
    replace hx := hx.tr hR
    replace hown24 := own_ext hown24 hR
    replace hC1 := hR.blk hC1 (fun h => h)
    replace hC2 := hR.blk hC2 (fun h => h)
    replace hC3 := hR.blk hC3 (fun h => h)
    replace hrow := own_ext hrow hR
    replace htys := htys.ext hR
    refine WL.c rfl (o_apO (BB) TI26 TI40 h26 rfl hrow (Sl.own h45) rfl (by decide) (by simp [dcell, Value.oneCell', st]) (by rw [maxLen_eq]; omega) (by omega) (by rw [hBB]; exact hx.size) ?_)
    intro v46 w46 hrow46 ho46 hb46 _
    have hrl : ∀ b, gv.ownBlock = some b → BB ≤ b := fun b hb => (hrow.lt b hb).1
    replace hC1 := ho46.blk hC1 (fun he => own_off hrow hC1 (by decide) he)
    replace hC2 := ho46.blk hC2 (fun he => own_off hrow hC2 (by decide) he)
    replace hC3 := ho46.blk hC3 (fun he => own_off hrow hC3 (by decide) he)
    have htys2 := htys.other hrow (by decide) ho46
    replace hown24 := own_only hown24 ho46 (fun b hb hF => own_row_off hrow hown24 (by decide) b hb hF)
    replace hx := hx.trans' ho46 (fun _ h => h) (fun b hb he => by have := hrl b he; omega)
    have htys3 := lent_snoc (D := D) htys2 (by rw [lenM, rowM, tyD_at hk1]; exact hown24) (by omega) htl2
    refine WL.c rfl (o_fa 0 TI28 rfl TI26 rfl h3 ?_)
    refine WL.u (o_stB TI26 rfl (show _ = v46 from rfl) (own_one hrow46) hC3 (show 0 < 1 by decide) ?_)
    intro w47 hC3' ho47 hs47
    replace hrow46 := own_only hrow46 ho47 (fun b hb he => by subst he; exact own_off hrow46 hC3 (by decide) hb)
    have hC3q := hC3
    replace hC3 : w47.heap[c3]? = some (.cells #[v46] 28 (0, 0)) := hC3'
    replace hC1 := ho47.blk hC1 hc13
    replace hC2 := ho47.blk hC2 hc23
    replace htys3 := htys3.only ho47 (fun j hj b hb he => by subst he; exact own_off (htys3.row j hj) hC3q (by decide) hb)
    replace hx := hx.trans' ho47 (fun _ h => h) (fun b hb he => by omega)
    refine WL.nil ?_
    refine W.region ?_
    refine WL.c rfl (o_mvh h4 ?_)
    refine WL.c rfl (o_addi rfl rfl (by omega) ?_)
    refine WL.c rfl (o_ash (show _ = Value.int _ _ from rfl) ?_)
    refine WL.nil ?_
    refine ⟨⟨k + 1, v46, fun j => if j = k then (.slice (some ⟨g, 0, none⟩) (D[k].ty.length + 1) cap) else U j, by omega, h1, h2, h3, rfl, hC1, hC2, hC3, ?_, htys3, hx⟩, ?_⟩
    · rw [show (fun j => shr (if j = k then (.slice (some ⟨g, 0, none⟩) (D[k].ty.length + 1) cap) else U j)) = (fun j => if j = k then shr (.slice (some ⟨g, 0, none⟩) (D[k].ty.length + 1) cap) else (fun j => shr (U j)) j) from by funext j; split <;> rfl, drowsK_succ, getD_at hk1]
      exact hrow46
    · show D.length - ((k : Int) + 1).toNat < _
      rw [hm4]; simp [intOf]; omega
  · try simp only [decide_eq_true_eq, decide_eq_false_iff_not, Bool.not_eq_true', Bool.not_eq_false', Bool.and_eq_true, Bool.or_eq_true, Bool.and_eq_false_iff, Bool.or_eq_false_iff] at c10
    have hk1 : k = D.length := by omega
    subst hk1
    refine W.exit ?_
    refine W.seq ?_
    refine W.region ?_
    refine WL.c rfl (o_fa 0 TI28 rfl TI26 rfl h3 ?_)
    refine WL.c rfl (o_ld TI26 rfl rfl (cell_of hC3 rfl) ?_)
    refine WL.c rfl (o_bldC (cs := [(st [109, 97, 114, 107]), (.int .i64 (-78)), (.slice none 0 0)]) TI40 (Sizes.cons TI9 (Sizes.cons TI3 (Sizes.cons TI38 Sizes.nil))) rfl (lcp (show _ = Value.string _ from rfl) (lcp (show _ = Value.int _ _ from rfl) lnp)) rfl rfl ?_)
    refine WL.apO (BB) rfl rfl TI26 TI40 (show _ = Value.agg #[st [109, 97, 114, 107], .int .i64 (-78), .slice none 0 0] from rfl) rfl hrow (by decide) (by decide) rfl (fun a ha => List.all_eq_true.1 (show List.all _ (fun a => a.oneCell') = true from rfl) a ha) rfl (by rw [maxLen_eq]; omega) (by omega) (by rw [hBB]; exact hx.size) ?_
    intro v52 w52 hrow52 ho52 hb52 _
    replace hrow52 : w52.ownsRow BB 40 3 v52 (D.length + 1) (drows D (fun j => shr (U j)) ++ markD) := hrow52
    replace ho52 : Only (fun k => gv.ownBlock = some k) w w52 := ho52
    have hrl : ∀ b, gv.ownBlock = some b → BB ≤ b := fun b hb => (hrow.lt b hb).1
    replace hC1 := ho52.blk hC1 (fun he => own_off hrow hC1 (by decide) he)
    replace hC2 := ho52.blk hC2 (fun he => own_off hrow hC2 (by decide) he)
    replace hC3 := ho52.blk hC3 (fun he => own_off hrow hC3 (by decide) he)
    replace htys := htys.other hrow (by decide) ho52
    replace hx := hx.trans' ho52 (fun _ h => h) (fun b hb he => by have := hrl b he; omega)
    refine WL.c rfl (o_fa 0 TI28 rfl TI26 rfl h3 ?_)
    refine WL.u (o_stB TI26 rfl (show _ = v52 from rfl) (own_one hrow52) hC3 (show 0 < 1 by decide) ?_)
    intro w53 hC3' ho53 hs53
    replace hrow52 := own_only hrow52 ho53 (fun b hb he => by subst he; exact own_off hrow52 hC3 (by decide) hb)
    replace htys := htys.only ho53 (fun j hj b hb he => by subst he; exact own_off (htys.row j hj) hC3 (by decide) hb)
    replace hC3 : w53.heap[c3]? = some (.cells #[v52] 28 (0, 0)) := hC3'
    replace hC1 := ho53.blk hC1 hc13
    replace hC2 := ho53.blk hC2 hc23
    replace hx := hx.trans' ho53 (fun _ h => h) (fun b hb he => by omega)
    obtain ⟨g, cap, rfl, hgb⟩ := own_some hrow52 (by omega)
    refine WL.nil ?_
    refine W.seq ?_
    refine W.region ?_
    refine WL.c rfl (o_fa 0 TI28 rfl TI26 rfl h3 ?_)
    refine WL.c rfl (o_ld TI26 rfl rfl (cell_of hC3 rfl) ?_)
    refine WL.c rfl (o_fa 0 TI28 rfl TI26 rfl h1 ?_)
    refine WL.c rfl (o_ld TI26 rfl rfl (cell_of hC1 rfl) ?_)
    refine WL.c rfl (o_lenR TI26 rfl (hD0.ext hx).row ?_)
    refine WL.c rfl (o_slv (h := D.length) TI26 TI40 rfl Lo.n (Hi.s rfl) (Nat.zero_le _) (by obtain ⟨_, _, hv, hh⟩ := own_form hrow52; cases hv; omega) ?_)
    rw [sliced0]
    refine WL.c rfl (o_fa 0 TI28 rfl TI26 rfl h3 ?_)
    refine WL.u (o_stB TI26 rfl (show _ = Value.slice (some ⟨g, 0, none⟩) D.length cap from rfl) rfl hC3 (show 0 < 1 by decide) ?_)
    intro w60 hC3' ho60 hs60
    replace hrow52 := own_only hrow52 ho60 (fun b hb he => by subst he; exact own_off hrow52 hC3 (by decide) hb)
    replace htys := htys.only ho60 (fun j hj b hb he => by subst he; exact own_off (htys.row j hj) hC3 (by decide) hb)
    replace hC3 : w60.heap[c3]? = some (.cells #[.slice (some ⟨g, 0, none⟩) D.length cap] 28 (0, 0)) := hC3'
    replace hC1 := ho60.blk hC1 hc13
    replace hC2 := ho60.blk hC2 hc23
    replace hx := hx.trans' ho60 (fun _ h => h) (fun b hb he => by omega)
    refine WL.nil ?_
    refine W.seq ?_
    refine W.region ?_
    refine WL.c rfl (o_ldA TI28 rfl h3 (show Cells _ c3 0 [.slice (some ⟨g, 0, none⟩) D.length cap] from Cells.of hC3 0 _ (by simp)) rfl ?_)
    refine WL.u (o_stA TI28 h2 (show _ = Value.agg #[.slice (some ⟨g, 0, none⟩) D.length cap] from rfl) rfl rfl hC2 rfl ?_)
    intro w62 hC2' ho62 hs62
    replace hrow52 := own_only hrow52 ho62 (fun b hb he => by subst he; exact own_off hrow52 hC2 (by decide) hb)
    replace htys := htys.only ho62 (fun j hj b hb he => by subst he; exact own_off (htys.row j hj) hC2 (by decide) hb)
    replace hC2 : w62.heap[c2]? = some (.cells #[.slice (some ⟨g, 0, none⟩) D.length cap] 28 (0, 0)) := hC2'
    replace hx := hx.trans' ho62 (fun _ h => h) (fun b hb he => by omega)
    refine WL.nil ?_
    refine W.ret ?_
    refine retC rfl TI28 rfl h2 ((show Cells _ c2 0 [.slice (some ⟨g, 0, none⟩) D.length cap] from Cells.of hC2 0 _ (by simp))) rfl ?_
    exact ⟨_, U, rfl, ⟨hrow52, htys⟩, hx⟩
end Go.Proofs.Ytcljkkfpcomdcaa

set_option linter.unusedSimpArgs false
set_option linter.unusedVariables false
namespace Go.Vc
open Go Go.RowKit Go.ChangeShapes Go.WideShapes

/-- its weights are within reach -/
def Small {H : Type} (P : Program) (t : TypeId) (d : DataW H) : Prop := ∀ n ∈ d.weights P t, n ≤ reachBytes
theorem Small.size {H : Type} {P : Program} {t e : TypeId} {elems spare : List (DataW H)} (h : Small P t (.slice elems spare)) (hu : P.underlying t = some (.slice e)) : (elems.length + spare.length) * P.bytesOf e ≤ reachBytes :=
  h _ (by simp only [DataW.weights, hu]; exact List.mem_cons_self ..)
theorem Small.part {H : Type} {P : Program} {t u : TypeId} {fs : Array Field} {parts : List (DataW H)} {i : Nat} {d : DataW H} (h : Small P t (.agg parts)) (hu : P.underlying t = some (.struct fs)) (hf : (fs.toList.map (·.type))[i]? = some u) (hd : parts[i]? = some d) : Small P u d := fun n hn =>
  h n (by simp only [DataW.weights, hu]; exact DataW.weights_mem_each hf hd n hn)
section
variable {H : Type} {enc : TypeId × Value → H} {P : Program} {W : World} {held : Bool}
end
end Go.Vc

set_option linter.unusedSimpArgs false
set_option linter.unusedVariables false
set_option maxRecDepth 100000
namespace Go.Proofs.Ytcljkkfpcomdcaa
open Go Go.Vc Go.RowKit Go.Proofs

def ExOk (x : Ex) : Prop := x.name.length ≤ 9223372036854775807 ∧ x.label.length ≤ 9223372036854775807
section
variable {H : Type} {enc : TypeId × Value → H} {W : World} {held : Bool}
end
def setE (D : List Df) (d n : Nat) (x : Ex) : List Df := D.set d { D.getD d df0 with ty := (tyD D d).set n x }
theorem setE_len (D : List Df) (d n : Nat) (x : Ex) : (setE D d n x).length = D.length := by rw [setE, List.length_set]
theorem setE_at {D : List Df} {d n : Nat} {x : Ex} (j : Nat) : (setE D d n x).getD j df0 = if j = d ∧ d < D.length then { D.getD d df0 with ty := (tyD D d).set n x } else D.getD j df0 := by
  rw [setE, List.getD_eq_getElem?_getD, List.getElem?_set]
  by_cases h : d = j
  · subst h
    by_cases h2 : d < D.length
    · simp [h2]
    · simp [h2, List.getD_eq_getElem?_getD]
  · rw [if_neg h, if_neg (fun hh => h hh.1.symm), List.getD_eq_getElem?_getD]
theorem Defs.setE {w w' : World} {H : Nat} {D : List Df} {lv : Value} {V : Nat → Value} (h : Defs w H D lv V) {d n : Nat} {x : Ex} (hd : d < D.length) (ho : Only (fun k => (V d).ownBlock = some k) w w')
    (hr : w'.ownsRow H 30 7 (V d) (tyD D d).length (exs ((tyD D d).set n x))) : Defs w' H (setE D d n x) lv V := by
  have hrows : drows (Go.Proofs.Ytcljkkfpcomdcaa.setE D d n x) V = drows D V := by
    rw [drows, drows, setE_len]
    refine dfm_congr fun j hj => ?_
    rw [setE_at]
    split
    · rename_i hh; rw [hh.1]; rfl
    · rfl
  refine ⟨by rw [hrows, setE_len]; exact own_only h.row ho (fun k hk hF => own_row_off h.row (h.tys.row d hd) (by decide) k hF hk), ?_⟩
  rw [setE_len]
  refine (h.tys.set hd ho hr).congr (fun _ _ => rfl) (fun j hj => ?_) (fun j hj => ?_)
  · rw [tyD, setE_at]
    by_cases e : j = d
    · rw [if_pos ⟨e, hd⟩, if_pos e, List.length_set]
    · rw [if_neg (fun hh => e hh.1), if_neg e]; rfl
  · rw [tyD, setE_at]
    by_cases e : j = d
    · rw [if_pos ⟨e, hd⟩, if_pos e]
    · rw [if_neg (fun hh => e hh.1), if_neg e]; rfl
theorem DOk.setE {D : List Df} {d n : Nat} {x : Ex} (h : DOk D) (hx : ExOk x) : DOk (setE D d n x) := by
  have hm : ∀ e ∈ Go.Proofs.Ytcljkkfpcomdcaa.setE D d n x, e ∈ D ∨ (d < D.length ∧ e = { D.getD d df0 with ty := (tyD D d).set n x }) := by
    intro e he
    by_cases hd : d < D.length
    · rcases List.mem_or_eq_of_mem_set he with h1 | h1
      · exact .inl h1
      · exact .inr ⟨hd, h1⟩
    · rw [Go.Proofs.Ytcljkkfpcomdcaa.setE, List.set_eq_of_length_le (by omega)] at he
      exact .inl he
  have hmem : d < D.length → D.getD d df0 ∈ D := fun hd => by rw [getD_at hd]; exact List.getElem_mem hd
  refine ⟨by rw [setE_len]; exact h.len, fun e he => ?_, fun e he => ?_, fun e he y hy => ?_⟩
  · rcases hm e he with h1 | ⟨hd, rfl⟩
    · exact h.ty e h1
    · show ((tyD D d).set n x).length * 72 ≤ _
      rw [List.length_set]; exact h.ty _ (hmem hd)
  · rcases hm e he with h1 | ⟨hd, rfl⟩
    · exact h.nm e h1
    · exact h.nm (D.getD d df0) (hmem hd)
  · rcases hm e he with h1 | ⟨hd, rfl⟩
    · exact h.ex e h1 y hy
    · rcases List.mem_or_eq_of_mem_set hy with h2 | rfl
      · exact h.ex (D.getD d df0) (hmem hd) y h2
      · exact hx

end Go.Proofs.Ytcljkkfpcomdcaa

set_option linter.unusedSimpArgs false
set_option linter.unusedVariables false
set_option maxRecDepth 100000
namespace Go.Proofs.Ytcljkkfpcomdcaa
open Go Go.Vc Go.RowKit Go.Proofs

/-- definitions whose places rise -/
def RiD (T : List Tk) : Int → List Df → Prop
  | _, [] => True
  | lo, d :: ds => lo ≤ d.at_ ∧ 0 ≤ d.at_ ∧ d.at_ < T.length ∧ (tkA T d.at_.toNat).kind = 1 ∧ (tkA T d.at_.toNat).text = d.name ∧ (∃ hi : Int, hi ≤ T.length ∧ Rise (d.at_ + 1) d.ty hi ∧ RiD T hi ds) ∧ ∀ y ∈ d.ty, NdOk T y
theorem RiD.lo {T : List Tk} {a b : Int} {D : List Df} (h : RiD T b D) (hab : a ≤ b) : RiD T a D := by
  cases D with
  | nil => trivial
  | cons d ds => exact ⟨Int.le_trans hab h.1, h.2⟩
/-- lengths -/
theorem Rise.len {L : List Ex} : ∀ {a b : Int}, Rise a L b → (L.length : Int) ≤ b - a := by
  induction L with
  | nil => intro a b h; have : a ≤ b := h; simp; omega
  | cons y l ih => intro a b h; have h1 := ih h.2; have h2 := h.1; rw [List.length_cons]; omega
theorem px_lim {T : List Tk} {B : Nat} (hT : ∀ i, (tkA T i).text.length ≤ B) {r : Option (Bool × Nat)} {deep i : Nat} {x : Ex} {N : List Ex} {n j : Nat} (h : PX T r deep i x N n j) : x.name.length ≤ B → x.label.length ≤ B → ∀ y ∈ N, y.name.length ≤ B ∧ y.label.length ≤ B := by
  have ha : ∀ {i x}, (atE i x).name = x.name ∧ (atE i x).label = x.label := fun {i x} => by unfold atE; split <;> exact ⟨rfl, rfl⟩
  have hh : ∀ {u i}, (hdE T u i).name.length ≤ B ∧ (hdE T u i).label.length ≤ B := fun {u i} => by
    cases u
    · exact ⟨Nat.zero_le _, hT i⟩
    · exact ⟨Nat.zero_le _, Nat.zero_le _⟩
  induction h with
  | leaf => intro h1 h2 y hy; rw [List.mem_singleton] at hy; subst hy; exact ⟨by show (atE _ _).name.length ≤ B; rw [ha.1]; exact h1, by show (atE _ _).label.length ≤ B; rw [ha.2]; exact h2⟩
  | nm => intro h1 h2 y hy; rw [List.mem_singleton] at hy; subst hy; exact ⟨hT _, by show (atE _ _).label.length ≤ B; rw [ha.2]; exact h2⟩
  | vec hb hd hl hv h1 hN h2 h3 h4 ih =>
    intro g1 g2 y hy
    rcases List.mem_cons.1 hy with rfl | hy
    · exact ⟨by show (atE _ _).name.length ≤ B; rw [ha.1]; exact g1, by show (atE _ _).label.length ≤ B; rw [ha.2]; exact g2⟩
    · exact ih (Nat.zero_le _) (Nat.zero_le _) y hy
  | opt hb hd hl ho h1 hN h2 ih =>
    intro g1 g2 y hy
    rcases List.mem_cons.1 hy with rfl | hy
    · exact ⟨by show (atE _ _).name.length ≤ B; rw [ha.1]; exact g1, by show (atE _ _).label.length ≤ B; rw [ha.2]; exact g2⟩
    · exact ih (Nat.zero_le _) (Nat.zero_le _) y hy
  | br u hb hd hl hw h1 hM ih =>
    intro g1 g2 y hy
    rcases List.mem_cons.1 hy with rfl | hy
    · exact ⟨by show (atE _ _).name.length ≤ B; rw [ha.1]; exact g1, by show (atE _ _).label.length ≤ B; rw [ha.2]; exact g2⟩
    · exact ih (Nat.zero_le _) (Nat.zero_le _) y hy
  | last hk hd hc hN hm hr ih => intro _ _; exact ih hh.1 hh.2
  | more hk hd hc hN hm hR ih1 ih2 =>
    intro _ _ y hy
    rcases List.mem_append.1 hy with hy | hy
    · exact ih1 hh.1 hh.2 y hy
    · exact ih2 (Nat.zero_le _) (Nat.zero_le _) y hy
theorem pd_lim {T : List Tk} {B : Nat} (hT : ∀ i, (tkA T i).text.length ≤ B) {i k : Nat} {D : List Df} (h : PD T i k D) : ∀ d ∈ D, d.name.length ≤ B ∧ d.ty.length ≤ T.length ∧ ∀ y ∈ d.ty, y.name.length ≤ B ∧ y.label.length ≤ B := by
  induction h with
  | nil => intro d hd; cases hd
  | @cons i k j N D hk h0 h1 h2 hN h3 hD ih =>
    intro d hd
    rcases List.mem_cons.1 hd with rfl | hd
    · obtain ⟨q1, q2, q3⟩ := px_rise hN
      obtain ⟨r1, r2⟩ := q3 (.inl ⟨by decide, rfl⟩)
      rw [if_pos (by decide)] at r1
      have := r1.len
      exact ⟨hT _, by show N.length ≤ _; omega, px_lim hT hN (Nat.zero_le _) (Nat.zero_le _)⟩
    · exact ih d hd
/-- what Parse answers is of a size that a machine can hold -/
theorem parse_ok (xs : List UInt8) : DOk (parseA xs).1 := by
  rcases parse_cases xs with ⟨-, h⟩ | ⟨-, D, hp, h⟩
  · rw [h]
    exact ⟨by decide, fun d hd => (by cases hd), fun d hd => (by cases hd), fun d hd => (by cases hd)⟩
  · have hc := cutA_len xs
    have hT : ∀ i, (tkA (cutA xs).1 i).text.length ≤ 65536 := fun i => by
      by_cases hi : i < (cutA xs).1.length
      · rw [tkA_lt hi]; exact hc.2 _ (List.getElem_mem hi)
      · rw [tkA_ge (by omega)]; exact Nat.zero_le _
    have hl := pd_lim hT hp
    have hn := (pd_chk (cut_small xs) hp).2
    rw [h]
    refine ⟨by rw [List.length_map]; omega, ?_, ?_, ?_⟩
    · intro d hd
      obtain ⟨d0, h0, rfl⟩ := List.mem_map.1 hd
      have := (hl d0 h0).2.1
      show (d0.ty.map _).length * 72 ≤ _
      rw [List.length_map]; omega
    · intro d hd
      obtain ⟨d0, h0, rfl⟩ := List.mem_map.1 hd
      have := (hl d0 h0).1
      show d0.name.length ≤ _
      omega
    · intro d hd x hx
      obtain ⟨d0, h0, rfl⟩ := List.mem_map.1 hd
      obtain ⟨x0, hx0, rfl⟩ := List.mem_map.1 (show x ∈ d0.ty.map _ from hx)
      have := (hl d0 h0).2.2 x0 hx0
      rw [name_pl, label_pl]
      omega
end Go.Proofs.Ytcljkkfpcomdcaa

set_option linter.unusedSimpArgs false
set_option linter.unusedVariables false
set_option maxRecDepth 100000
namespace Go.Proofs.Ytcljkkfpcomdcaa
open Go Go.Vc Go.RowKit Go.Proofs
/-- the same, further behind -/
def shiftT (k : Nat) (t : Tk) : Tk := ⟨t.kind, t.text, t.n, k + t.at_, k + t.fin⟩
theorem runL_shift (p : UInt8 → Bool) (xs : List UInt8) (k j : Nat) : runL p xs (k + j) = k + runL p (xs.drop k) j := by
  unfold runL
  rw [List.drop_drop]; omega
theorem sub_shift (xs : List UInt8) (k l h : Nat) : sub xs (k + l) (k + h) = sub (xs.drop k) l h := by
  unfold sub
  rw [← List.drop_drop, List.drop_take, Nat.add_sub_cancel_left]
theorem oneL_shift (xs : List UInt8) (k j : Nat) (h : k + j < xs.length) (h' : j < (xs.drop k).length) : (oneL xs (k + j) h).1 = (oneL (xs.drop k) j h').1 ∧ ((oneL (xs.drop k) j h').1 = 0 → (oneL xs (k + j) h).2 = shiftT k (oneL (xs.drop k) j h').2) := by
  have he : (xs.drop k)[j] = xs[k + j] := by simp
  unfold oneL
  rw [he]
  by_cases h1 : letB xs[k + j] = true
  · rw [if_pos h1, if_pos h1, runL_shift, sub_shift]
    by_cases h2 : 32 < k + runL goeB (xs.drop k) j - (k + j)
    · rw [if_pos h2, if_pos (by omega)]; exact ⟨rfl, fun h => by simp at h⟩
    · rw [if_neg h2, if_neg (by omega)]; exact ⟨rfl, fun _ => rfl⟩
  · rw [if_neg h1, if_neg h1]
    by_cases h2 : digB xs[k + j] = true
    · rw [if_pos h2, if_pos h2, runL_shift, sub_shift]; exact ⟨rfl, fun _ => rfl⟩
    · rw [if_neg h2, if_neg h2]
      by_cases h3 : markB xs[k + j] = true
      · rw [if_pos h3, if_pos h3, Nat.add_assoc, sub_shift]; exact ⟨rfl, fun _ => rfl⟩
      · rw [if_neg h3, if_neg h3]; exact ⟨rfl, fun h => by simp at h⟩


theorem ca_ok {xs : List UInt8} (hl : xs.length ≤ 65536) (h : (cutL xs 0).2.1 = 0) : cutA xs = cutL xs 0 := by unfold cutA; rw [if_neg (by omega), if_pos h]
theorem ca_bad {xs : List UInt8} (hl : xs.length ≤ 65536) (h : (cutL xs 0).2.1 ≠ 0) : cutA xs = ([], (cutL xs 0).2) := by unfold cutA; rw [if_neg (by omega), if_neg h]
def Pr.sh {α β : Type} (m : Nat) (g : α → β) : Pr α → Pr β
  | .ok a i => .ok (g a) (m + i)
  | .bad e i => .bad e (m + i)
theorem bind_sh {α α' β β' : Type} {m : Nat} {g : α → α'} {h : β → β'} {r : Pr α} {F : α → Nat → Pr β} {F' : α' → Nat → Pr β'} (hF : ∀ a i, r = .ok a i → F' (g a) (m + i) = (F a i).sh m h) : (r.sh m g).bind F' = (r.bind F).sh m h := by
  cases r with
  | ok a i => exact hF a i rfl
  | bad e i => rfl
/-- tokens that differ in places alone, from the m-th on -/
structure Like (m : Nat) (T T2 : List Tk) : Prop where
  len : T.length = m + T2.length
  tok : ∀ i, (tkA T (m + i)).kind = (tkA T2 i).kind ∧ (tkA T (m + i)).text = (tkA T2 i).text ∧ (tkA T (m + i)).n = (tkA T2 i).n
def shE (m : Nat) (x : Ex) : Ex := if x.at_ < 0 then x else { x with at_ := x.at_ + m }
theorem Like.eqT {m : Nat} {T T2 : List Tk} (h : Like m T T2) (i k : Nat) (s : List UInt8) : isT (tkA T (m + i)) k s = isT (tkA T2 i) k s := by
  unfold isT; rw [(h.tok i).1, (h.tok i).2.1]
theorem Like.eqN {m : Nat} {T T2 : List Tk} (h : Like m T T2) (i : Nat) : nmT (tkA T (m + i)) = nmT (tkA T2 i) := by
  unfold nmT; rw [(h.tok i).1, (h.tok i).2.1]
theorem Like.bgn {m : Nat} {T T2 : List Tk} (h : Like m T T2) (i : Nat) : bgnT (tkA T (m + i)) = bgnT (tkA T2 i) := by
  unfold bgnT; rw [(h.tok i).1, (h.tok i).2.1]
theorem Like.want {m : Nat} {T T2 : List Tk} (h : Like m T T2) (i k : Nat) (s : List UInt8) : wantT T (m + i) k s = (wantT T2 i k s).sh m id := by
  unfold wantT; rw [h.eqT]; split <;> rfl
theorem Like.num {m : Nat} {T T2 : List Tk} (h : Like m T T2) (i : Nat) : numT T (m + i) = (numT T2 i).sh m id := by
  unfold numT; rw [(h.tok i).1, (h.tok i).2.2]; split <;> rfl
theorem Like.name {m : Nat} {T T2 : List Tk} (h : Like m T T2) (i : Nat) : nameT T (m + i) = (nameT T2 i).sh m id := by
  unfold nameT; rw [h.eqN, (h.tok i).2.1]; split <;> rfl
theorem shE_0 {m i : Nat} {x : Ex} (h : x.at_ = (i : Int)) : shE m x = { x with at_ := ((m + i : Nat) : Int) } := by
  obtain ⟨k, n, nm, l, t, kd, a⟩ := x
  have h : a = (i : Int) := h
  have h2 : ¬ a < 0 := by omega
  simp only [shE, h2, if_false, Ex.mk.injEq, true_and]; omega
theorem shE_exM {m : Nat} : shE m exM = exM := rfl
theorem shE_atE {m i : Nat} {x : Ex} : atE (m + i) (shE m x) = shE m (atE i x) := by
  obtain ⟨k, n, nm, l, t, kd, a⟩ := x
  by_cases h : a < 0
  · have h2 : ¬ (i : Int) < 0 := by omega
    simp only [shE, atE, h, h2, if_true, if_false, Ex.mk.injEq, true_and]; omega
  · have h2 : ¬ a + (m : Int) < 0 := by omega
    simp only [shE, atE, h, h2, if_true, if_false]
theorem shE_lf {m : Nat} {x : Ex} {a b : Int} : (shE m x).lf a b = shE m (x.lf a b) := by unfold shE Ex.lf; split <;> rfl
theorem shE_vec {m : Nat} {x : Ex} {b : Bool} {n : Int} : (shE m x).vec b n = shE m (x.vec b n) := by
  obtain ⟨kd, n', nm, l, t, kk, a⟩ := x
  by_cases h : a < 0 <;> simp [shE, Ex.vec, h]
theorem shE_opt {m : Nat} {x : Ex} : (shE m x).opt = shE m x.opt := by unfold shE Ex.opt; split <;> rfl
theorem shE_br {m : Nat} {x : Ex} {u : Bool} {n : Int} : (shE m x).br u n = shE m (x.br u n) := by
  obtain ⟨kd, n', nm, l, t, kk, a⟩ := x
  by_cases h : a < 0 <;> simp [shE, Ex.br, h]
theorem shE_nm {m : Nat} {x : Ex} {s : List UInt8} : (shE m x).nm s = shE m (x.nm s) := by unfold shE Ex.nm; split <;> rfl
theorem Like.head {m : Nat} {T T2 : List Tk} (h : Like m T T2) (u full : Bool) (i : Nat) : headT T u full (m + i) { ex0 with at_ := ((m + i : Nat) : Int) } = (headT T2 u full i { ex0 with at_ := (i : Int) }).sh m (shE m) := by
  cases u
  · rw [headT_s, headT_s, h.eqN]
    split
    · rfl
    · rw [h.name]
      refine bind_sh fun a j hh => ?_
      show Pr.ok _ _ = Pr.ok _ _
      rw [shE_0 (i := i) rfl]; rfl
  · rw [headT_u, headT_u, (h.tok i).1]
    split
    · rfl
    · rw [h.num]
      refine bind_sh fun a j hh => ?_
      show Pr.ok _ _ = Pr.ok _ _
      rw [shE_0 (i := i) rfl]; rfl
theorem Like.rows {m : Nat} {T T2 : List Tk} (h : Like m T T2) {u : Bool} {i0 : Nat} {E E2 : Nat → Ex → Pr (List Ex)} (hE : ∀ i x, i0 ≤ i → i ≤ T2.length → E (m + i) (shE m x) = (E2 i x).sh m (List.map (shE m))) (hE2 : ∀ i x N j, E2 i x = .ok N j → i < j ∧ j ≤ T2.length) :
    ∀ (g g2 i k : Nat), i0 ≤ i → i ≤ T2.length → T2.length + 2 ≤ g + i → T2.length + 2 ≤ g2 + i → rowsT E T u g (m + i) k = (rowsT E2 T2 u g2 i k).sh m (fun r => (r.1.map (shE m), r.2))
  | 0, g2, i, k, h0, hi, hg, hg2 => by omega
  | g + 1, 0, i, k, h0, hi, hg, hg2 => by omega
  | g + 1, g2 + 1, i, k, h0, hi, hg, hg2 => by
    rw [rowsT_s, rowsT_s, h.head]
    refine bind_sh fun y i1 h1 => ?_
    obtain ⟨rfl, hi1⟩ := headT_le h1
    rw [h.want]
    refine bind_sh fun _ i2 h2 => ?_
    obtain ⟨rfl, hi2⟩ := wantT_le (by decide) h2
    rw [hE _ _ (by omega) (by omega)]
    refine bind_sh fun N j h3 => ?_
    obtain ⟨b1, b2⟩ := hE2 _ _ _ _ h3
    rw [h.eqT]
    split
    · rename_i hm
      have hm2 := isT_lt (by decide) hm
      rw [show m + j + 1 = m + (j + 1) by omega, Like.rows h hE hE2 g g2 (j + 1) (k + 1) (by omega) (by omega) (by omega) (by omega)]
      refine bind_sh fun r j2 h4 => ?_
      show Pr.ok (_, _) _ = Pr.ok (List.map _ (_ ++ _), _) _
      rw [List.map_append]
    · rw [h.want]
      exact bind_sh fun _ j2 h4 => rfl
theorem Like.expr {m : Nat} {T T2 : List Tk} (h : Like m T T2) : ∀ (f f2 i : Nat) (x : Ex) (deep : Nat), i ≤ T2.length → T2.length + 2 ≤ f + i → T2.length + 2 ≤ f2 + i → exprT T f (m + i) (shE m x) deep = (exprT T2 f2 i x deep).sh m (List.map (shE m))
  | 0, f2, i, x, deep, hi, hf, hf2 => by omega
  | f + 1, 0, i, x, deep, hi, hf, hf2 => by omega
  | f + 1, f2 + 1, i, x, deep, hi, hf, hf2 => by
    rw [exprT_s, exprT_s, h.bgn, (h.tok i).2.1]
    split
    · rfl
    · rename_i hb
      have hil : i < T2.length := tkA_kind (by decide) (bgn_kind (by simpa using hb))
      split
      · rfl
      · split
        · show Pr.ok _ _ = Pr.ok _ _
          rw [shE_atE, shE_lf]; rfl
        · split
          · rw [show m + i + 1 = m + (i + 1) by omega, h.want]
            refine bind_sh fun _ i1 h1 => ?_
            obtain ⟨rfl, hi1⟩ := wantT_le (by decide) h1
            rw [← shE_exM (m := m), Like.expr h f f2 _ _ _ (by omega) (by omega) (by omega)]
            refine bind_sh fun N i2 h2 => ?_
            obtain ⟨b1, b2⟩ := expr_lt h2
            rw [h.want]
            refine bind_sh fun _ i3 h3 => ?_
            rw [h.num]
            refine bind_sh fun n i4 h4 => ?_
            rw [h.want]
            refine bind_sh fun _ i5 h5 => ?_
            show Pr.ok _ _ = Pr.ok _ _
            rw [shE_atE, shE_vec]; rfl
          · split
            · rw [show m + i + 1 = m + (i + 1) by omega, h.want]
              refine bind_sh fun _ i1 h1 => ?_
              obtain ⟨rfl, hi1⟩ := wantT_le (by decide) h1
              rw [← shE_exM (m := m), Like.expr h f f2 _ _ _ (by omega) (by omega) (by omega)]
              refine bind_sh fun N i2 h2 => ?_
              rw [h.want]
              refine bind_sh fun _ i3 h3 => ?_
              show Pr.ok _ _ = Pr.ok _ _
              rw [shE_atE, shE_opt]; rfl
            · have hrow : ∀ (u : Bool), (((wantT T (m + i + 1) 3 [123]).bind fun _ j => rowsT (fun i x => exprT T f i x (deep + 1)) T u f j 0).bind fun r j => (.ok ((atE (m + i) (shE m x)).br u (r.2 : Nat) :: r.1) j : Pr (List Ex))) =
                  (((wantT T2 (i + 1) 3 [123]).bind fun _ j => rowsT (fun i x => exprT T2 f2 i x (deep + 1)) T2 u f2 j 0).bind fun r j => (.ok ((atE i x).br u (r.2 : Nat) :: r.1) j : Pr (List Ex))).sh m (List.map (shE m)) := by
                intro u
                rw [show m + i + 1 = m + (i + 1) by omega, h.want]
                have := bind_sh (m := m) (g := id) (h := fun r : List Ex × Nat => (r.1.map (shE m), r.2)) (r := wantT T2 (i + 1) 3 [123]) (F := fun _ j => rowsT (fun i x => exprT T2 f2 i x (deep + 1)) T2 u f2 j 0) (F' := fun _ j => rowsT (fun i x => exprT T f i x (deep + 1)) T u f j 0) (fun _ i1 h1 => by
                  obtain ⟨rfl, hi1⟩ := wantT_le (by decide) h1
                  exact Like.rows h (i0 := i + 1 + 1) (fun i x h0 hi => Like.expr h f f2 i x _ hi (by omega) (by omega)) (fun i x N j hh => expr_lt hh) f f2 _ _ (Nat.le_refl _) (by omega) (by omega) (by omega))
                rw [this]
                refine bind_sh fun r j h2 => ?_
                show Pr.ok _ _ = Pr.ok _ _
                rw [shE_atE, shE_br]; rfl
              split
              · exact hrow true
              · split
                · exact hrow false
                · show Pr.ok _ _ = Pr.ok _ _
                  rw [shE_atE, shE_nm]; rfl
def shD (m : Nat) (d : Df) : Df := ⟨d.name, d.at_ + m, d.ty.map (shE m)⟩
theorem Like.defs {m : Nat} {T T2 : List Tk} (h : Like m T T2) : ∀ (g g2 i k k2 : Nat), i ≤ T2.length → T2.length + 2 ≤ g + i → T2.length + 2 ≤ g2 + i → k2 ≤ k → k ≤ 256 → (∃ j, defsT T g (m + i) k = .bad 5 j ∧ ∀ D e, defsT T2 g2 i k2 = .ok D e → 256 < k + D.length) ∨ defsT T g (m + i) k = (defsT T2 g2 i k2).sh m (List.map (shD m))
  | 0, g2, i, k, k2, hi, hf, hf2, hk, hkm => by omega
  | g + 1, 0, i, k, k2, hi, hf, hf2, hk, hkm => by omega
  | g + 1, g2 + 1, i, k, k2, hi, hf, hf2, hk, hkm => by
    have hlen := h.len
    rw [defsT_s, defsT_s]
    by_cases hi2 : T2.length ≤ i
    · rw [if_pos (by omega), if_pos hi2]; exact .inr rfl
    · rw [if_neg (by omega), if_neg hi2, h.eqT]
      by_cases hnm : k = 256 ∧ isT (tkA T2 i) 1 [116, 121, 112, 101] = true
      · rw [if_pos hnm]
        refine .inl ⟨_, rfl, fun D e hD => ?_⟩
        split at hD
        · cases hD
        · obtain ⟨_, i1, h1, hD⟩ := bind_ok hD
          obtain ⟨_, i1, h1, hD⟩ := bind_ok hD
          obtain ⟨_, i1, h1, hD⟩ := bind_ok hD
          obtain ⟨_, i1, h1, hD⟩ := bind_ok hD
          obtain ⟨_, i1, h1, hD⟩ := bind_ok hD
          obtain ⟨_, i1, h1, hD⟩ := bind_ok hD
          cases hD
          rw [List.length_cons]; omega
      · rw [if_neg hnm, if_neg (fun hh => hnm ⟨by omega, hh.2⟩), h.want]
        rcases hw : wantT T2 i 1 [116, 121, 112, 101] with ⟨_, i1⟩ | ⟨e, j⟩
        · obtain ⟨rfl, hi1⟩ := wantT_le (by decide) hw
          simp only [Pr.sh, Pr.bind_ok]
          rw [show m + (i + 1) = m + (i + 1) from rfl, h.name]
          rcases hn : nameT T2 (i + 1) with ⟨sn, i2⟩ | ⟨e, j⟩
          · obtain ⟨g2', -, rfl⟩ := nameT_ok hn
            have hi2' : i + 1 < T2.length := by simp only [nmT, Bool.and_eq_true, decide_eq_true_eq] at g2'; exact tkA_kind (by decide) g2'.1
            simp only [Pr.sh, Pr.bind_ok]
            rw [h.want]
            rcases he : wantT T2 (i + 1 + 1) 3 [61] with ⟨_, i3⟩ | ⟨e, j⟩
            · obtain ⟨rfl, hi3⟩ := wantT_le (by decide) he
              simp only [Pr.sh, Pr.bind_ok]
              have hx := h.expr (T.length + 2) (T2.length + 2) (i + 1 + 1 + 1) exM 0 (by omega) (by omega) (by omega)
              rw [shE_exM] at hx
              rw [hx]
              rcases hN : exprT T2 (T2.length + 2) (i + 1 + 1 + 1) exM 0 with ⟨N, j⟩ | ⟨e, j⟩
              · obtain ⟨b1, b2⟩ := expr_lt hN
                simp only [Pr.sh, Pr.bind_ok]
                rw [h.want]
                rcases hs : wantT T2 j 3 [59] with ⟨_, i5⟩ | ⟨e, j⟩
                · obtain ⟨rfl, hi5⟩ := wantT_le (by decide) hs
                  simp only [Pr.sh, Pr.bind_ok]
                  rcases Like.defs h g g2 (j + 1) (k + 1) (k2 + 1) (by omega) (by omega) (by omega) (by omega) (by
                    rcases Nat.lt_or_ge k 256 with h7 | h7
                    · exact h7
                    · exact absurd ⟨by omega, (wantT_ok hw).1⟩ hnm) with ⟨q, hq, hbig⟩ | hq
                  · refine .inl ⟨q, by rw [hq]; rfl, fun D e hD => ?_⟩
                    obtain ⟨D', e', h6, hD⟩ := bind_ok hD
                    cases hD
                    have := hbig _ _ h6
                    rw [List.length_cons]; omega
                  · refine .inr ?_
                    rw [hq]
                    refine bind_sh fun D q hD => ?_
                    show Pr.ok (_ :: _) _ = Pr.ok (_ :: _) _
                    congr 2
                    simp only [shD, id, Df.mk.injEq, true_and, and_true]
                    omega
                · exact .inr rfl
              · exact .inr rfl
            · exact .inr rfl
          · exact .inr rfl
        · exact .inr rfl
theorem bind_pre {α β : Type} {n : Nat} {r r2 : Pr α} {F F2 : α → Nat → Pr β} (hne : ∀ e, r2.bind F2 ≠ .bad e n) (hr : (∀ e, r2 ≠ .bad e n) → r = r2) (hF : ∀ a j, r2 = .ok a j → (∀ e, F2 a j ≠ .bad e n) → F a j = F2 a j) : r.bind F = r2.bind F2 := by
  cases r2 with
  | ok a i => rw [hr (fun e h => by cases h)]; exact hF a i rfl hne
  | bad e i => rw [hr (fun e' h => hne e' (by injection h with h1 h2; rw [h1, h2]; rfl))]; rfl
theorem bind_pre2 {α β γ : Type} {n : Nat} {r r2 : Pr α} {F : α → Nat → Pr γ} {F2 : α → Nat → Pr β} {G : α → Nat → Pr γ} (hne : ∀ e, r2.bind F2 ≠ .bad e n) (hr : (∀ e, r2 ≠ .bad e n) → r = r2) (hF : ∀ a j, r2 = .ok a j → (∀ e, F2 a j ≠ .bad e n) → F a j = G a j) : r.bind F = r2.bind G := by
  cases r2 with
  | ok a i => rw [hr (fun e h => by cases h)]; exact hF a i rfl hne
  | bad e i => rw [hr (fun e' h => hne e' (by injection h with h1 h2; rw [h1, h2]; rfl))]; rfl
structure Pre (T T2 : List Tk) : Prop where
  le : T2.length ≤ T.length
  tok : ∀ i, i < T2.length → tkA T i = tkA T2 i
theorem Pre.want {T T2 : List Tk} (h : Pre T T2) {i k : Nat} {s : List UInt8} (hk : 1 ≤ k) (hi : i ≤ T2.length) (hne : ∀ e, wantT T2 i k s ≠ .bad e T2.length) : wantT T i k s = wantT T2 i k s := by
  rcases Nat.lt_or_ge i T2.length with hl | hl
  · unfold wantT; rw [h.tok i hl]
  · have : i = T2.length := by omega
    subst this
    refine absurd ?_ (hne 60)
    unfold wantT
    rw [if_neg (fun hh => by have := isT_lt hk hh; omega)]
theorem Pre.num {T T2 : List Tk} (h : Pre T T2) {i : Nat} (hi : i ≤ T2.length) (hne : ∀ e, numT T2 i ≠ .bad e T2.length) : numT T i = numT T2 i := by
  rcases Nat.lt_or_ge i T2.length with hl | hl
  · unfold numT; rw [h.tok i hl]
  · have : i = T2.length := by omega
    subst this
    refine absurd ?_ (hne 60)
    unfold numT
    rw [if_neg (fun hh => by have := tkA_kind (by decide) hh; omega)]
theorem nmT_lt {T : List Tk} {i : Nat} (h : nmT (tkA T i) = true) : i < T.length := by
  simp only [nmT, Bool.and_eq_true, decide_eq_true_eq] at h; exact tkA_kind (by decide) h.1
theorem Pre.name {T T2 : List Tk} (h : Pre T T2) {i : Nat} (hi : i ≤ T2.length) (hne : ∀ e, nameT T2 i ≠ .bad e T2.length) : nameT T i = nameT T2 i := by
  rcases Nat.lt_or_ge i T2.length with hl | hl
  · unfold nameT; rw [h.tok i hl]
  · have : i = T2.length := by omega
    subst this
    refine absurd ?_ (hne 60)
    unfold nameT
    rw [if_neg (fun hh => by have := nmT_lt hh; omega)]
theorem Pre.head {T T2 : List Tk} (h : Pre T T2) {u full : Bool} {i : Nat} {x : Ex} (hi : i ≤ T2.length) (hne : ∀ e, headT T2 u full i x ≠ .bad e T2.length) : headT T u full i x = headT T2 u full i x := by
  rcases Nat.lt_or_ge i T2.length with hl | hl
  · cases u
    · rw [headT_s, headT_s]; unfold nameT; rw [h.tok i hl]
    · rw [headT_u, headT_u]; unfold numT; rw [h.tok i hl]
  · have : i = T2.length := by omega
    subst this
    cases u
    · refine absurd ?_ (hne 60)
      rw [headT_s, if_neg (fun hh => by have := nmT_lt hh.2; omega)]
      unfold nameT
      rw [if_neg (fun hh => by have := nmT_lt hh; omega)]
      rfl
    · refine absurd ?_ (hne 60)
      rw [headT_u, if_neg (fun hh => by have := tkA_kind (by decide) hh.2; omega)]
      unfold numT
      rw [if_neg (fun hh => by have := tkA_kind (by decide) hh; omega)]
      rfl
theorem Pre.rows {T T2 : List Tk} (h : Pre T T2) {u : Bool} {i0 : Nat} {E E2 : Nat → Ex → Pr (List Ex)} (hE : ∀ i x, i0 ≤ i → i ≤ T2.length → (∀ e, E2 i x ≠ .bad e T2.length) → E i x = E2 i x) (hE2 : ∀ i x N j, E2 i x = .ok N j → i < j ∧ j ≤ T2.length) :
    ∀ (g g2 i k : Nat), i0 ≤ i → i ≤ T2.length → T.length + 2 ≤ g + i → T2.length + 2 ≤ g2 + i → (∀ e, rowsT E2 T2 u g2 i k ≠ .bad e T2.length) → rowsT E T u g i k = rowsT E2 T2 u g2 i k
  | 0, g2, i, k, h0, hi, hg, hg2, hne => by have := h.le; omega
  | g + 1, 0, i, k, h0, hi, hg, hg2, hne => by omega
  | g + 1, g2 + 1, i, k, h0, hi, hg, hg2, hne => by
    rw [rowsT_s] at hne
    rw [rowsT_s, rowsT_s]
    refine bind_pre hne (fun hn => h.head hi hn) fun y i1 h1 hne => ?_
    obtain ⟨rfl, hi1⟩ := headT_le h1
    refine bind_pre hne (fun hn => h.want (by decide) (by omega) hn) fun _ i2 h2 hne => ?_
    obtain ⟨rfl, hi2⟩ := wantT_le (by decide) h2
    refine bind_pre hne (fun hn => hE _ _ (by omega) (by omega) hn) fun N j h3 hne => ?_
    obtain ⟨b1, b2⟩ := hE2 _ _ _ _ h3
    have hjl : j < T2.length := by
      rcases Nat.lt_or_ge j T2.length with hl | hl
      · exact hl
      · exfalso
        have hj : j = T2.length := by omega
        subst hj
        have hf : ∀ {k s}, 1 ≤ k → ¬ isT (tkA T2 T2.length) k s = true := fun hk hh => by have := isT_lt hk hh; omega
        rw [if_neg (hf (by decide))] at hne
        refine hne 60 ?_
        unfold wantT
        rw [if_neg (hf (by decide))]
        rfl
    rw [h.tok j hjl]
    split
    · rename_i hm
      rw [if_pos hm] at hne
      exact bind_pre hne (fun hn => Pre.rows h hE hE2 g g2 (j + 1) (k + 1) (by omega) (by omega) (by omega) (by omega) hn) fun r j2 h4 hne => rfl
    · rename_i hm
      rw [if_neg hm] at hne
      exact bind_pre hne (fun hn => h.want (by decide) b2 hn) fun _ j2 h4 hne => rfl
theorem Pre.expr {T T2 : List Tk} (h : Pre T T2) : ∀ (f f2 i : Nat) (x : Ex) (deep : Nat), i ≤ T2.length → T.length + 2 ≤ f + i → T2.length + 2 ≤ f2 + i → (∀ e, exprT T2 f2 i x deep ≠ .bad e T2.length) → exprT T f i x deep = exprT T2 f2 i x deep
  | 0, f2, i, x, deep, hi, hf, hf2, hne => by have := h.le; omega
  | f + 1, 0, i, x, deep, hi, hf, hf2, hne => by omega
  | f + 1, f2 + 1, i, x, deep, hi, hf, hf2, hne => by
    rw [exprT_s] at hne
    rw [exprT_s, exprT_s]
    have hil : i < T2.length := by
      rcases Nat.lt_or_ge i T2.length with hl | hl
      · exact hl
      · exfalso
        have hj : i = T2.length := by omega
        subst hj
        refine hne 60 ?_
        rw [if_pos]
        cases hb : bgnT (tkA T2 T2.length) with
        | false => rfl
        | true => have := tkA_kind (T := T2) (by decide) (bgn_kind hb); omega
    rw [h.tok i hil]
    split
    · rfl
    · rename_i hb
      rw [if_neg hb] at hne
      split
      · rfl
      · rename_i hd
        rw [if_neg hd] at hne
        split
        · rfl
        · rename_i hl
          rw [hl] at hne
          simp only at hne
          split
          · rename_i hv
            rw [if_pos hv] at hne
            refine bind_pre hne (fun hn => h.want (by decide) (by omega) hn) fun _ i1 h1 hne => ?_
            obtain ⟨rfl, hi1⟩ := wantT_le (by decide) h1
            refine bind_pre hne (fun hn => Pre.expr h f f2 _ _ _ (by omega) (by omega) (by omega) hn) fun N i2 h2 hne => ?_
            obtain ⟨b1, b2⟩ := expr_lt h2
            refine bind_pre hne (fun hn => h.want (by decide) (by omega) hn) fun _ i3 h3 hne => ?_
            obtain ⟨rfl, hi3⟩ := wantT_le (by decide) h3
            refine bind_pre hne (fun hn => h.num (by omega) hn) fun n i4 h4 hne => ?_
            obtain ⟨g4, -, rfl⟩ := numT_ok h4
            have hi4 := tkA_kind (by decide) g4
            exact bind_pre hne (fun hn => h.want (by decide) (by omega) hn) fun _ i5 h5 hne => rfl
          · rename_i hv
            rw [if_neg hv] at hne
            split
            · rename_i ho
              rw [if_pos ho] at hne
              refine bind_pre hne (fun hn => h.want (by decide) (by omega) hn) fun _ i1 h1 hne => ?_
              obtain ⟨rfl, hi1⟩ := wantT_le (by decide) h1
              refine bind_pre hne (fun hn => Pre.expr h f f2 _ _ _ (by omega) (by omega) (by omega) hn) fun N i2 h2 hne => ?_
              obtain ⟨b1, b2⟩ := expr_lt h2
              exact bind_pre hne (fun hn => h.want (by decide) (by omega) hn) fun _ i3 h3 hne => rfl
            · rename_i ho
              rw [if_neg ho] at hne
              have hrow : ∀ (u : Bool), (∀ e, (((wantT T2 (i + 1) 3 [123]).bind fun _ j => rowsT (fun i x => exprT T2 f2 i x (deep + 1)) T2 u f2 j 0).bind fun r j => (.ok ((atE i x).br u (r.2 : Nat) :: r.1) j : Pr (List Ex))) ≠ .bad e T2.length) → (((wantT T (i + 1) 3 [123]).bind fun _ j => rowsT (fun i x => exprT T f i x (deep + 1)) T u f j 0).bind fun r j => (.ok ((atE i x).br u (r.2 : Nat) :: r.1) j : Pr (List Ex))) =
                  (((wantT T2 (i + 1) 3 [123]).bind fun _ j => rowsT (fun i x => exprT T2 f2 i x (deep + 1)) T2 u f2 j 0).bind fun r j => (.ok ((atE i x).br u (r.2 : Nat) :: r.1) j : Pr (List Ex))) := by
                intro u hne
                refine bind_pre hne (fun hn => ?_) fun r j h2 hne => rfl
                refine bind_pre hn (fun hn => h.want (by decide) (by omega) hn) fun _ i1 h1 hne => ?_
                obtain ⟨rfl, hi1⟩ := wantT_le (by decide) h1
                exact Pre.rows h (i0 := i + 1 + 1) (fun i x h0 hi hn => Pre.expr h f f2 i x _ hi (by omega) (by omega) hn) (fun i x N j hh => expr_lt hh) f f2 _ _ (Nat.le_refl _) (by omega) (by omega) (by omega) hne
              split
              · rename_i hu
                rw [if_pos hu] at hne
                exact hrow true hne
              · rename_i hu
                rw [if_neg hu] at hne
                split
                · rename_i hs
                  rw [if_pos hs] at hne
                  exact hrow false hne
                · rfl
theorem bind_congr' {α β : Type} {r : Pr α} {F F2 : α → Nat → Pr β} (hF : ∀ a j, r = .ok a j → F a j = F2 a j) : r.bind F = r.bind F2 := by
  cases r with
  | ok a i => exact hF a i rfl
  | bad e i => rfl
theorem defs_fuel {T : List Tk} : ∀ (g g2 i k : Nat), i ≤ T.length → T.length + 2 ≤ g + i → T.length + 2 ≤ g2 + i → defsT T g i k = defsT T g2 i k
  | 0, g2, i, k, hi, hg, hg2 => by omega
  | g + 1, 0, i, k, hi, hg, hg2 => by omega
  | g + 1, g2 + 1, i, k, hi, hg, hg2 => by
    rw [defsT_s, defsT_s]
    split
    · rfl
    · split
      · rfl
      · refine bind_congr' fun _ i1 h1 => ?_
        obtain ⟨rfl, hi1⟩ := wantT_le (by decide) h1
        refine bind_congr' fun s i2 h2 => ?_
        obtain ⟨g2', -, rfl⟩ := nameT_ok h2
        have := nmT_lt g2'
        refine bind_congr' fun _ i3 h3 => ?_
        obtain ⟨rfl, hi3⟩ := wantT_le (by decide) h3
        refine bind_congr' fun N j h4 => ?_
        obtain ⟨b1, b2⟩ := expr_lt h4
        refine bind_congr' fun _ i5 h5 => ?_
        obtain ⟨rfl, hi5⟩ := wantT_le (by decide) h5
        rw [defs_fuel g g2 (j + 1) (k + 1) (by omega) (by omega) (by omega)]
theorem Pr.bind_assoc {α β γ : Type} {r : Pr α} {F : α → Nat → Pr β} {G : β → Nat → Pr γ} : (r.bind F).bind G = r.bind fun a j => (F a j).bind G := by cases r <;> rfl
theorem Pre.defs {T T2 : List Tk} (h : Pre T T2) : ∀ (g g2 i k : Nat), i ≤ T2.length → T.length + 2 ≤ g + i → T2.length + 2 ≤ g2 + i → (∀ e, defsT T2 g2 i k ≠ .bad e T2.length) →
    defsT T g i k = (defsT T2 g2 i k).bind fun D _ => (defsT T (T.length + 2) T2.length (k + D.length)).bind fun D' j => .ok (D ++ D') j
  | 0, g2, i, k, hi, hg, hg2, hne => by have := h.le; omega
  | g + 1, 0, i, k, hi, hg, hg2, hne => by omega
  | g + 1, g2 + 1, i, k, hi, hg, hg2, hne => by
    rw [defsT_s (T := T2)] at hne
    rw [defsT_s (T := T2)]
    by_cases hi2 : T2.length ≤ i
    · have hie : i = T2.length := by omega
      rw [if_pos hi2, hie, defs_fuel (g + 1) (T.length + 2) T2.length k h.le (by omega) (by omega), Pr.bind_ok]
      show _ = (defsT T (T.length + 2) T2.length (k + 0)).bind fun D' j => .ok ([] ++ D') j
      rw [Nat.add_zero]
      cases defsT T (T.length + 2) T2.length k <;> rfl
    · have hlt : i < T2.length := by omega
      have hle := h.le
      rw [if_neg hi2] at hne ⊢
      rw [defsT_s, if_neg (by omega), h.tok i hlt]
      by_cases hnm : k = 256 ∧ isT (tkA T2 i) 1 [116, 121, 112, 101] = true
      · rw [if_pos hnm, if_pos hnm]; rfl
      · rw [if_neg hnm] at hne ⊢
        rw [if_neg hnm]
        simp only [Pr.bind_assoc]
        refine bind_pre2 hne (fun hn => h.want (by decide) (by omega) hn) fun _ i1 h1 hne => ?_
        obtain ⟨rfl, hi1⟩ := wantT_le (by decide) h1
        refine bind_pre2 hne (fun hn => h.name (by omega) hn) fun s i2 h2 hne => ?_
        obtain ⟨g2', -, rfl⟩ := nameT_ok h2
        have := nmT_lt g2'
        refine bind_pre2 hne (fun hn => h.want (by decide) (by omega) hn) fun _ i3 h3 hne => ?_
        obtain ⟨rfl, hi3⟩ := wantT_le (by decide) h3
        refine bind_pre2 hne (fun hn => h.expr _ _ _ _ _ (by omega) (by omega) (by omega) hn) fun N j h4 hne => ?_
        obtain ⟨b1, b2⟩ := expr_lt h4
        refine bind_pre2 hne (fun hn => h.want (by decide) (by omega) hn) fun _ i5 h5 hne => ?_
        obtain ⟨rfl, hi5⟩ := wantT_le (by decide) h5
        rw [Pre.defs h g g2 (j + 1) (k + 1) (by omega) (by omega) (by omega) (fun e he => hne e (by rw [he]; rfl))]
        rw [Pr.bind_assoc]
        refine bind_congr' fun D q hD => ?_
        simp only [Pr.bind_assoc, Pr.bind_ok, List.length_cons]
        rw [show k + 1 + D.length = k + (D.length + 1) by omega]
        refine bind_congr' fun D' q hD' => rfl

end Go.Proofs.Ytcljkkfpcomdcaa

set_option linter.unusedSimpArgs false
set_option linter.unusedVariables false
set_option maxRecDepth 100000
namespace Go.Proofs.Ytcljkkfpcomdcaa
open Go Go.Vc Go.RowKit Go.Proofs

def bareE (x : Ex) : Ex := { x with at_ := 0 }
def bareD (d : Df) : Df := ⟨d.name, 0, d.ty.map bareE⟩
theorem bareE_pl {T : List Tk} {x : Ex} : bareE (plE T x) = bareE x := by unfold plE bareE; split <;> rfl
theorem bareE_sh {m : Nat} {x : Ex} : bareE (shE m x) = bareE x := by unfold shE bareE; split <;> rfl
theorem bareD_pl {T : List Tk} {d : Df} : bareD (plD T d) = bareD d := by
  simp only [bareD, plD, List.map_map, Df.mk.injEq, true_and]
  exact List.map_congr_left fun x _ => bareE_pl
theorem bareD_sh {m : Nat} {d : Df} : bareD (shD m d) = bareD d := by
  simp only [bareD, shD, List.map_map, Df.mk.injEq, true_and]
  exact List.map_congr_left fun x _ => bareE_sh
theorem bare_pl {T : List Tk} (D : List Df) : (D.map (plD T)).map bareD = D.map bareD := by
  rw [List.map_map]; exact List.map_congr_left fun x _ => bareD_pl
theorem bare_sh {m : Nat} (D : List Df) : (D.map (shD m)).map bareD = D.map bareD := by
  rw [List.map_map]; exact List.map_congr_left fun x _ => bareD_sh
theorem parseA_cut {xs : List UInt8} (h : (cutA xs).2.1 ≠ 0) : parseA xs = ([], (cutA xs).2) := by unfold parseA; rw [if_neg h]
theorem parseA_ok {xs : List UInt8} (h : (cutA xs).2.1 = 0) {D : List Df} {j : Nat} (hd : defsT (cutA xs).1 ((cutA xs).1.length + 2) 0 0 = .ok D j) : parseA xs = (D.map (plD (cutA xs).1), 0, 0) := by
  unfold parseA; rw [if_pos h, hd]
theorem parseA_er {xs : List UInt8} (h : (cutA xs).2.1 = 0) {e j : Nat} (hd : defsT (cutA xs).1 ((cutA xs).1.length + 2) 0 0 = .bad e j) : parseA xs = ([], e, plc (cutA xs).1 xs.length j) := by
  unfold parseA; rw [if_pos h, hd]
end Go.Proofs.Ytcljkkfpcomdcaa

set_option linter.unusedSimpArgs false
set_option linter.unusedVariables false
set_option maxRecDepth 100000
namespace Go.Proofs.Ytcljkkfpcomdcaa
open Go Go.Vc Go.RowKit Go.Proofs

theorem rset {f g : Nat → List Value} {s : Nat} (hs : ∀ j, (f j).length = s) {k o : Nat} (ho : o < s) (v : Value) (hg : ∀ j, g j = if j = k then (f k).set o v else f j) : ∀ n, k < n → ((List.range n).flatMap f).set (k * s + o) v = (List.range n).flatMap g := by
  have hl : ∀ n, ((List.range n).flatMap f).length = n * s := by
    intro n
    induction n with
    | zero => rw [Nat.zero_mul]; rfl
    | succ n ih => rw [List.range_succ, List.flatMap_append, List.length_append, ih, List.flatMap_singleton, hs, Nat.succ_mul]
  intro n
  induction n with
  | zero => intro h; omega
  | succ n ih =>
    intro h
    rw [List.range_succ, List.flatMap_append, List.flatMap_append, List.flatMap_singleton, List.flatMap_singleton]
    by_cases hk : k = n
    · subst hk
      rw [List.set_append_right _ _ (by rw [hl]; omega), hl, Nat.add_sub_cancel_left, hg k, if_pos rfl]
      congr 1
      exact (dfm_congr fun j hj => by rw [hg j, if_neg (by have := List.mem_range.1 hj; omega)]).symm
    · have h1 : (k + 1) * s ≤ n * s := Nat.mul_le_mul_right _ (by omega)
      rw [Nat.succ_mul] at h1
      rw [List.set_append_left _ _ (by rw [hl]; omega), ih (by omega), hg n, if_neg (fun e => hk e.symm)]
def setAt (D : List Df) (k : Nat) (z : Int) : List Df := D.set k { D.getD k df0 with at_ := z }
theorem setAt_len {D : List Df} {k : Nat} {z : Int} : (setAt D k z).length = D.length := List.length_set ..
theorem setAt_at {D : List Df} {k : Nat} {z : Int} (j : Nat) : (setAt D k z).getD j df0 = if j = k ∧ k < D.length then { D.getD k df0 with at_ := z } else D.getD j df0 := by
  rw [setAt, List.getD_eq_getElem?_getD, List.getElem?_set]
  by_cases h : k = j
  · subst h
    by_cases h2 : k < D.length
    · simp [h2]
    · simp [h2, List.getD_eq_getElem?_getD]
  · rw [if_neg h, if_neg (fun hh => h hh.1.symm), List.getD_eq_getElem?_getD]
theorem drows_setAt {D : List Df} {V : Nat → Value} {k : Nat} {z : Int} (hk : k < D.length) : (drows D V).set (k * 3 + 1) (.int .i64 z) = drows (setAt D k z) V := by
  rw [drows, drows, setAt_len]
  refine rset (s := 3) (o := 1) (fun _ => rfl) (by decide) _ (fun j => ?_) _ hk
  rw [setAt_at]
  by_cases h : j = k
  · rw [if_pos ⟨h, hk⟩, if_pos h, h]; rfl
  · rw [if_neg (fun hh => h hh.1), if_neg h]
theorem Defs.setAt {w w' : World} {H : Nat} {D : List Df} {lv : Value} {V : Nat → Value} (h : Defs w H D lv V) {k : Nat} {z : Int} (hk : k < D.length) (ho : Only (fun b => lv.ownBlock = some b) w w') (hr : w'.ownsRow H 40 3 lv D.length ((drows D V).set (k * 3 + 1) (.int .i64 z))) : Defs w' H (setAt D k z) lv V := by
  have ht : ∀ j, tyD (Go.Proofs.Ytcljkkfpcomdcaa.setAt D k z) j = tyD D j := fun j => by
    rw [tyD, setAt_at]
    split
    · rename_i hh; rw [hh.1]; rfl
    · rfl
  refine ⟨by rw [setAt_len, ← drows_setAt hk]; exact hr, ?_⟩
  rw [setAt_len]
  exact ((h.tys.other h.row (by decide) ho)).congr (fun _ _ => rfl) (fun j _ => by rw [ht j]) (fun j _ => by rw [ht j])
theorem exs_setAt {L : List Ex} : ∀ {j : Nat} {z : Int} (hj : j < L.length), (exs L).set (j * 7 + 6) (.int .i64 z) = exs (L.set j { L[j] with at_ := z }) := by
  induction L with
  | nil => intro j z hj; simp at hj
  | cons a l ih =>
    intro j z hj
    cases j with
    | zero => rfl
    | succ j =>
      rw [show exs (a :: l) = exV a ++ exs l from rfl, List.set_append_right _ _ (by show 7 ≤ _; omega), show (j + 1) * 7 + 6 - (exV a).length = j * 7 + 6 by show (j + 1) * 7 + 6 - 7 = _; omega, ih (by simpa using hj)]
      rfl
/-- the first k without places -/
def BareTo (D E : List Df) (k : Nat) : Prop := E.length = D.length ∧ (∀ i, i < k → E.getD i df0 = bareD (D.getD i df0)) ∧ ∀ i, k ≤ i → E.getD i df0 = D.getD i df0
def BareIn (D E : List Df) (k j : Nat) : Prop := E.length = D.length ∧ (∀ i, i < k → E.getD i df0 = bareD (D.getD i df0)) ∧ (∀ i, k < i → E.getD i df0 = D.getD i df0) ∧ E.getD k df0 = ⟨(D.getD k df0).name, 0, ((tyD D k).take j).map bareE ++ (tyD D k).drop j⟩
theorem bareTo_end {D E : List Df} (h : BareTo D E D.length) : E = D.map bareD := by
  obtain ⟨h1, h2, h3⟩ := h
  refine List.ext_getElem (by rw [h1, List.length_map]) fun i hi1 hi2 => ?_
  have := h2 i (by omega)
  rw [getD_at hi1, getD_at (by omega)] at this
  rw [this, List.getElem_map]
theorem BareTo.begin {D E : List Df} {k : Nat} (h : BareTo D E k) (hk : k < D.length) : BareIn D (setAt E k 0) k 0 := by
  obtain ⟨h1, h2, h3⟩ := h
  refine ⟨by rw [setAt_len, h1], fun i hi => ?_, fun i hi => ?_, ?_⟩
  · rw [setAt_at, if_neg (by omega)]; exact h2 i hi
  · rw [setAt_at, if_neg (by omega)]; exact h3 i (by omega)
  · rw [setAt_at, if_pos ⟨rfl, by omega⟩, h3 k (Nat.le_refl _)]; rfl
theorem BareIn.ty {D E : List Df} {k j : Nat} (h : BareIn D E k j) : tyD E k = ((tyD D k).take j).map bareE ++ (tyD D k).drop j := by
  rw [tyD, h.2.2.2]
theorem BareIn.len {D E : List Df} {k j : Nat} (h : BareIn D E k j) (hj : j ≤ (tyD D k).length) : (tyD E k).length = (tyD D k).length := by
  rw [h.ty, List.length_append, List.length_map, List.length_take, List.length_drop]; omega
theorem BareIn.step {D E : List Df} {k j : Nat} (h : BareIn D E k j) (hk : k < D.length) (hj : j < (tyD D k).length) (x : Ex) (hx : (tyD E k)[j]? = some x) : BareIn D (setE E k j { x with at_ := 0 }) k (j + 1) := by
  obtain ⟨h1, h2, h3, h4⟩ := h
  have hE : tyD E k = ((tyD D k).take j).map bareE ++ (tyD D k).drop j := by rw [tyD, h4]
  have hx2 : x = (tyD D k)[j] := by
    rw [hE, List.getElem?_append_right (by simp; omega)] at hx
    simp only [List.length_map, List.length_take, Nat.min_eq_left (Nat.le_of_lt hj), Nat.sub_self, List.getElem?_drop, Nat.add_zero, List.getElem?_eq_getElem hj, Option.some.injEq] at hx
    exact hx.symm
  refine ⟨by rw [setE_len, h1], fun i hi => ?_, fun i hi => ?_, ?_⟩
  · rw [setE_at, if_neg (by omega)]; exact h2 i hi
  · rw [setE_at, if_neg (by omega)]; exact h3 i hi
  · rw [setE_at, if_pos ⟨rfl, by omega⟩, hE, h4]
    simp only [Df.mk.injEq, true_and]
    rw [List.set_append_right _ _ (by simp; omega)]
    simp only [List.length_map, List.length_take, Nat.min_eq_left (Nat.le_of_lt hj), Nat.sub_self]
    rw [← List.getElem_cons_drop hj, List.set_cons_zero, List.take_add_one, List.getElem?_eq_getElem hj, List.map_append, List.append_assoc, hx2]
    rfl
theorem BareIn.done {D E : List Df} {k : Nat} (h : BareIn D E k (tyD D k).length) : BareTo D E (k + 1) := by
  obtain ⟨h1, h2, h3, h4⟩ := h
  refine ⟨h1, fun i hi => ?_, fun i hi => h3 i (by omega)⟩
  rcases Nat.lt_or_ge i k with hl | hl
  · exact h2 i hl
  · obtain rfl : i = k := by omega
    rw [h4, List.take_length, List.drop_length, List.append_nil]; rfl
theorem DOk.tyD {D : List Df} (h : DOk D) {k : Nat} (hk : k < D.length) : (tyD D k).length * 72 ≤ 140737488351232 := by
  rw [tyD_at hk]; exact h.ty _ (List.getElem_mem hk)
theorem DOk.bare {D : List Df} (h : DOk D) : DOk (D.map bareD) := by
  refine ⟨by rw [List.length_map]; exact h.len, fun d hd => ?_, fun d hd => ?_, fun d hd x hx => ?_⟩
  all_goals obtain ⟨d0, h0, rfl⟩ := List.mem_map.1 hd
  · show (d0.ty.map _).length * 72 ≤ _
    rw [List.length_map]; exact h.ty d0 h0
  · exact h.nm d0 h0
  · obtain ⟨x0, hx0, rfl⟩ := List.mem_map.1 (show x ∈ d0.ty.map _ from hx)
    exact h.ex d0 h0 x0 hx0

set_option maxHeartbeats 2000000 in
theorem bare_spec (D : List Df) (dv : Value) (V : Nat → Value) (w0 : World) (hD0 : DefR w0 D dv V) (hlim : DOk D) : Ca Try.prog 23 #[.agg #[dv]] w0 (fun r w' => ∃ bv U, r = .agg #[bv] ∧ Defs w' w0.heap.size (D.map bareD) bv U ∧ Ext w0 w') := by
  obtain ⟨BB, hBB⟩ : ∃ B, B = w0.heap.size := ⟨_, rfl⟩
  rw [← hBB]
  have hlen := hlim.len
  refine Ca.of Try.func23 Try.ntmps23 rfl rfl ?_
  refine W.seq ?_
  refine W.region ?_
  refine WL.c rfl (o_boxB rfl ?_)
  intro w1 hC1 hx1 hs1
  have hx := hx1
  replace hC1 : w1.heap[w0.heap.size]? = some (.cells #[dv] 28 (0, 0)) := hC1
  obtain ⟨c1, hc1⟩ : ∃ c, c = w0.heap.size := ⟨_, rfl⟩
  rw [← hc1] at hC1 ⊢
  refine WL.c rfl (o_alB TI28 ?_)
  intro w2 hC2 hx2 hs2
  replace hx := hx.tr hx2
  replace hC1 := hx2.blk hC1 (fun h => h)
  replace hC2 : w2.heap[w1.heap.size]? = some (.cells #[.slice none 0 0] 28 (0, 0)) := hC2
  obtain ⟨c2, hc2⟩ : ∃ c, c = w1.heap.size := ⟨_, rfl⟩
  rw [← hc2] at hC2 ⊢
  refine WL.nil ?_
  refine W.seq ?_
  refine W.region ?_
  refine WL.c rfl (o_ldA TI28 rfl rfl (show Cells _ c1 0 [dv] from Cells.of hC1 0 _ (by simp)) rfl ?_)
  refine WL.c rfl (o_call Try.call13 (lc rfl ln) ((lent_spec D dv V _ (hD0.ext hx) hlim).mono ?_))
  rintro v7 w7 ⟨gv, U, rfl, hL, hx7⟩
  obtain ⟨B, hB⟩ : ∃ B, B = w2.heap.size := ⟨_, rfl⟩
  rw [← hB] at hL
  have hB0 : BB ≤ B := by have := hx.size; omega
  replace hx := hx.tr hx7
  replace hC2 := hx7.blk hC2 (fun h => h)
  obtain ⟨gg, capg, hgv, -⟩ := own_some hL.row (by omega)
  have hDe := hL.defs
  clear hL
  subst hgv
  replace hDe : Defs w7 B D (Value.slice (some ⟨gg, 0, none⟩) D.length capg) (fun j => shr (U j)) := hDe
  generalize (fun j => shr (U j)) = V2 at hDe
  refine WL.c rfl (o_alB TI28 ?_)
  intro wa hCa hxa hsa
  refine WL.u (o_stA TI28 rfl (show _ = Value.agg #[Value.slice (some ⟨gg, 0, none⟩) D.length capg] from rfl) rfl rfl hCa rfl ?_)
  intro wb hC3 ho3 hs3
  have hxn := Ext.own hxa (Nat.le_refl _) ho3
  obtain ⟨c3, hc3⟩ : ∃ c, c = w7.heap.size := ⟨_, rfl⟩
  rw [← hc3] at hC3 ⊢
  clear hCa hxa hsa ho3 hs3
  replace hx := hx.tr hxn
  replace hC2 := hxn.blk hC2 (fun h => h)
  replace hDe := hDe.ext hxn
  refine WL.nil ?_
  refine W.seq ?_
  refine W.seq ?_
  refine W.region ?_
  refine WL.c rfl (o_ash (show _ = Value.int _ _ from rfl) ?_)
  refine WL.nil ?_
  refine W.block ?_
  refine W.loop (fun e w => ∃ (k : Nat) (E : List Df), k ≤ D.length ∧ BareTo D E k ∧ e 2 = .pointer (some ⟨c2, 0, none⟩) ∧ e 3 = .pointer (some ⟨c3, 0, none⟩) ∧ e 4 = .int .i64 (k : Int) ∧ w.heap[c2]? = some (.cells #[.slice none 0 0] 28 (0, 0)) ∧ w.heap[c3]? = some (.cells #[Value.slice (some ⟨gg, 0, none⟩) D.length capg] 28 (0, 0)) ∧ Defs w B E (Value.slice (some ⟨gg, 0, none⟩) D.length capg) V2 ∧ Ext w0 w) (fun e w => D.length - (intOf (e 4)).toNat) ?_ ?_
  · exact ⟨0, D, Nat.zero_le _, ⟨rfl, fun i h => by omega, fun i _ => rfl⟩, rfl, rfl, rfl, hC2, hC3, hDe, hx⟩
  rintro e w ⟨k, E, hk, hbt, h2, h3, h4, hC2, hC3, hDe, hx⟩
  have hm4 := h4
  have hEl := hbt.1
  refine W.seq ?_
  refine W.seq ?_
  refine W.region ?_
  refine WL.c rfl (o_mvh h4 ?_)
  refine WL.c rfl (o_fa 0 TI28 rfl TI26 rfl h3 ?_)
  refine WL.c rfl (o_ld TI26 rfl rfl (cell_of hC3 rfl) ?_)
  refine WL.c rfl (o_lenR TI26 rfl (show Sl _ 3 _ D.length _ from hEl ▸ hDe.rd.row) ?_)
  refine WL.c rfl (o_lt rfl rfl ?_)
  refine WL.nil ?_
  refine W.cond rfl (fun c12 => ?_) (fun c12 => ?_)
  · try simp only [decide_eq_true_eq, decide_eq_false_iff_not, Bool.not_eq_true', Bool.not_eq_false', Bool.and_eq_true, Bool.or_eq_true, Bool.and_eq_false_iff, Bool.or_eq_false_iff] at c12
    have hk1 : k < D.length := by omega
    have htl := hlim.tyD hk1
    have hrw := hDe.row
    rw [hEl] at hrw
    refine W.skip ?_
    refine W.seq ?_
    refine W.block ?_
    refine W.seq ?_
    refine W.region ?_
    refine WL.c rfl (o_fa 0 TI28 rfl TI26 rfl h3 ?_)
    refine WL.c rfl (o_ld TI26 rfl rfl (cell_of hC3 rfl) ?_)
    refine WL.c rfl (o_mvh h4 ?_)
    refine WL.c rfl (o_ixB TI26 TI40 rfl rfl (by omega) ?_)
    refine WL.c rfl (o_fa 1 TI40 rfl TI3 rfl rfl ?_)
    refine WL.u (o_stRj (i := k * 3 + 1) TI3 rfl (by omega) (show _ = Value.int .i64 0 from rfl) rfl hrw rfl (by omega) ?_)
    intro wc hr19 ho hs19
    have hRW := hDe.row
    replace hC2 := ho.blk hC2 (fun he => own_off hRW hC2 (by decide) he)
    replace hC3 := ho.blk hC3 (fun he => own_off hRW hC3 (by decide) he)
    replace hx := hx.trans' ho (fun _ h => h) (fun b hb he => by have := (hRW.lt b he).1; omega)
    replace hDe := hDe.setAt (k := k) (z := 0) (by omega) ho (by rw [hEl]; exact hr19)
    have hbin := hbt.begin hk1
    generalize setAt E k 0 = E2 at hDe hbin
    clear hbt hEl hRW hrw hr19 ho
    refine WL.nil ?_
    refine W.seq ?_
    refine W.region ?_
    refine WL.c rfl (o_ash (show _ = Value.int _ _ from rfl) ?_)
    refine WL.nil ?_
    refine W.block ?_
    refine W.loop (fun e w => ∃ (j : Nat) (E : List Df), j ≤ (tyD D k).length ∧ BareIn D E k j ∧ e 5 = .int .i64 (j : Int) ∧ e 2 = .pointer (some ⟨c2, 0, none⟩) ∧ e 3 = .pointer (some ⟨c3, 0, none⟩) ∧ e 4 = .int .i64 (k : Int) ∧ w.heap[c2]? = some (.cells #[.slice none 0 0] 28 (0, 0)) ∧ w.heap[c3]? = some (.cells #[Value.slice (some ⟨gg, 0, none⟩) D.length capg] 28 (0, 0)) ∧ Defs w B E (Value.slice (some ⟨gg, 0, none⟩) D.length capg) V2 ∧ Ext w0 w) (fun e w => (tyD D k).length - (intOf (e 5)).toNat) ?_ ?_
    · exact ⟨0, E2, Nat.zero_le _, hbin, rfl, h2, h3, h4, hC2, hC3, hDe, hx⟩
    rintro e w ⟨j, E, hj, hbin, h5, h2, h3, h4, hC2, hC3, hDe, hx⟩
    have hm5 := h5
    have hEl := hbin.1
    have hEt := hbin.len hj
    obtain ⟨_, _, _, hvv, htc⟩ := hDe.rd.at (k := k) (by omega)
    rw [hEl] at hvv
    cases hvv
    have hty := hDe.rd.tys k (by omega)
    refine W.seq ?_
    refine W.seq ?_
    refine W.region ?_
    refine WL.c rfl (o_mvh h5 ?_)
    refine WL.c rfl (o_fa 0 TI28 rfl TI26 rfl h3 ?_)
    refine WL.c rfl (o_ld TI26 rfl rfl (cell_of hC3 rfl) ?_)
    refine WL.c rfl (o_mvh h4 ?_)
    refine WL.c rfl (o_ixB TI26 TI40 rfl rfl (by omega) ?_)
    refine WL.c rfl (o_fa 2 TI40 rfl TI38 rfl rfl ?_)
    refine WL.c rfl (o_ld TI38 rfl rfl (htc 2 _ rfl) ?_)
    refine WL.c rfl (o_lenR TI38 rfl hty ?_)
    refine WL.c rfl (o_lt rfl rfl ?_)
    refine WL.nil ?_
    refine W.cond rfl (fun c28 => ?_) (fun c28 => ?_)
    · try simp only [decide_eq_true_eq, decide_eq_false_iff_not, Bool.not_eq_true', Bool.not_eq_false', Bool.and_eq_true, Bool.or_eq_true, Bool.and_eq_false_iff, Bool.or_eq_false_iff] at c28
      have hj1 : j < (tyD D k).length := by omega
      have hj2 : j < (tyD E k).length := by omega
      obtain ⟨ub, uo, uc, hV, -⟩ := Sl.exq hty hj2
      have hrw := hDe.tys.row k (by omega)
      obtain ⟨g2, cap2, hV3, -⟩ := own_some hrw (by omega)
      rw [hV3] at htc hrw
      refine W.skip ?_
      refine W.seq ?_
      refine W.block ?_
      refine W.region ?_
      refine WL.c rfl (o_fa 0 TI28 rfl TI26 rfl h3 ?_)
      refine WL.c rfl (o_ld TI26 rfl rfl (cell_of hC3 rfl) ?_)
      refine WL.c rfl (o_mvh h4 ?_)
      refine WL.c rfl (o_ixB TI26 TI40 rfl rfl (by omega) ?_)
      refine WL.c rfl (o_fa 2 TI40 rfl TI38 rfl rfl ?_)
      refine WL.c rfl (o_ld TI38 rfl rfl (htc 2 _ rfl) ?_)
      refine WL.c rfl (o_mvh h5 ?_)
      refine WL.c rfl (o_ixB (i := j) TI38 TI30 (show _ = Value.slice (some ⟨g2, 0, none⟩) (tyD E k).length cap2 from rfl) rfl (by omega) ?_)
      refine WL.c rfl (o_fa 6 TI30 rfl TI3 rfl rfl ?_)
      refine WL.u (o_stRj (i := j * 7 + 6) TI3 rfl (by omega) (show _ = Value.int .i64 0 from rfl) rfl hrw rfl (by omega) ?_)
      intro wc hr39 ho hs39
      have hRW := hrw
      replace hC2 := ho.blk hC2 (fun he => own_off hRW hC2 (by decide) he)
      replace hC3 := ho.blk hC3 (fun he => own_off hRW hC3 (by decide) he)
      replace hx := hx.trans' ho (fun _ h => h) (fun b hb he => by have := (hRW.lt b he).1; omega)
      have hbin2 := hbin.step (by omega) hj1 ((tyD E k)[j]) (List.getElem?_eq_getElem hj2)
      have hDe2 := hDe.setE (d := k) (n := j) (x := { (tyD E k)[j] with at_ := 0 }) (by omega) (by rw [hV3]; exact ho) (by rw [hV3, ← exs_setAt hj2]; exact hr39)
      refine WL.nil ?_
      refine W.region ?_
      refine WL.c rfl (o_mvh h5 ?_)
      refine WL.c rfl (o_addi rfl rfl (by omega) ?_)
      refine WL.c rfl (o_ash (show _ = Value.int _ _ from rfl) ?_)
      refine WL.nil ?_
      refine ⟨⟨j + 1, _, by omega, hbin2, rfl, h2, h3, h4, hC2, hC3, hDe2, hx⟩, ?_⟩
      show (tyD D k).length - ((j : Int) + 1).toNat < _
      rw [hm5]; simp [intOf]; omega
    · try simp only [decide_eq_true_eq, decide_eq_false_iff_not, Bool.not_eq_true', Bool.not_eq_false', Bool.and_eq_true, Bool.or_eq_true, Bool.and_eq_false_iff, Bool.or_eq_false_iff] at c28
      have hj1 : j = (tyD D k).length := by omega
      subst hj1
      refine W.exit ?_
      refine W.region ?_
      refine WL.c rfl (o_mvh h4 ?_)
      refine WL.c rfl (o_addi rfl rfl (by omega) ?_)
      refine WL.c rfl (o_ash (show _ = Value.int _ _ from rfl) ?_)
      refine WL.nil ?_
      refine ⟨⟨k + 1, E, by omega, hbin.done, h2, h3, rfl, hC2, hC3, hDe, hx⟩, ?_⟩
      show D.length - ((k : Int) + 1).toNat < _
      rw [hm4]; simp [intOf]; omega
  · try simp only [decide_eq_true_eq, decide_eq_false_iff_not, Bool.not_eq_true', Bool.not_eq_false', Bool.and_eq_true, Bool.or_eq_true, Bool.and_eq_false_iff, Bool.or_eq_false_iff] at c12
    have hk1 : k = D.length := by omega
    rw [hk1] at hbt
    have hEq := bareTo_end hbt
    refine W.exit ?_
    refine W.seq ?_
    refine W.region ?_
    refine WL.c rfl (o_ldA TI28 rfl h3 (show Cells _ c3 0 [Value.slice (some ⟨gg, 0, none⟩) D.length capg] from Cells.of hC3 0 _ (by simp)) rfl ?_)
    refine WL.u (o_stA TI28 h2 (show _ = Value.agg #[Value.slice (some ⟨gg, 0, none⟩) D.length capg] from rfl) rfl rfl hC2 rfl ?_)
    intro wz hC2z ho hs2z
    replace hDe := hDe.only ho (fun b hb he => by subst he; rcases hb with hb | ⟨j, hj, hb⟩; exact own_off hDe.row hC2 (by decide) hb; exact own_off (hDe.tys.row j hj) hC2 (by decide) hb)
    replace hx := hx.trans' ho (fun _ h => h) (fun b hb he => by omega)
    refine WL.nil ?_
    refine W.ret ?_
    refine retC rfl TI28 rfl h2 ((show Cells _ c2 0 [Value.slice (some ⟨gg, 0, none⟩) D.length capg] from Cells.of hC2z 0 _ (by simp))) rfl ?_
    exact ⟨_, V2, rfl, by rw [← hEq]; exact hDe.mono hB0, hx⟩
end Go.Proofs.Ytcljkkfpcomdcaa

set_option linter.unusedSimpArgs false
set_option linter.unusedVariables false
set_option maxRecDepth 100000
namespace Go.Proofs.Ytcljkkfpcomdcaa
open Go Go.Vc Go.RowKit Go.Proofs
/-- blanks and remarks; does a remark stand open at the end? -/
def gapS : Bool → List UInt8 → Option Bool
  | rm, [] => some rm
  | true, c :: cs => gapS (!decide (c.toNat = 10)) cs
  | false, c :: cs => if c.toNat = 35 then gapS true cs else if blankB c then gapS false cs else none
theorem gap_skip (xs : List UInt8) (m : Nat) (hm : m ≤ xs.length) (j : Nat) (hj : j ≤ m) (rm : Bool) (h : gapS rm ((xs.take m).drop j) = some false) : cutL xs (if rm then runL nnlB xs j else j) = cutL xs m := by
  by_cases hl : j < m
  · have h3 : j < (xs.take m).length := by simp; omega
    have hx : j < xs.length := by omega
    have hd : (xs.take m).drop j = xs[j] :: (xs.take m).drop (j + 1) := by
      rw [← List.getElem_cons_drop h3]; simp
    have hc := cutL_eq xs j
    rw [dif_pos hx] at hc
    rw [hd] at h
    cases rm with
    | true =>
      rw [gapS] at h
      by_cases h10 : (xs[j]).toNat = 10
      · simp [h10] at h
        have ih := gap_skip xs m hm (j + 1) (by omega) false h
        rw [if_pos rfl, runL_stop hx (by simp [nnlB, h10]), hc, if_neg (by omega), if_pos (by simp [blankB, h10])]
        exact ih
      · simp [h10] at h
        have ih := gap_skip xs m hm (j + 1) (by omega) true h
        rw [if_pos rfl, runL_go hx (by simp [nnlB, h10])]
        exact ih
    | false =>
      rw [gapS] at h
      rw [if_neg (by decide), hc]
      by_cases h35 : (xs[j]).toNat = 35
      · rw [if_pos h35] at h ⊢
        exact gap_skip xs m hm (j + 1) (by omega) true h
      · rw [if_neg h35] at h ⊢
        by_cases hb : blankB xs[j] = true
        · rw [if_pos hb] at h ⊢
          exact gap_skip xs m hm (j + 1) (by omega) false h
        · rw [if_neg hb] at h; cases h
  · have : j = m := by omega
    subst this
    rw [List.drop_eq_nil_of_le (by simp; omega)] at h
    cases rm with
    | true => cases h
    | false => rfl
termination_by m - j
theorem take_get {xs zs : List UInt8} {a k : Nat} (hp : zs.take a = xs.take a) (hk : k < a) (hx : k < xs.length) (hz : k < zs.length) : zs[k] = xs[k] := by
  have h1 : (zs.take a)[k]? = (xs.take a)[k]? := by rw [hp]
  simpa [List.getElem?_take, hk, hx, hz] using h1
theorem runL_front {p : UInt8 → Bool} {xs zs : List UInt8} {a : Nat} (hp : zs.take a = xs.take a) (hx : a ≤ xs.length) (hz : a ≤ zs.length) (k : Nat) (hk : k ≤ a) (hr : runL p xs k ≤ a)
    (hs : zs.length = a ∨ (∃ h : a < zs.length, p zs[a] = false) ∨ runL p xs k < a) : runL p zs k = runL p xs k := by
  by_cases hka : k < a
  · have he := take_get hp hka (by omega) (by omega)
    cases hc : p xs[k] with
    | true =>
      rw [runL_go (by omega) hc] at hr hs ⊢
      rw [runL_go (xs := zs) (by omega) (by rw [he]; exact hc)]
      exact runL_front hp hx hz (k + 1) (by omega) hr hs
    | false => rw [runL_stop (xs := xs) (by omega) hc, runL_stop (xs := zs) (by omega) (by rw [he]; exact hc)]
  · have hka : k = a := by omega
    subst hka
    have h1 := (runL_le (p := p) hx).1
    have h2 : runL p xs k = k := by omega
    rw [h2]
    rcases hs with hs | ⟨h, hs⟩ | hs
    · exact runL_end (by omega)
    · exact runL_stop h hs
    · omega
termination_by a - k
theorem sub_front {xs zs : List UInt8} {a : Nat} (hp : zs.take a = xs.take a) (l h : Nat) (hh : h ≤ a) : sub zs l h = sub xs l h := by
  unfold sub
  have : ∀ ys : List UInt8, ys.take h = (ys.take a).take h := fun ys => by rw [List.take_take, Nat.min_eq_left hh]
  rw [this zs, this xs, hp]
theorem oneL_front {xs zs : List UInt8} {a : Nat} (hp : zs.take a = xs.take a) (hx : a ≤ xs.length) (hz : a ≤ zs.length) (hs : zs.length = a ∨ ∃ h : a < zs.length, goeB zs[a] = false) (k : Nat) (hk : k < a) (hk1 : k < xs.length) (hk2 : k < zs.length)
    (h0 : (oneL xs k hk1).1 = 0) (hf : (oneL xs k hk1).2.fin ≤ a) : oneL zs k hk2 = oneL xs k hk1 := by
  have he := take_get hp hk hk1 hk2
  have st : ∀ p : UInt8 → Bool, (∀ c : UInt8, goeB c = false → p c = false) → runL p xs k ≤ a → runL p zs k = runL p xs k := fun p hp32 hr =>
    runL_front hp hx hz k (by omega) hr (by rcases hs with hs | ⟨h, hs⟩; exact .inl hs; exact .inr (.inl ⟨h, hp32 _ hs⟩))
  unfold oneL at h0 hf ⊢
  rw [he]
  by_cases h1 : letB xs[k] = true
  · rw [if_pos h1] at h0 hf ⊢
    rw [if_pos h1]
    have hr : runL goeB xs k ≤ a := by split at hf <;> exact hf
    have hg := st goeB (fun _ h => h) hr
    rw [hg, sub_front hp _ _ hr]
  · rw [if_neg h1] at h0 hf ⊢
    rw [if_neg h1]
    by_cases h2 : digB xs[k] = true
    · rw [if_pos h2] at h0 hf ⊢
      rw [if_pos h2]
      have hr : runL digB xs k ≤ a := hf
      have hg := st digB (by intro c hc; simp [goeB] at hc; exact hc.1.2) hr
      rw [hg, sub_front hp _ _ hr]
    · rw [if_neg h2] at h0 hf ⊢
      rw [if_neg h2]
      by_cases h3 : markB xs[k] = true
      · rw [if_pos h3] at h0 hf ⊢
        rw [if_pos h3]
        have hr : k + 1 ≤ a := hf
        rw [sub_front hp _ _ hr]
      · rw [if_neg h3] at h0; simp at h0


theorem oneL_in {xs : List UInt8} {k : Nat} {h : k < xs.length} (he : (oneL xs k h).1 = 0) : blankB xs[k] = false ∧ ¬ (xs[k]).toNat = 35 := by
  have h3 : letB xs[k] = true ∨ digB xs[k] = true ∨ markB xs[k] = true := by
    unfold oneL at he
    by_cases h1 : letB xs[k] = true
    · exact .inl h1
    · by_cases h2 : digB xs[k] = true
      · exact .inr (.inl h2)
      · by_cases h3 : markB xs[k] = true
        · exact .inr (.inr h3)
        · rw [if_neg h1, if_neg h2, if_neg h3] at he; cases he
  generalize xs[k] = c at h3
  rw [mark_or] at h3
  simp only [letB, digB, blankB, Bool.and_eq_true, Bool.or_eq_true, decide_eq_true_eq, Bool.or_eq_false_iff, decide_eq_false_iff_not] at h3 ⊢
  omega
/-- a token's own bytes are it -/
theorem tok_own {xs : List UInt8} {t : Tk} (h : t.at_ < xs.length) (ho : oneL xs t.at_ h = (0, t)) (h1 : t.at_ < t.fin) (h2 : t.fin ≤ xs.length) (h' : 0 < (sub xs t.at_ t.fin).length) :
    oneL (sub xs t.at_ t.fin) 0 h' = (0, ⟨t.kind, t.text, t.n, 0, t.fin - t.at_⟩) := by
  have hf := oneL_front (xs := xs) (zs := xs.take t.fin) (a := t.fin) (by rw [List.take_take, Nat.min_self]) h2 (by simp; omega) (.inl (by simp; omega)) t.at_ h1 h (by simp; omega) (by rw [ho]) (by rw [ho]; exact Nat.le_refl _)
  rw [ho] at hf
  have hs := oneL_shift (xs.take t.fin) t.at_ 0 (by simp; omega) h'
  have hf' : oneL (xs.take t.fin) (t.at_ + 0) (by simp; omega) = (0, t) := hf
  rw [hf'] at hs
  have hs2 := hs.2 hs.1.symm
  refine Prod.ext hs.1.symm ?_
  show (oneL (sub xs t.at_ t.fin) 0 h').2 = _
  unfold sub at h' ⊢
  generalize (oneL (List.drop t.at_ (List.take t.fin xs)) 0 h').2 = u at hs2
  have hs3 : t = shiftT t.at_ u := hs2
  obtain ⟨u1, u2, u3, u4, u5⟩ := u
  have e1 := congrArg Tk.kind hs3
  have e2 := congrArg Tk.text hs3
  have e3 := congrArg Tk.n hs3
  have e4 := congrArg Tk.at_ hs3
  have e5 := congrArg Tk.fin hs3
  simp only [shiftT] at e1 e2 e3 e4 e5
  rw [Tk.mk.injEq]
  exact ⟨e1.symm, e2.symm, e3.symm, by omega, by omega⟩
/-- blanks, then a token's bytes: cut asx the token -/
theorem put_step (B F T Z : List UInt8) (t' : Tk) (hT : 0 < T.length) (h1 : gapS false F = some false) (hfr : ∀ h, oneL (T ++ Z) 0 h = (0, t')) (hf : t'.fin = T.length) :
    cutL (B ++ F ++ T ++ Z) B.length = (⟨t'.kind, t'.text, t'.n, B.length + F.length + t'.at_, B.length + F.length + T.length⟩ :: (cutL (B ++ F ++ T ++ Z) (B ++ F ++ T).length).1, (cutL (B ++ F ++ T ++ Z) (B ++ F ++ T).length).2) := by
  generalize hX : B ++ F ++ T ++ Z = X
  have hXl : X.length = B.length + F.length + T.length + Z.length := by subst hX; simp; omega
  have e1 : (X.take (B.length + F.length)).drop B.length = F := by
    subst hX
    rw [show B ++ F ++ T ++ Z = (B ++ F) ++ (T ++ Z) by simp, ← List.length_append, List.take_left, List.drop_left]
  have s1 := gap_skip X (B.length + F.length) (by omega) B.length (by omega) false (by rw [e1]; exact h1)
  rw [if_neg (by decide)] at s1
  have hdr : X.drop (B.length + F.length) = T ++ Z := by
    subst hX
    rw [show B ++ F ++ T ++ Z = (B ++ F) ++ (T ++ Z) by simp, ← List.length_append, List.drop_left]
  have hp : B.length + F.length + 0 < X.length := by omega
  have hq : 0 < (X.drop (B.length + F.length)).length := by simp; omega
  have hsh := oneL_shift X (B.length + F.length) 0 hp hq
  have hq2 : oneL (X.drop (B.length + F.length)) 0 hq = (0, t') := by
    have : ∀ (Y : List UInt8) (h : 0 < Y.length), Y = T ++ Z → oneL Y 0 h = (0, t') := by rintro Y h rfl; exact hfr h
    exact this _ _ hdr
  rw [hq2] at hsh
  have hs2 := hsh.2 rfl
  have hone : oneL X (B.length + F.length) (by omega) = (0, shiftT (B.length + F.length) t') := Prod.ext hsh.1 hs2
  obtain ⟨hbl, h35⟩ := oneL_in (by rw [hone])
  have hc := cutL_eq X (B.length + F.length)
  rw [dif_pos (by omega), if_neg h35, if_neg (by simp [hbl]), dif_pos (by rw [hone]), hone] at hc
  have hfin : (shiftT (B.length + F.length) t').fin = B.length + F.length + T.length := by show B.length + F.length + t'.fin = _; rw [hf]
  simp only [hfin] at hc
  rw [s1, hc, show (B ++ F ++ T).length = B.length + F.length + T.length by simp; omega]
  congr 1
  show Tk.mk _ _ _ _ _ :: _ = _
  congr 2
def Stops (Z : List UInt8) : Prop := Z = [] ∨ ∃ c cs, Z = c :: cs ∧ goeB c = false
theorem tok_front {T Z : List UInt8} {t' : Tk} {hT : 0 < T.length} (ho : oneL T 0 hT = (0, t')) (hf : t'.fin = T.length) (hZ : Stops Z) : ∀ h, oneL (T ++ Z) 0 h = (0, t') := by
  intro h
  have := oneL_front (xs := T) (zs := T ++ Z) (a := T.length) (by rw [List.take_left, List.take_length]) (Nat.le_refl _) (by simp) (by
    rcases hZ with rfl | ⟨c, cs, rfl, hg⟩
    · exact .inl (by simp)
    · exact .inr ⟨by simp, by simp [hg]⟩) 0 hT hT h (by rw [ho]) (by rw [ho]; exact Nat.le_of_eq hf)
  rw [this, ho]
/-- what stands so far is cut so, with anything behind that can stand there -/
def InvT (bs : List UInt8) (us : List Tk) : Prop := ∀ Z, Stops Z → cutL (bs ++ Z) 0 = (us ++ (cutL (bs ++ Z) bs.length).1, (cutL (bs ++ Z) bs.length).2)
theorem invT_nil : InvT [] [] := fun Z _ => rfl
theorem invT_step {bs F T : List UInt8} {us : List Tk} {t' : Tk} (hi : InvT bs us) {hT : 0 < T.length} (ho : oneL T 0 hT = (0, t')) (hf : t'.fin = T.length) (h1 : gapS false F = some false) (hF : Stops F) (hne : F ≠ []) :
    InvT (bs ++ F ++ T) (us ++ [⟨t'.kind, t'.text, t'.n, (bs ++ F).length + t'.at_, (bs ++ F ++ T).length⟩]) := by
  intro Z hZ
  have hst := put_step bs F T Z t' hT h1 (tok_front ho hf hZ) hf
  have h2 := hi (F ++ T ++ Z) (by
    rcases hF with rfl | ⟨c, cs, rfl, hg⟩
    · exact absurd rfl hne
    · exact .inr ⟨c, cs ++ T ++ Z, rfl, hg⟩)
  rw [show bs ++ (F ++ T ++ Z) = bs ++ F ++ T ++ Z by simp, hst] at h2
  rw [h2]
  simp only [List.append_assoc, List.cons_append, List.nil_append, List.length_append, Nat.add_assoc]
theorem invT_end {bs F : List UInt8} {us : List Tk} (hi : InvT bs us) (h1 : gapS false F = some false) (hF : Stops F) : cutL (bs ++ F) 0 = (us, 0, 0) := by
  have h2 := hi F hF
  have e1 : ((bs ++ F).take (bs ++ F).length).drop bs.length = F := by rw [List.take_length, List.drop_left]
  have s1 := gap_skip (bs ++ F) (bs ++ F).length (Nat.le_refl _) bs.length (by simp) false (by rw [e1]; exact h1)
  rw [if_neg (by decide)] at s1
  rw [h2, s1, cutL_eq, dif_neg (by omega), List.append_nil]
def tkey (t : Tk) : Nat × List UInt8 × Nat := (t.kind, t.text, t.n)
theorem like_key {ts us : List Tk} (h : us.map tkey = ts.map tkey) : Like 0 us ts := by
  have hl : us.length = ts.length := by have := congrArg List.length h; simpa using this
  refine ⟨by omega, fun i => ?_⟩
  rw [Nat.zero_add]
  by_cases hi : i < ts.length
  · have h2 : (us.map tkey)[i]? = (ts.map tkey)[i]? := by rw [h]
    rw [List.getElem?_map, List.getElem?_map, List.getElem?_eq_getElem hi, List.getElem?_eq_getElem (by omega)] at h2
    simp only [Option.map_some, Option.some.injEq, tkey, Prod.mk.injEq] at h2
    rw [tkA_lt hi, tkA_lt (by omega)]
    exact h2
  · rw [tkA_ge (by omega), tkA_ge (by omega)]; exact ⟨rfl, rfl, rfl⟩
theorem Like.defs_eq {m : Nat} {T T2 : List Tk} (h : Like m T T2) : ∀ (g g2 i k : Nat), i ≤ T2.length → T2.length + 2 ≤ g + i → T2.length + 2 ≤ g2 + i → defsT T g (m + i) k = (defsT T2 g2 i k).sh m (List.map (shD m))
  | 0, g2, i, k, hi, hf, hf2 => by omega
  | g + 1, 0, i, k, hi, hf, hf2 => by omega
  | g + 1, g2 + 1, i, k, hi, hf, hf2 => by
    have hlen := h.len
    rw [defsT_s, defsT_s]
    by_cases hi2 : T2.length ≤ i
    · rw [if_pos (by omega), if_pos hi2]; rfl
    · rw [if_neg (by omega), if_neg hi2, h.eqT]
      by_cases hnm : k = 256 ∧ isT (tkA T2 i) 1 [116, 121, 112, 101] = true
      · rw [if_pos hnm, if_pos hnm]; rfl
      · rw [if_neg hnm, if_neg hnm, h.want]
        refine bind_sh fun _ i1 h1 => ?_
        obtain ⟨rfl, hi1⟩ := wantT_le (by decide) h1
        rw [show m + (i + 1) = m + (i + 1) from rfl, h.name]
        refine bind_sh fun sn i2 h2 => ?_
        obtain ⟨g2', -, rfl⟩ := nameT_ok h2
        have hi2' : i + 1 < T2.length := nmT_lt g2'
        rw [h.want]
        refine bind_sh fun _ i3 h3 => ?_
        obtain ⟨rfl, hi3⟩ := wantT_le (by decide) h3
        have hx := h.expr (T.length + 2) (T2.length + 2) (i + 1 + 1 + 1) exM 0 (by omega) (by omega) (by omega)
        rw [shE_exM] at hx
        rw [hx]
        refine bind_sh fun N j h4 => ?_
        obtain ⟨b1, b2⟩ := expr_lt h4
        rw [h.want]
        refine bind_sh fun _ i5 h5 => ?_
        obtain ⟨rfl, hi5⟩ := wantT_le (by decide) h5
        rw [show m + (j + 1) = m + (j + 1) from rfl, Like.defs_eq h g g2 (j + 1) (k + 1) (by omega) (by omega) (by omega)]
        refine bind_sh fun D q hD => ?_
        show Pr.ok (_ :: _) _ = Pr.ok (_ :: _) _
        congr 2
        simp only [shD, id, Df.mk.injEq, true_and, and_true]
        omega
theorem parse_respaced {xs ys : List UInt8} {ts us : List Tk} (h1 : cutA xs = (ts, 0, 0)) (h2 : cutA ys = (us, 0, 0)) (hk : us.map tkey = ts.map tkey) :
    (parseA ys).2.1 = (parseA xs).2.1 ∧ (parseA ys).1.map bareD = (parseA xs).1.map bareD ∧ ((parseA xs).2.1 ≠ 0 → ∃ j, j ≤ ts.length ∧ (parseA xs).2.2 = plc ts xs.length j ∧ (parseA ys).2.2 = plc us ys.length j) := by
  have hl := like_key hk
  have hlen := hl.len
  have he := hl.defs_eq (us.length + 2) (ts.length + 2) 0 0 (Nat.zero_le _) (by omega) (by omega)
  rw [Nat.zero_add] at he
  have c1 : (cutA xs).2.1 = 0 := by rw [h1]
  have c2 : (cutA ys).2.1 = 0 := by rw [h2]
  have po := @parseA_ok xs c1
  have pe := @parseA_er xs c1
  have qo := @parseA_ok ys c2
  have qe := @parseA_er ys c2
  rw [h1] at po pe
  rw [h2] at qo qe
  simp only at po pe qo qe
  rcases hd : defsT ts (ts.length + 2) 0 0 with ⟨D, j⟩ | ⟨e, j⟩
  · rw [hd] at he
    rw [po hd, qo he]
    exact ⟨rfl, by rw [bare_pl, bare_pl, bare_sh], fun h => absurd rfl h⟩
  · rw [hd] at he
    rw [pe hd, qe he]
    obtain ⟨-, -, g3⟩ := defs_bad _ _ _ _ _ (Nat.zero_le _) (by omega) hd
    exact ⟨rfl, rfl, fun _ => ⟨j, g3, rfl, by rw [Nat.zero_add]⟩⟩

end Go.Proofs.Ytcljkkfpcomdcaa

set_option linter.unusedSimpArgs false
set_option linter.unusedVariables false
set_option maxRecDepth 100000
namespace Go.Proofs.Ytcljkkfpcomdcaa
open Go Go.Vc Go.RowKit Go.Proofs

def fill6 : List (List UInt8) := [[10, 9], [32, 35, 32, 116, 121, 112, 101, 32, 97, 32, 61, 32, 59] ++ [10], [35, 10, 32], [32]]
theorem fill6_gap : ∀ g ∈ fill6, gapS false g = some false := by decide +kernel
theorem fill6_stop : ∀ g ∈ fill6, Stops g ∧ g ≠ [] ∧ g.length ≤ 16 := by
  intro g hg
  simp only [fill6, List.mem_cons, List.not_mem_nil, or_false] at hg
  rcases hg with rfl | rfl | rfl | rfl <;> exact ⟨.inr ⟨_, _, rfl, by decide +kernel⟩, by decide, by decide⟩
theorem cut_zero {xs : List UInt8} (h : (cutA xs).2.1 = 0) : xs.length ≤ 65536 ∧ cutL xs 0 = ((cutA xs).1, 0, 0) ∧ cutA xs = ((cutA xs).1, 0, 0) := by
  have h2 := cutA_ok h
  have h3 : cutA xs = ((cutA xs).1, 0, 0) := Prod.ext rfl (Prod.ext h h2)
  by_cases hl : xs.length ≤ 65536
  · refine ⟨hl, ?_, h3⟩
    by_cases h0 : (cutL xs 0).2.1 = 0
    · rw [← ca_ok hl h0]; exact h3
    · rw [ca_bad hl h0] at h; exact absurd h h0
  · unfold cutA at h; rw [if_pos (by omega)] at h; cases h
def atV (t : Tk) : Value := .int .i64 (t.at_ : Int)
theorem tok_put {xs bs g : List UInt8} {us ts : List Tk} {i : Nat} (hc : cutL xs 0 = (ts, 0, 0)) (hi : i < ts.length) (hv : InvT bs us) (hg : g ∈ fill6) (hk : us.map tkey = (ts.take i).map tkey) :
    (tkA ts i).at_ ≤ (tkA ts i).fin ∧ (tkA ts i).fin ≤ xs.length ∧ ∃ u : Tk, InvT (bs ++ g ++ sub xs (tkA ts i).at_ (tkA ts i).fin) (us ++ [u]) ∧ u.at_ = (bs ++ g).length ∧ (us ++ [u]).map tkey = (ts.take (i + 1)).map tkey := by
  obtain ⟨t, ht⟩ : ∃ t, t = tkA ts i := ⟨_, rfl⟩
  rw [← ht]
  have hti : ts[i] = t := by rw [ht, tkA_lt hi]
  have h2 := (cutL_asc xs 0).2
  rw [hc] at h2
  obtain ⟨hl, ho⟩ := h2 t (hti ▸ List.getElem_mem hi)
  have hf := oneL_fin xs t.at_ hl (by rw [ho])
  rw [ho] at hf
  have hf1 : t.at_ < t.fin := hf.1
  have hf2 : t.fin ≤ xs.length := hf.2
  have hlen : (sub xs t.at_ t.fin).length = t.fin - t.at_ := by unfold sub; simp; omega
  have hw := tok_own hl ho hf1 hf2 (by omega)
  obtain ⟨s1, s2, -⟩ := fill6_stop g hg
  have := invT_step hv hw hlen.symm (fill6_gap g hg) s1 s2
  refine ⟨by omega, hf2, _, this, rfl, ?_⟩
  rw [List.map_append, hk, List.take_add_one, List.getElem?_eq_getElem hi, hti, List.map_append]
  rfl
theorem at_plc {us : List Tk} {n j : Nat} (hj : j ≤ us.length) : (us.map atV ++ [Value.int .i64 (n : Int)])[j]? = some (.int .i64 (plc us n j : Int)) := by
  rcases Nat.lt_or_ge j us.length with h | h
  · rw [List.getElem?_append_left (by simpa using h), List.getElem?_map, List.getElem?_eq_getElem h, plc_lt h, tkA_lt h]; rfl
  · have : j = us.length := by omega
    rw [this, List.getElem?_append_right (by simp), plc, if_neg (by omega)]; simp

theorem fill_spec (z : Int) (w0 : World) : Ca Try.prog 22 #[.int .i64 z] w0 (fun v w' => ∃ g, v = st g ∧ g ∈ fill6 ∧ w' = w0) := by
  refine Ca.of Try.func22 Try.ntmps22 rfl rfl ?_
  refine W.seq ?_
  refine W.region ?_
  refine WL.c rfl (o_ash (show _ = Value.string _ from rfl) ?_)
  refine WL.nil ?_
  refine W.seq ?_
  refine W.seq ?_
  refine W.region ?_
  refine WL.c rfl (o_mvh (show _ = Value.int _ _ from rfl) ?_)
  refine WL.c rfl (o_and rfl rfl ?_)
  refine WL.nil ?_
  refine W.block ?_
  refine W.seq ?_
  refine W.region ?_
  refine WL.c rfl (o_eq rfl rfl ?_)
  refine WL.c rfl (o_ash (show _ = Value.bool _ from rfl) ?_)
  refine WL.nil ?_
  refine W.cond rfl (fun c5 => ?_) (fun c5 => ?_)
  · try simp only [decide_eq_true_eq, decide_eq_false_iff_not, Bool.not_eq_true', Bool.not_eq_false', Bool.and_eq_true, Bool.or_eq_true, Bool.and_eq_false_iff, Bool.or_eq_false_iff] at c5
    refine W.seq ?_
    refine W.region ?_
    refine WL.c rfl (o_ash (show _ = Value.string _ from rfl) ?_)
    refine WL.nil ?_
    refine W.ret ?_
    refine ret1v rfl (show _ = Value.string _ from rfl) ?_
    exact ⟨_, rfl, by decide, rfl⟩
  · try simp only [decide_eq_true_eq, decide_eq_false_iff_not, Bool.not_eq_true', Bool.not_eq_false', Bool.and_eq_true, Bool.or_eq_true, Bool.and_eq_false_iff, Bool.or_eq_false_iff] at c5
    refine W.seq ?_
    refine W.region ?_
    refine WL.c rfl (o_eq rfl rfl ?_)
    refine WL.c rfl (o_ash (show _ = Value.bool _ from rfl) ?_)
    refine WL.nil ?_
    refine W.cond rfl (fun c7 => ?_) (fun c7 => ?_)
    · try simp only [decide_eq_true_eq, decide_eq_false_iff_not, Bool.not_eq_true', Bool.not_eq_false', Bool.and_eq_true, Bool.or_eq_true, Bool.and_eq_false_iff, Bool.or_eq_false_iff] at c7
      refine W.seq ?_
      refine W.region ?_
      refine WL.c rfl (o_ash (show _ = Value.string _ from rfl) ?_)
      refine WL.nil ?_
      refine W.ret ?_
      refine ret1v rfl (show _ = Value.string _ from rfl) ?_
      exact ⟨_, rfl, by decide, rfl⟩
    · try simp only [decide_eq_true_eq, decide_eq_false_iff_not, Bool.not_eq_true', Bool.not_eq_false', Bool.and_eq_true, Bool.or_eq_true, Bool.and_eq_false_iff, Bool.or_eq_false_iff] at c7
      refine W.seq ?_
      refine W.region ?_
      refine WL.c rfl (o_eq rfl rfl ?_)
      refine WL.c rfl (o_ash (show _ = Value.bool _ from rfl) ?_)
      refine WL.nil ?_
      refine W.cond rfl (fun c9 => ?_) (fun c9 => ?_)
      · try simp only [decide_eq_true_eq, decide_eq_false_iff_not, Bool.not_eq_true', Bool.not_eq_false', Bool.and_eq_true, Bool.or_eq_true, Bool.and_eq_false_iff, Bool.or_eq_false_iff] at c9
        refine W.seq ?_
        refine W.region ?_
        refine WL.c rfl (o_ash (show _ = Value.string _ from rfl) ?_)
        refine WL.nil ?_
        refine W.ret ?_
        refine ret1v rfl (show _ = Value.string _ from rfl) ?_
        exact ⟨_, rfl, by decide, rfl⟩
      · try simp only [decide_eq_true_eq, decide_eq_false_iff_not, Bool.not_eq_true', Bool.not_eq_false', Bool.and_eq_true, Bool.or_eq_true, Bool.and_eq_false_iff, Bool.or_eq_false_iff] at c9
        refine W.skip ?_
        refine W.seq ?_
        refine W.region ?_
        refine WL.c rfl (o_ash (show _ = Value.string _ from rfl) ?_)
        refine WL.nil ?_
        refine W.ret ?_
        refine ret1v rfl (show _ = Value.string _ from rfl) ?_
        exact ⟨_, rfl, by decide, rfl⟩
set_option maxHeartbeats 4000000 in
theorem stokens_walk0 (w0 : World) (xs : List UInt8) (hlen : xs.length ≤ 9223372036854775807) (v : Value) (zs : List Int) (hzl : zs.length ≤ 9223372036854775807) (hS : Sl w0 1 v zs.length (zs.map (Value.int .i64))) : Ca Try.prog 7 #[st xs, v] w0 (fun v w' => v = .bool true ∧ Ext w0 w') := by
  have hx : Ext w0 w0 := Only.refl _ _
  refine Ca.of Try.func7 Try.ntmps7 rfl rfl ?_
  refine W.seq ?_
  refine W.region ?_
  refine WL.c rfl (o_ash (show _ = Value.bool _ from rfl) ?_)
  refine WL.nil ?_
  refine W.seq ?_
  refine W.seq ?_
  refine W.region ?_
  refine WL.c rfl (o_call Try.call11 ln ((first_spec _).mono ?_))
  rintro v18 w18 ⟨rfl, hx18⟩
  replace hx := hx.tr hx18
  refine WL.c rfl (o_not' rfl ?_)
  refine WL.nil ?_
  refine W.condF' rfl (rfl) ?_
  refine W.skip ?_
  refine W.seq ?_
  refine W.region ?_
  refine WL.c rfl (o_mvh (show _ = Value.string _ from rfl) ?_)
  refine WL.c rfl (o_call Try.call21 (lc rfl ln) ((cut_spec xs _ hlen).mono ?_))
  rintro v22 w22 ⟨vT, rfl, ownT, hx22⟩
  replace hx := hx.tr hx22
  refine WL.c rfl (o_mvh (by first | exact (show _ = Value.tuple _ from rfl) | exact rfl) ?_)
  refine WL.c rfl (o_ext rfl rfl ?_)
  refine WL.c rfl (o_ext rfl rfl ?_)
  refine WL.c rfl (o_alB TI49 ?_)
  intro wa hCa hxa hsa
  refine WL.c rfl (o_ash (by first | exact (show _ = Value.slice _ _ _ from rfl) | exact rfl) ?_)
  refine WL.u (o_stA TI49 rfl (show _ = Value.agg (faultV (cutA xs).2.1 (cutA xs).2.2) from rfl) rfl rfl hCa rfl ?_)
  intro w6z hB6 hob hsb
  have hxb := Ext.own hxa (Nat.le_refl _) hob
  obtain ⟨b6, hb6⟩ : ∃ c, c = w22.heap.size := ⟨_, rfl⟩
  rw [← hb6] at hB6 ⊢
  clear hCa hxa hsa hob hsb
  replace hx := hx.tr hxb
  replace ownT := own_ext ownT hxb
  clear hxb
  refine WL.nil ?_
  refine W.seq ?_
  refine W.seq ?_
  refine W.region ?_
  refine WL.c rfl (o_fa 0 TI49 rfl TI32 rfl rfl ?_)
  refine WL.c rfl (o_ld TI32 rfl rfl (cell_of hB6 rfl) ?_)
  refine WL.c rfl (o_ne rfl rfl ?_)
  refine WL.nil ?_
  refine W.cond rfl (fun c27 => ?_) (fun c27 => ?_)
  · try simp only [decide_eq_true_eq, decide_eq_false_iff_not, Bool.not_eq_true', Bool.not_eq_false', Bool.and_eq_true, Bool.or_eq_true, Bool.and_eq_false_iff, Bool.or_eq_false_iff] at c27
    have hcz : (cutA xs).2.1 ≠ 0 := by omega
    refine W.seq ?_
    refine W.region ?_
    refine WL.c rfl (o_mvh (show _ = Value.string _ from rfl) ?_)
    refine WL.c rfl (o_call Try.call19 (lc rfl ln) ((parse_spec xs _ hlen).mono ?_))
    rintro v30 w30 ⟨dv30, V30, rfl, hD30, hxp30⟩
    replace hx := hx.tr hxp30
    replace ownT := own_ext ownT hxp30
    replace hB6 := hxp30.blk hB6 (fun h => h)
    refine WL.c rfl (o_mvh (by first | exact (show _ = Value.tuple _ from rfl) | exact rfl) ?_)
    refine WL.c rfl (o_ext rfl rfl ?_)
    refine WL.c rfl (o_ext rfl rfl ?_)
    refine WL.c rfl (o_alB TI28 ?_)
    intro wa hCs hxs hss
    refine WL.c rfl (o_alB TI49 ?_)
    intro wb hCf hxf hsf
    replace hCs := hxf.blk hCs (fun h => h)
    refine WL.u (o_stA TI28 rfl (show _ = Value.agg #[dv30] from rfl) rfl (by simp [own_one hD30.row]) hCs rfl ?_)
    intro wc hB7 hos hsz
    replace hCf := hos.blk hCf (by omega)
    refine WL.u (o_stA TI49 rfl (show _ = Value.agg (faultV (parseA xs).2.1 (parseA xs).2.2) from rfl) rfl rfl hCf rfl ?_)
    intro w8z hB8 hof hsz2
    replace hB7 := hof.blk hB7 (by omega)
    have hxn : Ext w30 w8z := ((hxs.tr hxf).trans' hos (fun _ h => h) (fun k hk he => by omega)).trans' hof (fun _ h => h) (fun k hk he => by omega)
    obtain ⟨b7, hb7⟩ : ∃ b, b = w30.heap.size := ⟨_, rfl⟩
    obtain ⟨b8, hb8⟩ : ∃ b, b = wa.heap.size := ⟨_, rfl⟩
    rw [← hb7] at hB7 ⊢
    rw [← hb8] at hB8 ⊢
    clear hCs hCf hos hof
    replace hx := hx.tr hxn
    replace ownT := own_ext ownT hxn
    replace hB6 := hxn.blk hB6 (fun h => h)
    replace hD30 := hD30.ext hxn
    clear hxn
    refine WL.nil ?_
    refine W.seq ?_
    refine W.region ?_
    refine WL.c rfl (o_ldA TI49 rfl rfl (cells_all hB8) rfl ?_)
    refine WL.c rfl (o_ldA TI49 rfl rfl (cells_all hB6) rfl ?_)
    refine WL.c rfl (o_eqR TI49 (by kernel_rfl) (by kernel_rfl) rfl rfl (.int TI32 (by decide) rfl rfl (.int TI3 (by decide) rfl rfl .nil)) ?_)
    refine WL.c rfl (o_ash (show _ = Value.bool _ from rfl) ?_)
    refine WL.nil ?_
    refine W.ret ?_
    refine ret1v rfl (show _ = Value.bool _ from rfl) ?_
    exact ⟨congrArg Value.bool (by rw [parseA_cut hcz]; simp), hx⟩
  · try simp only [decide_eq_true_eq, decide_eq_false_iff_not, Bool.not_eq_true', Bool.not_eq_false', Bool.and_eq_true, Bool.or_eq_true, Bool.and_eq_false_iff, Bool.or_eq_false_iff] at c27
    have hcz : (cutA xs).2.1 = 0 := by omega
    obtain ⟨hl64, hcu, hcA⟩ := cut_zero hcz
    obtain ⟨ts, hts⟩ : ∃ ts, ts = (cutA xs).1 := ⟨_, rfl⟩
    rw [← hts] at hcu hcA ownT
    rw [hcz, cutA_ok hcz] at hB6
    have hcnt : ts.length ≤ 65536 := hts ▸ (cutA_len xs).1
    have hasc : ∀ {i j : Nat}, i < j → j < ts.length → (tkA ts i).at_ < (tkA ts j).at_ := fun h hj => by
      have := (cut_lt (xs := xs) h (by rw [← hts]; exact hj)).2
      rw [← hts] at this; exact this
    have hatl : ∀ j, j < ts.length → (tkA ts j).at_ < xs.length := fun j hj => by
      have h1 := cut_in (xs := xs) (i := j) (by rw [← hts]; exact hj)
      rw [← hts] at h1
      have := h1.lt; have := h1.le; omega
    clear hts
    obtain ⟨wl, hwl⟩ : ∃ n, n = w6z.heap.size := ⟨_, rfl⟩
    have hT0 : ∀ j, vT.ownBlock = some j → j < wl := fun j hj => by have := (ownT.lt j hj).2; omega
    have hz0 := hx.size
    refine W.skip ?_
    refine W.seq ?_
    refine W.region ?_
    refine WL.c rfl (o_ash (by first | exact (show _ = Value.slice _ _ _ from rfl) | exact rfl) ?_)
    refine WL.nil ?_
    refine W.seq ?_
    refine W.region ?_
    refine WL.c rfl (o_ash (by first | exact (show _ = Value.slice _ _ _ from rfl) | exact rfl) ?_)
    refine WL.nil ?_
    refine W.seq ?_
    refine W.seq ?_
    refine W.region ?_
    refine WL.c rfl (o_ash (show _ = Value.int _ _ from rfl) ?_)
    refine WL.nil ?_
    refine W.block ?_
    refine W.loop (fun e w => ∃ (i : Nat) (us : List Tk) (bs : List UInt8) (vb va : Value), i ≤ ts.length ∧ us.map tkey = (ts.take i).map tkey ∧ us.length = i ∧ InvT bs us ∧ bs.length ≤ i * 65568 ∧ e 0 = st xs ∧ e 1 = v ∧ e 5 = vT ∧ e 9 = vb ∧ e 10 = va ∧ e 11 = .int .i64 (i : Int) ∧ w.ownsRow 0 58 5 vT ts.length (flat ts) ∧ w.ownsRow wl 5 1 vb bs.length (bs.map bv) ∧ w.ownsRow wl 3 1 va us.length (us.map atV) ∧ wl ≤ w.heap.size ∧ Ext w0 w) (fun e w => ts.length - (intOf (e 11)).toNat) ?_ ?_
    · exact ⟨0, [], [], _, _, Nat.zero_le _, rfl, rfl, invT_nil, Nat.zero_le _, rfl, rfl, rfl, rfl, rfl, rfl, own_mono ownT (Nat.zero_le _), World.ownsRow_nil _ _ _ _, World.ownsRow_nil _ _ _ _, by omega, hx⟩
    rintro e w ⟨i, us, bs, vb, va, hi, hk, hul, hiv, hbl, h0, h1, h5, h9, h10, h11, ownT, ownB, ownA, hzw, hx⟩
    have hm11 := h11
    have hll : wl = w6z.heap.size := hwl
    refine W.seq ?_
    refine W.seq ?_
    refine W.region ?_
    refine WL.c rfl (o_mvh h11 ?_)
    refine WL.c rfl (o_mvh h5 ?_)
    refine WL.c rfl (o_lenR TI54 rfl (Sl.own ownT) ?_)
    refine WL.c rfl (o_lt rfl rfl ?_)
    refine WL.nil ?_
    refine W.cond rfl (fun c39 => ?_) (fun c39 => ?_)
    · try simp only [decide_eq_true_eq, decide_eq_false_iff_not, Bool.not_eq_true', Bool.not_eq_false', Bool.and_eq_true, Bool.or_eq_true, Bool.and_eq_false_iff, Bool.or_eq_false_iff] at c39
      have hil : i < ts.length := by omega
      refine W.skip ?_
      refine W.seq ?_
      refine W.block ?_
      refine W.seq ?_
      refine W.region ?_
      refine WL.c rfl (o_ash (show _ = Value.int _ _ from rfl) ?_)
      refine WL.nil ?_
      refine W.seq ?_
      refine W.seq ?_
      refine W.region ?_
      refine WL.c rfl (o_mvh h1 ?_)
      refine WL.c rfl (o_lenR TI22 rfl (hS.ext hx) ?_)
      refine WL.c rfl (o_gt rfl rfl ?_)
      refine WL.nil ?_
      refine W.cut (fun e1 w1 => ∃ kk : Int, e1 12 = .int .i64 kk ∧ e1 0 = st xs ∧ e1 1 = v ∧ e1 5 = vT ∧ e1 9 = vb ∧ e1 10 = va ∧ e1 11 = .int .i64 (i : Int) ∧ w1 = w) ?_ ?_
      · -- both ways
        refine W.cond rfl (fun c44 => ?_) (fun c44 => ?_)
        · try simp only [decide_eq_true_eq, decide_eq_false_iff_not, Bool.not_eq_true', Bool.not_eq_false', Bool.and_eq_true, Bool.or_eq_true, Bool.and_eq_false_iff, Bool.or_eq_false_iff] at c44
          have hzp : 0 < zs.length := by omega
          have hmi := Nat.mod_lt i hzp
          have hv51 : (zs.map (Value.int .i64))[i % zs.length]? = some (.int .i64 zs[i % zs.length]) := by simp [hmi]
          refine W.region ?_
          refine WL.c rfl (o_mvh h1 ?_)
          refine WL.c rfl (o_mvh h11 ?_)
          refine WL.c rfl (o_mvh h1 ?_)
          refine WL.c rfl (o_lenR TI22 rfl (hS.ext hx) ?_)
          refine WL.c rfl (o_remN rfl rfl (by omega) (by omega) ?_)
          refine WL.c rfl (o_ix1 TI22 TI3 rfl rfl (hS.ext hx) (hmi) ?_)
          intro b50 o50 hc50 hb50
          refine WL.c rfl (o_ld TI3 rfl rfl (hc50.trans hv51) ?_)
          refine WL.c rfl (o_ash (show _ = Value.int _ _ from rfl) ?_)
          refine WL.nil ?_
          exact ⟨_, rfl, h0, h1, h5, h9, h10, h11, rfl⟩
        · try simp only [decide_eq_true_eq, decide_eq_false_iff_not, Bool.not_eq_true', Bool.not_eq_false', Bool.and_eq_true, Bool.or_eq_true, Bool.and_eq_false_iff, Bool.or_eq_false_iff] at c44
          refine W.skip ?_
          exact ⟨_, rfl, h0, h1, h5, h9, h10, h11, rfl⟩
      rintro e w ⟨kk, h12, h0, h1, h5, h9, h10, h11, rfl⟩
      refine W.seq ?_
      refine W.region ?_
      refine WL.c rfl (o_mvh h9 ?_)
      refine WL.c rfl (o_mvh h12 ?_)
      refine WL.c rfl (o_call Try.call22 (lc rfl ln) ((fill_spec kk _).mono ?_))
      rintro v54 w54 ⟨g1, rfl, hg1, rfl⟩
      obtain ⟨-, -, hg1l⟩ := fill6_stop g1 hg1
      have hAB := own_row_off ownB ownA (by decide)
      have hTB := own_row_off ownB ownT (by decide)
      have hBl0 := ownB.lt
      refine WL.c rfl (o_apS (wl) TI43 TI5 TI9 rfl rfl ownB rfl (by rw [maxLen_eq]; omega) (by omega) (by omega) ?_)
      intro v55 w55 ownB hoB
      replace ownA := own_only ownA hoB hAB
      replace ownT := own_only ownT hoB hTB
      replace hx := hx.trans' hoB (fun _ h => h) (fun j hj he => by have := (hBl0 j he).1; omega)
      have hz55 := hoB.size
      rw [← List.map_append, ← List.length_append] at ownB
      clear hoB hAB hTB hBl0
      refine WL.c rfl (o_ash (by first | exact (show _ = Value.slice _ _ _ from rfl) | exact rfl) ?_)
      refine WL.nil ?_
      refine W.seq ?_
      refine W.region ?_
      refine WL.c rfl (o_mvh h10 ?_)
      refine WL.c rfl (o_mvh (by first | exact (show _ = Value.slice _ _ _ from rfl) | exact rfl) ?_)
      refine WL.c rfl (o_lenR TI43 rfl (Sl.own ownB) ?_)
      have hBA := own_row_off ownA ownB (by decide)
      have hTA := own_row_off ownA ownT (by decide)
      have hAl0 := ownA.lt
      refine WL.ap1 (wl) rfl rfl TI22 TI3 (show _ = Value.int _ _ from rfl) rfl ownA (by decide) (by decide) rfl (one1 rfl) rfl (by rw [maxLen_eq]; omega) (by omega) (by omega) ?_
      intro v60 w60 ownA hoA
      replace ownB := own_only ownB hoA hBA
      replace ownT := own_only ownT hoA hTA
      replace hx := hx.trans' hoA (fun _ h => h) (fun j hj he => by have := (hAl0 j he).1; omega)
      have hz60 := hoA.size
      replace ownA : w60.ownsRow wl 3 1 v60 (us.length + 1) (us.map atV ++ [.int .i64 ((bs ++ g1).length : Int)]) := ownA
      clear hoA hBA hTA hAl0
      refine WL.c rfl (o_ash (by first | exact (show _ = Value.slice _ _ _ from rfl) | exact rfl) ?_)
      refine WL.nil ?_
      obtain ⟨bT, oT, cT, hvT, hcT⟩ := Sl.tok (Sl.own ownT) hil
      have hTl := ownT.lt
      obtain ⟨hf1, hf2, u, hv2, hua, hk2⟩ := tok_put hcu hil hiv hg1 hk
      have hsl := sub_len xs (tkA ts i).at_ (tkA ts i).fin
      have hat : [Value.int .i64 ((bs ++ g1).length : Int)] = [u].map atV := by simp [atV, hua]
      rw [hat] at ownA
      rw [hvT] at h5
      refine W.tail 13 rfl (by kernel_rfl) ?_
      refine WS.c rfl ((SO.o rfl (o_mvh (by first | exact (show _ = Value.slice _ _ _ from rfl) | exact rfl) ⟨rfl, rfl⟩))) ?_
      refine WS.c rfl ((SO.o rfl (o_mvh h0 ⟨rfl, rfl⟩))) ?_
      refine WS.c rfl ((SO.o rfl (o_mvh h5 ⟨rfl, rfl⟩))) ?_
      refine WS.c rfl ((SO.o rfl (o_mvh h11 ⟨rfl, rfl⟩))) ?_
      refine WS.c rfl ((SO.o rfl (o_ixB TI54 TI58 rfl rfl (by omega) ⟨rfl, rfl⟩))) ?_
      refine WS.c rfl ((SO.o rfl (o_fa 3 TI58 rfl TI3 rfl rfl ⟨rfl, rfl⟩))) ?_
      refine WS.c rfl ((SO.o rfl (o_ld TI3 rfl rfl (hcT 3 _ rfl) ⟨rfl, rfl⟩))) ?_
      refine WS.c rfl ((SO.o rfl (o_mvh h5 ⟨rfl, rfl⟩))) ?_
      refine WS.c rfl ((SO.o rfl (o_mvh h11 ⟨rfl, rfl⟩))) ?_
      refine WS.c rfl ((SO.o rfl (o_ixB TI54 TI58 rfl rfl (by omega) ⟨rfl, rfl⟩))) ?_
      refine WS.c rfl ((SO.o rfl (o_fa 4 TI58 rfl TI3 rfl rfl ⟨rfl, rfl⟩))) ?_
      refine WS.c rfl ((SO.o rfl (o_ld TI3 rfl rfl (hcT 4 _ rfl) ⟨rfl, rfl⟩))) ?_
      refine WS.c rfl ((SO.o rfl (o_ssT TI9 rfl (Lo.s rfl) (Hi.s rfl) (by omega) hf2 ⟨rfl, rfl⟩))) ?_
      refine WS.nil ?_
      have hxd := Only.drew w60
      replace hx := hx.tr hxd
      replace ownA := own_ext ownA hxd
      replace ownB := own_ext ownB hxd
      replace ownT := own_ext ownT hxd
      have hzd := hxd.size
      clear hxd
      generalize w60.drew = wd at *
      have hAB := own_row_off ownB ownA (by decide)
      have hTB := own_row_off ownB ownT (by decide)
      have hBl0 := ownB.lt
      refine WL.c rfl (o_apS (wl) TI43 TI5 TI9 rfl rfl ownB rfl (by rw [maxLen_eq]; simp only [List.length_append]; unfold sub at hsl; omega) (by simp only [List.length_append]; unfold sub at hsl; omega) (by omega) ?_)
      intro v74 w74 ownB hoB
      replace ownA := own_only ownA hoB hAB
      replace ownT := own_only ownT hoB hTB
      replace hx := hx.trans' hoB (fun _ h => h) (fun j hj he => by have := (hBl0 j he).1; omega)
      have hz74 := hoB.size
      rw [← List.map_append, ← List.length_append] at ownB
      clear hoB hAB hTB hBl0
      refine WL.c rfl (o_ash (by first | exact (show _ = Value.slice _ _ _ from rfl) | exact rfl) ?_)
      refine WL.nil ?_
      refine W.region ?_
      refine WL.c rfl (o_mvh h11 ?_)
      refine WL.c rfl (o_addi rfl rfl (by omega) ?_)
      refine WL.c rfl (o_ash (show _ = Value.int _ _ from rfl) ?_)
      refine WL.nil ?_
      refine ⟨⟨i + 1, us ++ [u], bs ++ g1 ++ sub xs (tkA ts i).at_ (tkA ts i).fin, v74, v60, by omega, hk2, by simp; omega, hv2, by simp only [List.length_append]; omega, h0, h1, h5.trans hvT.symm, rfl, rfl, rfl, ownT, ownB, by rw [List.length_append, List.map_append]; exact ownA, by omega, hx⟩, ?_⟩
      show ts.length - ((i : Int) + 1).toNat < _
      rw [hm11]; simp [intOf]; omega
    · try simp only [decide_eq_true_eq, decide_eq_false_iff_not, Bool.not_eq_true', Bool.not_eq_false', Bool.and_eq_true, Bool.or_eq_true, Bool.and_eq_false_iff, Bool.or_eq_false_iff] at c39
      have hin : i = ts.length := by omega
      subst hin
      rw [List.take_length] at hk
      refine W.exit ?_
      refine W.seq ?_
      refine W.region ?_
      refine WL.c rfl (o_mvh h9 ?_)
      refine WL.c rfl (o_mvh h1 ?_)
      refine WL.c rfl (o_lenR TI22 rfl (hS.ext hx) ?_)
      refine WL.c rfl (o_call Try.call22 (lc rfl ln) ((fill_spec _ _).mono ?_))
      rintro v78 w78 ⟨g2, rfl, hg2, rfl⟩
      obtain ⟨hg2s, -, hg2l⟩ := fill6_stop g2 hg2
      have hAB := own_row_off ownB ownA (by decide)
      have hTB := own_row_off ownB ownT (by decide)
      have hBl0 := ownB.lt
      refine WL.c rfl (o_apS (wl) TI43 TI5 TI9 rfl rfl ownB rfl (by rw [maxLen_eq]; omega) (by omega) (by omega) ?_)
      intro v79 w79 ownB hoB
      replace ownA := own_only ownA hoB hAB
      replace ownT := own_only ownT hoB hTB
      replace hx := hx.trans' hoB (fun _ h => h) (fun j hj he => by have := (hBl0 j he).1; omega)
      have hz79 := hoB.size
      rw [← List.map_append, ← List.length_append] at ownB
      clear hoB hAB hTB hBl0
      refine WL.c rfl (o_ash (by first | exact (show _ = Value.slice _ _ _ from rfl) | exact rfl) ?_)
      refine WL.nil ?_
      refine W.seq ?_
      refine W.region ?_
      refine WL.c rfl (o_mvh h10 ?_)
      refine WL.c rfl (o_mvh (by first | exact (show _ = Value.slice _ _ _ from rfl) | exact rfl) ?_)
      refine WL.c rfl (o_lenR TI43 rfl (Sl.own ownB) ?_)
      have hBA := own_row_off ownA ownB (by decide)
      have hTA := own_row_off ownA ownT (by decide)
      have hAl0 := ownA.lt
      refine WL.ap1 (wl) rfl rfl TI22 TI3 (show _ = Value.int _ _ from rfl) rfl ownA (by decide) (by decide) rfl (one1 rfl) rfl (by rw [maxLen_eq]; omega) (by omega) (by omega) ?_
      intro v84 w84 ownA hoA
      replace ownB := own_only ownB hoA hBA
      replace ownT := own_only ownT hoA hTA
      replace hx := hx.trans' hoA (fun _ h => h) (fun j hj he => by have := (hAl0 j he).1; omega)
      have hz84 := hoA.size
      replace ownA : w84.ownsRow wl 3 1 v84 (us.length + 1) (us.map atV ++ [.int .i64 ((bs ++ g2).length : Int)]) := ownA
      clear hoA hBA hTA hAl0
      refine WL.c rfl (o_ash (by first | exact (show _ = Value.slice _ _ _ from rfl) | exact rfl) ?_)
      refine WL.nil ?_
      refine W.seq ?_
      refine W.seq ?_
      refine W.region ?_
      refine WL.c rfl (o_mvh (by first | exact (show _ = Value.slice _ _ _ from rfl) | exact rfl) ?_)
      refine WL.c rfl (o_lenR TI43 rfl (Sl.own ownB) ?_)
      refine WL.c rfl (o_gt rfl rfl ?_)
      refine WL.nil ?_
      refine W.cond rfl (fun c87 => ?_) (fun c87 => ?_)
      · try simp only [decide_eq_true_eq, decide_eq_false_iff_not, Bool.not_eq_true', Bool.not_eq_false', Bool.and_eq_true, Bool.or_eq_true, Bool.and_eq_false_iff, Bool.or_eq_false_iff] at c87
        refine W.seq ?_
        refine W.region ?_
        refine WL.c rfl (o_ash (show _ = Value.bool _ from rfl) ?_)
        refine WL.nil ?_
        refine W.ret ?_
        refine ret1v rfl (show _ = Value.bool _ from rfl) ?_
        exact ⟨rfl, hx⟩
      · try simp only [decide_eq_true_eq, decide_eq_false_iff_not, Bool.not_eq_true', Bool.not_eq_false', Bool.and_eq_true, Bool.or_eq_true, Bool.and_eq_false_iff, Bool.or_eq_false_iff] at c87
        obtain ⟨ys, hys⟩ : ∃ ys, ys = bs ++ g2 := ⟨_, rfl⟩
        have hcy : cutA ys = (us, 0, 0) := by
          have h := invT_end hiv (fill6_gap g2 hg2) hg2s
          rw [← hys] at h
          have hl : ys.length ≤ 65536 := by rw [hys]; omega
          rw [ca_ok hl (by rw [h]), h]
        rw [← hys] at ownB ownA
        have hyl : ys.length ≤ 65536 := by rw [hys]; omega
        obtain ⟨e1, e2, e3⟩ := parse_respaced hcA hcy hk
        replace hB6 : True := trivial
        refine W.skip ?_
        refine W.seq ?_
        refine W.region ?_
        refine WL.c rfl (o_mvh h0 ?_)
        refine WL.c rfl (o_call Try.call19 (lc rfl ln) ((parse_spec xs _ hlen).mono ?_))
        rintro v90 w90 ⟨dv90, V90, rfl, hD90, hxp90⟩
        replace hx := hx.tr hxp90
        replace ownT := own_ext ownT hxp90
        replace ownB := own_ext ownB hxp90
        replace ownA := own_ext ownA hxp90
        refine WL.c rfl (o_mvh (by first | exact (show _ = Value.tuple _ from rfl) | exact rfl) ?_)
        refine WL.c rfl (o_ext rfl rfl ?_)
        refine WL.c rfl (o_ext rfl rfl ?_)
        refine WL.c rfl (o_alB TI28 ?_)
        intro wa hCs hxs hss
        refine WL.c rfl (o_alB TI49 ?_)
        intro wb hCf hxf hsf
        replace hCs := hxf.blk hCs (fun h => h)
        refine WL.u (o_stA TI28 rfl (show _ = Value.agg #[dv90] from rfl) rfl (by simp [own_one hD90.row]) hCs rfl ?_)
        intro wc hB13 hos hsz
        replace hCf := hos.blk hCf (by omega)
        refine WL.u (o_stA TI49 rfl (show _ = Value.agg (faultV (parseA xs).2.1 (parseA xs).2.2) from rfl) rfl rfl hCf rfl ?_)
        intro w14z hB14 hof hsz2
        replace hB13 := hof.blk hB13 (by omega)
        have hxn : Ext w90 w14z := ((hxs.tr hxf).trans' hos (fun _ h => h) (fun k hk he => by omega)).trans' hof (fun _ h => h) (fun k hk he => by omega)
        obtain ⟨b13, hb13⟩ : ∃ b, b = w90.heap.size := ⟨_, rfl⟩
        obtain ⟨b14, hb14⟩ : ∃ b, b = wa.heap.size := ⟨_, rfl⟩
        rw [← hb13] at hB13 ⊢
        rw [← hb14] at hB14 ⊢
        clear hCs hCf hos hof
        replace hx := hx.tr hxn
        replace ownT := own_ext ownT hxn
        replace ownB := own_ext ownB hxn
        replace ownA := own_ext ownA hxn
        replace hD90 := hD90.ext hxn
        clear hxn
        refine WL.nil ?_
        refine W.seq ?_
        refine W.region ?_
        refine WL.c rfl (o_mvh (by first | exact (show _ = Value.slice _ _ _ from rfl) | exact rfl) ?_)
        refine WL.c rfl (o_cvBS TI43 TI5 TI9 rfl (Sl.own ownB) ?_)
        refine WL.c rfl (o_call Try.call19 (lc rfl ln) ((parse_spec ys _ (by omega)).mono ?_))
        rintro v96 w96 ⟨dv96, V96, rfl, hD96, hxp96⟩
        replace hx := hx.tr hxp96
        replace ownT := own_ext ownT hxp96
        replace ownB := own_ext ownB hxp96
        replace ownA := own_ext ownA hxp96
        replace hB13 := hxp96.blk hB13 (fun h => h)
        replace hB14 := hxp96.blk hB14 (fun h => h)
        replace hD90 := hD90.ext hxp96
        refine WL.c rfl (o_mvh (by first | exact (show _ = Value.tuple _ from rfl) | exact rfl) ?_)
        refine WL.c rfl (o_ext rfl rfl ?_)
        refine WL.c rfl (o_ext rfl rfl ?_)
        refine WL.c rfl (o_alB TI28 ?_)
        intro wa hCs hxs hss
        refine WL.c rfl (o_alB TI49 ?_)
        intro wb hCf hxf hsf
        replace hCs := hxf.blk hCs (fun h => h)
        refine WL.u (o_stA TI28 rfl (show _ = Value.agg #[dv96] from rfl) rfl (by simp [own_one hD96.row]) hCs rfl ?_)
        intro wc hB15 hos hsz
        replace hCf := hos.blk hCf (by omega)
        refine WL.u (o_stA TI49 rfl (show _ = Value.agg (faultV (parseA ys).2.1 (parseA ys).2.2) from rfl) rfl rfl hCf rfl ?_)
        intro w16z hB16 hof hsz2
        replace hB15 := hof.blk hB15 (by omega)
        have hxn : Ext w96 w16z := ((hxs.tr hxf).trans' hos (fun _ h => h) (fun k hk he => by omega)).trans' hof (fun _ h => h) (fun k hk he => by omega)
        obtain ⟨b15, hb15⟩ : ∃ b, b = w96.heap.size := ⟨_, rfl⟩
        obtain ⟨b16, hb16⟩ : ∃ b, b = wa.heap.size := ⟨_, rfl⟩
        rw [← hb15] at hB15 ⊢
        rw [← hb16] at hB16 ⊢
        clear hCs hCf hos hof
        replace hx := hx.tr hxn
        replace ownT := own_ext ownT hxn
        replace ownB := own_ext ownB hxn
        replace ownA := own_ext ownA hxn
        replace hB13 := hxn.blk hB13 (fun h => h)
        replace hB14 := hxn.blk hB14 (fun h => h)
        replace hD90 := hD90.ext hxn
        replace hD96 := hD96.ext hxn
        clear hxn
        refine WL.nil ?_
        refine W.seq ?_
        refine W.seq ?_
        obtain ⟨wr, hwr⟩ : ∃ wr, wr = w16z.drew := ⟨_, rfl⟩
        have hxd : Ext w16z wr := hwr ▸ Only.drew w16z
        replace hx := hx.tr hxd
        replace ownT := own_ext ownT hxd
        replace ownB := own_ext ownB hxd
        replace ownA := own_ext ownA hxd
        replace hB13 := hxd.blk hB13 (fun h => h)
        replace hB14 := hxd.blk hB14 (fun h => h)
        replace hD90 := hD90.ext hxd
        replace hB15 := hxd.blk hB15 (fun h => h)
        replace hB16 := hxd.blk hB16 (fun h => h)
        replace hD96 := hD96.ext hxd
        have hok1 := parse_ok xs
        have hok2 := parse_ok ys
        refine W.drawF 10 [] [] [(13, fun v _ => v = _), (14, fun v _ => v = _), (15, fun v _ => v = _), (16, fun v _ => v = _), (5, fun v _ => v = _), (10, fun v _ => v = _)] rfl (by kernel_rfl) (by kernel_rfl) ⟨Mono.eq, Mono.eq, Mono.eq, Mono.eq, Mono.eq, Mono.eq, trivial⟩ ⟨rfl, rfl, rfl, rfl, h5, rfl, trivial⟩ ?_
        refine WDS.p rfl (by decide) (fun e w hR hh => by obtain ⟨h14, -⟩ := hh; rw [← hwr] at hR; exact SG.n (o_fa 0 TI49 rfl TI32 rfl h14 ⟨rfl, Only.refl No _⟩)) ?_
        refine WDS.p rfl (by decide) (fun e w hR hh => by obtain ⟨h99, -⟩ := hh; rw [← hwr] at hR; exact SG.n (o_ld TI32 rfl h99 (cell_of (hR.blk hB14 (fun hF => hF.elim)) rfl) ⟨rfl, Only.refl No _⟩)) ?_
        refine WDS.p rfl (by decide) (fun e w hR hh => by obtain ⟨h16, -⟩ := hh; exact SG.n (o_fa 0 TI49 rfl TI32 rfl h16 ⟨rfl, Only.refl No _⟩)) ?_
        refine WDS.p rfl (by decide) (fun e w hR hh => by obtain ⟨h101, -⟩ := hh; rw [← hwr] at hR; exact SG.n (o_ld TI32 rfl h101 (cell_of (hR.blk hB16 (fun hF => hF.elim)) rfl) ⟨rfl, Only.refl No _⟩)) ?_
        refine WDS.p rfl (by decide) (fun e w hR hh => by obtain ⟨h102, h100, -⟩ := hh; exact SG.n (o_ne h100 h102 ⟨rfl, Only.refl No _⟩)) ?_
        refine WDS.p rfl (by decide) (fun e w hR hh => by obtain ⟨h103, -⟩ := hh; exact SG.n (o_mvh h103 ⟨rfl, Only.refl No _⟩)) ?_
        refine WDS.p rfl (by decide) (fun e w hR hh => by obtain ⟨h104, h13, -⟩ := hh; rw [← hwr] at hR; exact SG.g h104 (by simp [e1]) (o_ldA TI28 rfl h13 (show Cells _ b13 0 [dv90] from Cells.of (hR.blk hB13 (fun hF => hF.elim)) 0 _ (by simp)) rfl ⟨rfl, Only.refl No _⟩)) ?_
        refine WDS.q 0 (fun u w => ∃ bv U, u = .agg #[bv] ∧ Defs w wr.heap.size ((parseA xs).1.map bareD) bv U) (fun u w w2 hR hh => by obtain ⟨bv, U, h1, h2⟩ := hh; exact ⟨bv, U, h1, h2.ext (hR.mono (fun _ _ hF => hF.elim))⟩) (by kernel_rfl) rfl (by decide) (fun e w hR hh => by obtain ⟨h105, h104, -⟩ := hh; rw [← hwr] at hR; exact SG.g h104 (by simp [e1]) (o_call Try.call23 (lc h105 ln) ((bare_spec (parseA xs).1 dv90 V90 _ (hD90.rd.ext (hR.mono (fun _ _ hF => hF.elim))) hok1).mono (fun v w' ⟨bv, U, h1, h2, h3⟩ => ⟨⟨bv, U, h1, h2.mono hR.size⟩, h3⟩)))) ?_
        refine WDS.p rfl (by decide) (fun e w hR hh => by obtain ⟨h104, h15, -⟩ := hh; rw [← hwr] at hR; exact SG.g h104 (by simp [e1]) (o_ldA TI28 rfl h15 (show Cells _ b15 0 [dv96] from Cells.of (hR.blk hB15 (fun hF => hF.elim)) 0 _ (by simp)) rfl ⟨rfl, Only.refl No _⟩)) ?_
        refine WDS.q 0 (fun u w => ∃ bv U, u = .agg #[bv] ∧ Defs w wr.heap.size ((parseA ys).1.map bareD) bv U) (fun u w w2 hR hh => by obtain ⟨bv, U, h1, h2⟩ := hh; exact ⟨bv, U, h1, h2.ext (hR.mono (fun _ _ hF => hF.elim))⟩) (by kernel_rfl) rfl (by decide) (fun e w hR hh => by obtain ⟨h107, h104, -⟩ := hh; rw [← hwr] at hR; exact SG.g h104 (by simp [e1]) (o_call Try.call23 (lc h107 ln) ((bare_spec (parseA ys).1 dv96 V96 _ (hD96.rd.ext (hR.mono (fun _ _ hF => hF.elim))) hok2).mono (fun v w' ⟨bv, U, h1, h2, h3⟩ => ⟨⟨bv, U, h1, h2.mono hR.size⟩, h3⟩)))) ?_
        rintro e w hR ⟨h108, h107, h106, h105, h104, h103, h102, h101, h100, h99, h13, h14, h15, h16, h5, h10, -⟩
        rw [← hwr] at hR
        have hxr : Ext wr w := hR.mono (fun _ _ hF => hF.elim)
        replace hx := hx.tr hxr
        replace ownT := own_ext ownT hxr
        replace ownB := own_ext ownB hxr
        replace ownA := own_ext ownA hxr
        replace hB13 := hxr.blk hB13 (fun h => h)
        replace hB14 := hxr.blk hB14 (fun h => h)
        replace hD90 := hD90.ext hxr
        replace hB15 := hxr.blk hB15 (fun h => h)
        replace hB16 := hxr.blk hB16 (fun h => h)
        replace hD96 := hD96.ext hxr
        obtain ⟨bv1, U1, h106, hd1⟩ := h106
        obtain ⟨bv2, U2, h108, hd2⟩ := h108
        refine WL.g h104 (by simp [e1]) rfl (o_call Try.call20 (lc h106 (lc h108 (lc rfl ln))) ((same_spec ((parseA xs).1.map bareD) ((parseA ys).1.map bareD) bv1 bv2 U1 U2 _ hd1.rd hd2.rd (by have := hok1.bare.len; omega) (fun d hd => by have := hok1.bare.ty d hd; omega)).mono ?_))
        rintro v109 w109 ⟨rfl, hx109⟩
        replace hx := hx.tr hx109
        replace ownT := own_ext ownT hx109
        replace ownB := own_ext ownB hx109
        replace ownA := own_ext ownA hx109
        replace hB13 := hx109.blk hB13 (fun h => h)
        replace hB14 := hx109.blk hB14 (fun h => h)
        replace hD90 := hD90.ext hx109
        replace hB15 := hx109.blk hB15 (fun h => h)
        replace hB16 := hx109.blk hB16 (fun h => h)
        replace hD96 := hD96.ext hx109
        refine WL.g h104 (by simp [e1]) rfl (o_not' rfl ?_)
        refine WL.c rfl (o_pickO h104 rfl ?_)
        refine WL.nil ?_
        refine W.condF' rfl (by simp [e1, e2]) ?_
        refine W.skip ?_
        refine W.seq ?_
        refine W.seq ?_
        refine W.region ?_
        refine WL.c rfl (o_fa 0 TI49 rfl TI32 rfl h14 ?_)
        refine WL.c rfl (o_ld TI32 rfl rfl (cell_of hB14 rfl) ?_)
        refine WL.c rfl (o_eq rfl rfl ?_)
        refine WL.nil ?_
        refine W.cond rfl (fun c114 => ?_) (fun c114 => ?_)
        · try simp only [decide_eq_true_eq, decide_eq_false_iff_not, Bool.not_eq_true', Bool.not_eq_false', Bool.and_eq_true, Bool.or_eq_true, Bool.and_eq_false_iff, Bool.or_eq_false_iff] at c114
          refine W.seq ?_
          refine W.region ?_
          refine WL.c rfl (o_ash (show _ = Value.bool _ from rfl) ?_)
          refine WL.nil ?_
          refine W.ret ?_
          refine ret1v rfl (show _ = Value.bool _ from rfl) ?_
          exact ⟨rfl, hx⟩
        · try simp only [decide_eq_true_eq, decide_eq_false_iff_not, Bool.not_eq_true', Bool.not_eq_false', Bool.and_eq_true, Bool.or_eq_true, Bool.and_eq_false_iff, Bool.or_eq_false_iff] at c114
          have hne : (parseA xs).2.1 ≠ 0 := by omega
          obtain ⟨j, hj, hj1, hj2⟩ := e3 hne
          have hul2 : us.length = ts.length := hul
          rw [hj1] at hB14
          rw [hj2] at hB16
          refine W.skip ?_
          refine W.seq ?_
          refine W.region ?_
          refine WL.c rfl (o_ash (show _ = Value.int _ _ from rfl) ?_)
          refine WL.nil ?_
          refine W.seq ?_
          refine W.block ?_
          refine W.loop (fun e w => ∃ k : Nat, k ≤ j ∧ e 5 = vT ∧ e 10 = v84 ∧ e 14 = .pointer (some ⟨b14, 0, none⟩) ∧ e 16 = .pointer (some ⟨b16, 0, none⟩) ∧ e 17 = .int .i64 (k : Int) ∧ w.heap[b14]? = some (.cells (faultV (parseA xs).2.1 (plc ts xs.length j)) 49 (0, 0)) ∧ w.heap[b16]? = some (.cells (faultV (parseA ys).2.1 (plc us ys.length j)) 49 (0, 0)) ∧ w.ownsRow 0 58 5 vT ts.length (flat ts) ∧ w.ownsRow wl 3 1 v84 (us.length + 1) (us.map atV ++ [.int .i64 (ys.length : Int)]) ∧ Ext w0 w) (fun e w => j - (intOf (e 17)).toNat) ?_ ?_
          · exact ⟨0, Nat.zero_le _, h5, h10, h14, h16, rfl, hB14, hB16, ownT, ownA, hx⟩
          rintro e w ⟨k, hkj, h5, h10, h14, h16, h17, hB14, hB16, ownT, ownA, hx⟩
          have hm17 := h17
          refine W.seq ?_
          refine W.seq ?_
          rcases Nat.lt_or_ge k ts.length with hkl | hkl
          · skip
            obtain ⟨tb, to_, tc, hvT, htc⟩ := Sl.tok (Sl.own ownT) hkl
            have hpj : (tkA ts k).at_ < plc ts xs.length j ↔ k < j := by
              rcases Nat.lt_or_ge j ts.length with h | h
              · rw [plc_lt h]
                rcases Nat.lt_trichotomy k j with h2 | h2 | h2
                · have := hasc h2 h; omega
                · rw [h2]; omega
                · have := hasc h2 hkl; omega
              · rw [plc, if_neg (by omega)]; have := hatl k hkl; omega
            rw [hvT] at h5
            refine W.quiet rfl (by kernel_rfl) ?_
            refine WQ.c rfl ((QO.o rfl fun _ => o_mvh h17 ⟨rfl, rfl⟩)) ?_
            refine WQ.c rfl ((QO.o rfl fun _ => o_mvh h5 ⟨rfl, rfl⟩)) ?_
            refine WQ.c rfl ((QO.r fun _ => r_lenR TI54 rfl (hvT ▸ Sl.own ownT))) ?_
            refine WQ.c rfl ((QO.o rfl fun _ => o_lt rfl rfl ⟨rfl, rfl⟩)) ?_
            refine WQ.c rfl ((QO.o rfl fun _ => o_mvh (show _ = Value.bool _ from rfl) ⟨rfl, rfl⟩)) ?_
            refine WQ.g rfl (decide_eq_true (by omega)) rfl ((QO.o rfl fun _ => o_mvh h5 ⟨rfl, rfl⟩)) ?_
            refine WQ.g rfl (decide_eq_true (by omega)) rfl ((QO.o rfl fun _ => o_mvh h17 ⟨rfl, rfl⟩)) ?_
            refine WQ.g rfl (decide_eq_true (by omega)) rfl ((QO.o rfl fun _ => o_ixB TI54 TI58 rfl rfl (by omega) ⟨rfl, rfl⟩)) ?_
            refine WQ.g rfl (decide_eq_true (by omega)) rfl ((QO.o rfl fun _ => o_fa 3 TI58 rfl TI3 rfl rfl ⟨rfl, rfl⟩)) ?_
            refine WQ.g rfl (decide_eq_true (by omega)) rfl ((QO.o rfl fun _ => o_ld TI3 rfl rfl (htc 3 _ rfl) ⟨rfl, rfl⟩)) ?_
            refine WQ.g rfl (decide_eq_true (by omega)) rfl ((QO.o rfl fun _ => o_fa 1 TI49 rfl TI3 rfl h14 ⟨rfl, rfl⟩)) ?_
            refine WQ.g rfl (decide_eq_true (by omega)) rfl ((QO.o rfl fun _ => o_ld TI3 rfl rfl (cell_of hB14 rfl) ⟨rfl, rfl⟩)) ?_
            refine WQ.g rfl (decide_eq_true (by omega)) rfl ((QO.o rfl fun _ => o_lt rfl rfl ⟨rfl, rfl⟩)) ?_
            refine WQ.c rfl ((QO.r fun _ => r_pickA rfl rfl)) ?_
            refine WQ.nil ?_
            intro nq
            have hxq := Only.drewN w nq
            replace hx := hx.tr hxq
            replace hB14 := hxq.blk hB14 (fun h => h)
            replace hB16 := hxq.blk hB16 (fun h => h)
            replace ownT := own_ext ownT hxq
            replace ownA := own_ext ownA hxq
            rw [← hvT] at h5
            clear hxq
            generalize w.drewN nq = wq at *
            refine W.cond rfl (fun c128 => ?_) (fun c128 => ?_)
            · try simp only [decide_eq_true_eq, decide_eq_false_iff_not, Bool.not_eq_true', Bool.not_eq_false', Bool.and_eq_true, Bool.or_eq_true, Bool.and_eq_false_iff, Bool.or_eq_false_iff] at c128
              have c2 := c128
              simp at c2
              have hkj2 : k < j := hpj.1 c2.2
              refine W.skip ?_
              refine W.block ?_
              refine W.region ?_
              refine WL.c rfl (o_mvh h17 ?_)
              refine WL.c rfl (o_addi rfl rfl (by omega) ?_)
              refine WL.c rfl (o_ash (show _ = Value.int _ _ from rfl) ?_)
              refine WL.nil ?_
              refine ⟨⟨k + 1, by omega, h5, h10, h14, h16, rfl, hB14, hB16, ownT, ownA, hx⟩, ?_⟩
              show j - ((k : Int) + 1).toNat < _
              rw [hm17]; simp [intOf]; omega
            · try simp only [decide_eq_true_eq, decide_eq_false_iff_not, Bool.not_eq_true', Bool.not_eq_false', Bool.and_eq_true, Bool.or_eq_true, Bool.and_eq_false_iff, Bool.or_eq_false_iff] at c128
              have hkj2 : k = j := by
                have h9 : ¬ k < j := by
                  have c2 := c128
                  simp at c2
                  rw [← hpj]; omega
                omega
              refine W.exit ?_
              refine W.seq ?_
              obtain ⟨ga, capa, hva, -⟩ := own_some ownA (by omega)
              rw [hva] at h10 ownA
              have hac := own_at ownA (i := j) (at_plc (by omega))
              subst hkj2
              refine W.quiet rfl (by kernel_rfl) ?_
              refine WQ.c rfl ((QO.o rfl fun _ => o_fa 1 TI49 rfl TI3 rfl h16 ⟨rfl, rfl⟩)) ?_
              refine WQ.c rfl ((QO.o rfl fun _ => o_ld TI3 rfl rfl (cell_of hB16 rfl) ⟨rfl, rfl⟩)) ?_
              refine WQ.c rfl ((QO.o rfl fun _ => o_mvh h10 ⟨rfl, rfl⟩)) ?_
              refine WQ.c rfl ((QO.o rfl fun _ => o_mvh h17 ⟨rfl, rfl⟩)) ?_
              refine WQ.c rfl ((QO.o rfl fun _ => o_ixB TI22 TI3 rfl rfl (by omega) ⟨rfl, rfl⟩)) ?_
              refine WQ.c rfl ((QO.o rfl fun _ => o_ld TI3 rfl rfl (show _ = some _ from hac) ⟨rfl, rfl⟩)) ?_
              refine WQ.c rfl ((QO.o rfl fun _ => o_eq rfl rfl ⟨rfl, rfl⟩)) ?_
              refine WQ.c rfl ((QO.o rfl fun _ => o_ash (show _ = Value.bool _ from rfl) ⟨rfl, rfl⟩)) ?_
              refine WQ.nil ?_
              intro nq
              refine W.ret ?_
              refine ret1v rfl (show _ = Value.bool _ from rfl) ?_
              exact ⟨congrArg Value.bool (by simp), hx.tr (Only.drewN _ _)⟩
          · skip
            have hkj2 : k = j := by omega
            refine W.quiet rfl (by kernel_rfl) ?_
            refine WQ.c rfl ((QO.o rfl fun _ => o_mvh h17 ⟨rfl, rfl⟩)) ?_
            refine WQ.c rfl ((QO.o rfl fun _ => o_mvh h5 ⟨rfl, rfl⟩)) ?_
            refine WQ.c rfl ((QO.r fun _ => r_lenR TI54 rfl (Sl.own ownT))) ?_
            refine WQ.c rfl ((QO.o rfl fun _ => o_lt rfl rfl ⟨rfl, rfl⟩)) ?_
            refine WQ.c rfl ((QO.o rfl fun _ => o_mvh (show _ = Value.bool _ from rfl) ⟨rfl, rfl⟩)) ?_
            refine WQ.s rfl (decide_eq_false (by omega)) rfl ?_
            refine WQ.s rfl (decide_eq_false (by omega)) rfl ?_
            refine WQ.s rfl (decide_eq_false (by omega)) rfl ?_
            refine WQ.s rfl (decide_eq_false (by omega)) rfl ?_
            refine WQ.s rfl (decide_eq_false (by omega)) rfl ?_
            refine WQ.s rfl (decide_eq_false (by omega)) rfl ?_
            refine WQ.s rfl (decide_eq_false (by omega)) rfl ?_
            refine WQ.s rfl (decide_eq_false (by omega)) rfl ?_
            refine WQ.c rfl ((QO.r fun _ => r_pickF rfl (decide_eq_false (by omega)))) ?_
            refine WQ.nil ?_
            intro nq
            have hxq := Only.drewN w nq
            replace hx := hx.tr hxq
            replace hB14 := hxq.blk hB14 (fun h => h)
            replace hB16 := hxq.blk hB16 (fun h => h)
            replace ownT := own_ext ownT hxq
            replace ownA := own_ext ownA hxq
            clear hxq
            generalize w.drewN nq = wq at *
            refine W.condF' rfl (rfl) ?_
            refine W.exit ?_
            refine W.seq ?_
            obtain ⟨ga, capa, hva, -⟩ := own_some ownA (by omega)
            rw [hva] at h10 ownA
            have hac := own_at ownA (i := j) (at_plc (by omega))
            subst hkj2
            refine W.quiet rfl (by kernel_rfl) ?_
            refine WQ.c rfl ((QO.o rfl fun _ => o_fa 1 TI49 rfl TI3 rfl h16 ⟨rfl, rfl⟩)) ?_
            refine WQ.c rfl ((QO.o rfl fun _ => o_ld TI3 rfl rfl (cell_of hB16 rfl) ⟨rfl, rfl⟩)) ?_
            refine WQ.c rfl ((QO.o rfl fun _ => o_mvh h10 ⟨rfl, rfl⟩)) ?_
            refine WQ.c rfl ((QO.o rfl fun _ => o_mvh h17 ⟨rfl, rfl⟩)) ?_
            refine WQ.c rfl ((QO.o rfl fun _ => o_ixB TI22 TI3 rfl rfl (by omega) ⟨rfl, rfl⟩)) ?_
            refine WQ.c rfl ((QO.o rfl fun _ => o_ld TI3 rfl rfl (show _ = some _ from hac) ⟨rfl, rfl⟩)) ?_
            refine WQ.c rfl ((QO.o rfl fun _ => o_eq rfl rfl ⟨rfl, rfl⟩)) ?_
            refine WQ.c rfl ((QO.o rfl fun _ => o_ash (show _ = Value.bool _ from rfl) ⟨rfl, rfl⟩)) ?_
            refine WQ.nil ?_
            intro nq
            refine W.ret ?_
            refine ret1v rfl (show _ = Value.bool _ from rfl) ?_
            exact ⟨congrArg Value.bool (by simp), hx.tr (Only.drewN _ _)⟩

theorem stokens_walk (w0 : World) (s : ByteArray) (hs : s.size ≤ maxLen) (v : Value) (zs : List Int) (hzl : zs.length ≤ 9223372036854775807) (hS : Sl w0 1 v zs.length (zs.map (Value.int .i64))) : Ca Try.prog 7 #[.string s, v] w0 (fun v w' => v = .bool true ∧ Ext w0 w') := by
  obtain ⟨⟨xs⟩⟩ := s
  exact stokens_walk0 w0 xs hs v zs hzl hS

end Go.Proofs.Ytcljkkfpcomdcaa
