/-
  Walks. Written by program out of specs of mine.
-/
import Derived.Test.YtiabjbaegdgmmaaF
set_option linter.unusedSimpArgs false
set_option linter.unusedVariables false
namespace Go.Proofs.Ytiabjbaegdgmmaa
open Go Go.Vc Go.RowKit Go.Proofs

deriving instance DecidableEq for Tk
theorem first1 : cutA [48, 60, 97, 49, 95, 98, 32, 35, 32, 97, 110, 121] = ([⟨2, [], 0, 0, 1⟩, ⟨3, [60], 0, 1, 2⟩, ⟨1, [97, 49, 95, 98], 0, 2, 6⟩], 0, 0) := by decide +kernel
theorem first2 : cutA [97, 49, 95, 98, 60, 48, 48, 55] = ([], 51, 5) := by decide +kernel
theorem mark_or (c : UInt8) : markB c = (decide (c.toNat = 61) || decide (c.toNat = 59) || decide (c.toNat = 60) || decide (c.toNat = 62) || decide (c.toNat = 44) || decide (c.toNat = 58) || decide (c.toNat = 123) || decide (c.toNat = 125)) := by
  have h : ∀ n : Fin 256, markB (UInt8.ofNat n.1) = (decide (n.1 = 61) || decide (n.1 = 59) || decide (n.1 = 60) || decide (n.1 = 62) || decide (n.1 = 44) || decide (n.1 = 58) || decide (n.1 = 123) || decide (n.1 = 125)) := by decide +kernel
  have := h ⟨c.toNat, UInt8.toNat_lt c⟩
  simpa using this

set_option maxHeartbeats 2000000 in
theorem first_spec (w0 : World) : Ca Try.prog 9 #[] w0 (fun v w' => v = .bool true ∧ Ext w0 w') := by
  refine Ca.of Try.func9 Try.ntmps9 rfl rfl ?_
  refine W.seq ?_
  refine W.region ?_
  refine WL.c rfl (o_as ?_)
  refine WL.nil ?_
  refine W.seq ?_
  refine W.region ?_
  refine WL.c rfl (o_call Try.call15 (lc rfl ln) ((cut_spec [48, 60, 97, 49, 95, 98, 32, 35, 32, 97, 110, 121] _ (by decide)).mono ?_))
  rw [first1]
  rintro v6 w6 ⟨v1, rfl, hown1, hx6⟩
  dsimp only at hown1
  have hl1 := hown1.lt
  have hz6 := hx6.size
  refine WL.c rfl (o_mv ?_)
  refine WL.c rfl (o_ext rfl rfl ?_)
  refine WL.c rfl (o_ext rfl rfl ?_)
  refine WL.c rfl (o_alB TI29 ?_)
  intro wa hB2 hx2 hs2
  replace hown1 := own_ext hown1 hx2
  replace hx6 := hx6.tr hx2
  refine WL.c rfl (o_as ?_)
  refine WL.u (o_stA TI29 rfl rfl rfl rfl hB2 rfl ?_)
  intro wb hB2 ho2 hsb
  replace hown1 := own_only hown1 ho2 (fun j hj he => by have := (hl1 j hj).2; omega)
  replace hx6 := Ext.own hx6 hz6 ho2
  refine WL.nil ?_
  refine W.seq ?_
  refine W.region ?_
  refine WL.c rfl (o_call Try.call15 (lc rfl ln) ((cut_spec [97, 49, 95, 98, 60, 48, 48, 55] _ (by decide)).mono ?_))
  rw [first2]
  rintro v10 w10 ⟨v3, rfl, hown3, hx10⟩
  replace hB2 := hx10.blk hB2 (fun h => h)
  replace hown1 := own_ext hown1 hx10
  have hsz := hx10.size
  replace hx6 := hx6.tr hx10
  replace hl1 := hown1.lt
  have hz10 := hx6.size
  refine WL.c rfl (o_mv ?_)
  refine WL.c rfl (o_ext rfl rfl ?_)
  refine WL.c rfl (o_ext rfl rfl ?_)
  refine WL.c rfl (o_alB TI29 ?_)
  intro wc hB4 hx4 hs4
  replace hB2 := hx4.blk hB2 (fun h => h)
  replace hown1 := own_ext hown1 hx4
  replace hx6 := hx6.tr hx4
  refine WL.c rfl (o_as ?_)
  refine WL.u (o_stA TI29 rfl rfl rfl rfl hB4 rfl ?_)
  intro wd hB4 ho4 hsd
  replace hB2 := ho4.blk hB2 (by show ¬ _ = _; omega)
  replace hown1 := own_only hown1 ho4 (fun j hj he => by have := (hl1 j hj).2; omega)
  replace hx6 := Ext.own hx6 hz10 ho4
  have hS1 : Sl wd 5 v1 3 [.int .i64 2, st [], .int .i64 0, .int .i64 0, .int .i64 1, .int .i64 3, st [60], .int .i64 0, .int .i64 1, .int .i64 2, .int .i64 1, st [97, 49, 95, 98], .int .i64 0, .int .i64 2, .int .i64 6] := Sl.own hown1
  clear hown1
  refine WL.nil ?_
  refine W.seq ?_
  refine W.seq ?_
  refine W.region ?_
  refine WL.c rfl (o_ldA TI29 rfl rfl (cells_all hB2) rfl ?_)
  refine WL.c rfl (o_bldC (cs := [(.int .i64 0), (.int .i64 0)]) TI29 (Sizes.cons TI27 (Sizes.cons TI3 Sizes.nil)) rfl lnp rfl rfl ?_)
  refine WL.c rfl (o_neR TI29 (by kernel_rfl) (by kernel_rfl) rfl rfl (.int TI27 (by decide) rfl rfl (.int TI3 (by decide) rfl rfl .nil)) ?_)
  refine WL.c rfl (o_mv ?_)
  refine WL.g rfl (by simp) rfl (o_mv ?_)
  refine WL.g rfl (by simp) rfl (o_lenR TI26 rfl hS1 ?_)
  refine WL.g rfl (by simp) rfl (o_ne rfl rfl ?_)
  refine WL.c rfl (o_pickO rfl rfl ?_)
  refine WL.c rfl (o_mv ?_)
  refine WL.g rfl (by simp) rfl (o_ldA TI29 rfl rfl (cells_all hB4) rfl ?_)
  refine WL.g rfl (by simp) rfl (o_bldC (cs := [(.int .i64 51), (.int .i64 5)]) TI29 (Sizes.cons TI27 (Sizes.cons TI3 Sizes.nil)) rfl (lcp (show _ = Value.int _ _ from rfl) (lcp (show _ = Value.int _ _ from rfl) lnp)) rfl rfl ?_)
  refine WL.g rfl (by simp) rfl (o_neR TI29 (by kernel_rfl) (by kernel_rfl) rfl rfl (.int TI27 (by decide) rfl rfl (.int TI3 (by decide) rfl rfl .nil)) ?_)
  refine WL.c rfl (o_pickO rfl rfl ?_)
  refine WL.nil ?_
  refine W.condF' rfl (by simp) ?_
  refine W.skip ?_
  refine W.seq ?_
  refine W.region ?_
  refine WL.c rfl (o_mv ?_)
  refine WL.c rfl (o_ix (i := 0) TI26 TI33 rfl rfl hS1 (by decide) ?_)
  intro b27 o27 c27 hv27 hc27
  replace hc27 : Cells wd b27 (o27 + 0 * 5) [.int .i64 2, st [], .int .i64 0, .int .i64 0, .int .i64 1] := hc27
  clear hv27
  refine WL.c rfl (o_ldA TI33 rfl rfl hc27 rfl ?_)
  refine WL.c rfl (o_bldC (cs := [(.int .i64 2), (.string ⟨#[]⟩), (.int .i64 0), (.int .i64 0), (.int .i64 1)]) TI33 (Sizes.cons TI3 (Sizes.cons TI9 (Sizes.cons TI3 (Sizes.cons TI3 (Sizes.cons TI3 Sizes.nil))))) rfl (lcp (show _ = Value.int _ _ from rfl) (lcp (show _ = Value.int _ _ from rfl) (lcp (show _ = Value.int _ _ from rfl) lnp))) rfl rfl ?_)
  refine WL.c rfl (o_eqR TI33 (by kernel_rfl) (by kernel_rfl) rfl rfl (.int TI3 (by decide) rfl rfl (.str TI9 (by decide) rfl rfl (.int TI3 (by decide) rfl rfl (.int TI3 (by decide) rfl rfl (.int TI3 (by decide) rfl rfl .nil))))) ?_)
  refine WL.c rfl (o_mv ?_)
  refine WL.g rfl (by decide) rfl (o_mv ?_)
  refine WL.g rfl (by decide) rfl (o_ix (i := 1) TI26 TI33 rfl rfl hS1 (by decide) ?_)
  intro b33 o33 c33 hv33 hc33
  replace hc33 : Cells wd b33 (o33 + 1 * 5) [.int .i64 3, st [60], .int .i64 0, .int .i64 1, .int .i64 2] := hc33
  clear hv33
  refine WL.g rfl (by decide) rfl (o_ldA TI33 rfl rfl hc33 rfl ?_)
  refine WL.g rfl (by decide) rfl (o_bldC (cs := [(.int .i64 3), (st [60]), (.int .i64 0), (.int .i64 1), (.int .i64 2)]) TI33 (Sizes.cons TI3 (Sizes.cons TI9 (Sizes.cons TI3 (Sizes.cons TI3 (Sizes.cons TI3 Sizes.nil))))) rfl (lcp (show _ = Value.int _ _ from rfl) (lcp (show _ = Value.string _ from rfl) (lcp (show _ = Value.int _ _ from rfl) (lcp (show _ = Value.int _ _ from rfl) lnp)))) rfl rfl ?_)
  refine WL.g rfl (by decide) rfl (o_eqR TI33 (by kernel_rfl) (by kernel_rfl) rfl rfl (.int TI3 (by decide) rfl rfl (.str TI9 (by decide) rfl rfl (.int TI3 (by decide) rfl rfl (.int TI3 (by decide) rfl rfl (.int TI3 (by decide) rfl rfl .nil))))) ?_)
  refine WL.c rfl (o_pickA rfl rfl ?_)
  refine WL.c rfl (o_mv ?_)
  refine WL.g rfl (by decide) rfl (o_mv ?_)
  refine WL.g rfl (by decide) rfl (o_ix (i := 2) TI26 TI33 rfl rfl hS1 (by decide) ?_)
  intro b40 o40 c40 hv40 hc40
  replace hc40 : Cells wd b40 (o40 + 2 * 5) [.int .i64 1, st [97, 49, 95, 98], .int .i64 0, .int .i64 2, .int .i64 6] := hc40
  clear hv40
  refine WL.g rfl (by decide) rfl (o_ldA TI33 rfl rfl hc40 rfl ?_)
  refine WL.g rfl (by decide) rfl (o_bldC (cs := [(.int .i64 1), (st [97, 49, 95, 98]), (.int .i64 0), (.int .i64 2), (.int .i64 6)]) TI33 (Sizes.cons TI3 (Sizes.cons TI9 (Sizes.cons TI3 (Sizes.cons TI3 (Sizes.cons TI3 Sizes.nil))))) rfl (lcp (show _ = Value.int _ _ from rfl) (lcp (show _ = Value.string _ from rfl) (lcp (show _ = Value.int _ _ from rfl) (lcp (show _ = Value.int _ _ from rfl) lnp)))) rfl rfl ?_)
  refine WL.g rfl (by decide) rfl (o_eqR TI33 (by kernel_rfl) (by kernel_rfl) rfl rfl (.int TI3 (by decide) rfl rfl (.str TI9 (by decide) rfl rfl (.int TI3 (by decide) rfl rfl (.int TI3 (by decide) rfl rfl (.int TI3 (by decide) rfl rfl .nil))))) ?_)
  refine WL.c rfl (o_pickA rfl rfl ?_)
  refine WL.c rfl (o_mv ?_)
  refine WL.g rfl (by decide) rfl (o_call Try.call11 (lc rfl ln) ((word_spec [108, 105, 115, 116] _).mono ?_))
  rintro v46 w46 ⟨rfl, rfl⟩
  refine WL.c rfl (o_pickA rfl rfl ?_)
  refine WL.c rfl (o_mv ?_)
  refine WL.g rfl (by decide +kernel) rfl (o_call Try.call11 (lc rfl ln) ((word_spec [108, 105, 115, 116, 115] _).mono ?_))
  rintro v49 w49 ⟨rfl, rfl⟩
  refine WL.g rfl (by decide +kernel) rfl (o_not' rfl ?_)
  refine WL.c rfl (o_pickA rfl rfl ?_)
  refine WL.c rfl (o_mv ?_)
  refine WL.g rfl (by decide +kernel) rfl (o_call Try.call13 (lc rfl ln) ((name_spec [108, 105, 115, 116, 115] _ (by decide)).mono ?_))
  rintro v53 w53 ⟨rfl, rfl⟩
  refine WL.c rfl (o_pickA rfl rfl ?_)
  refine WL.c rfl (o_mv ?_)
  refine WL.g rfl (by decide +kernel) rfl (o_call Try.call13 (lc rfl ln) ((name_spec [108, 105, 115, 116] _ (by decide)).mono ?_))
  rintro v56 w56 ⟨rfl, rfl⟩
  refine WL.g rfl (by decide +kernel) rfl (o_not' rfl ?_)
  refine WL.c rfl (o_pickA rfl rfl ?_)
  refine WL.c rfl (o_as ?_)
  refine WL.nil ?_
  refine W.ret ?_
  refine ret1v rfl (show _ = Value.bool _ from rfl) ?_
  exact ⟨congrArg Value.bool (by decide +kernel), hx6⟩
end Go.Proofs.Ytiabjbaegdgmmaa
