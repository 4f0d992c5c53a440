/-
  Walks and lemmas. Written by program out of specs of mine.
-/
import Derived.WalkKit
import Derived.WalkSpells
import Derived.WalkLawsBesides
import Derived.Deep.Quiet
import Derived.StillTail
import Derived.StringKeys
import Derived.Laws.StructEq
import Derived.Laws.Externs
import Derived.Laws.Tables
import Derived.Scope
import Derived.Test.YtpbflfgigfdohaaDoorProg
import Derived.Laws.AppendOwn
import Derived.Maps.AppendAt
import Derived.Recover
import Derived.Lib.Bytealg
import Derived.SizedLaws
import Derived.ChangeArms
import Derived.ChangeSlices
import Derived.Maps.OwnSet
import Derived.Lib.Builder
import Derived.Lib.UnsafeStr
import Derived.Shelf.Strconv.Itoa0
import Derived.Shelf.Strconv.Itoa1
import Derived.Shelf.LaysM
import Derived.Shelf.Strconv.Itoa2
import Derived.Shelf.Strconv.Itoa3
import Derived.Test.YtpbflfgigfdohaaDoorRows
import Derived.ProofKit
import Derived.OpenShut
import Derived.ShutString
import Derived.ChangeOld
import Derived.Below
import Derived.JoinedCond
import Derived.SliceStrings
import Derived.Test.YtpbflfgigfdohaaDoorCards
import Derived.Test.YtpbflfgigfdohaaDoorTie
import Derived.Deep.DeepHandedRow
import Derived.Lib.LaidTab
import Derived.Test.YtpbflfgigfdohaaDoorKp6
set_option linter.unusedSimpArgs false
set_option linter.unusedVariables false
set_option maxRecDepth 100000
namespace Go.Proofs.YtpbflfgigfdohaaDoor
open Go Go.Vc Go.RowKit Go.Proofs

def DA9 : List Df := [⟨[97], 0, [⟨5, 3, [], [], 0, 1, 0⟩, ⟨1, 2, [], [], 0, 0, 0⟩]⟩]
def TA9 : Nat → Tr := fun _ => .node ⟨5, 3, [], [], 0, 1, 0⟩ (.cons (.node ⟨1, 2, [], [], 0, 0, 0⟩ .nil) .nil)
theorem ckA9 : (chkS DA9).2.2 = 0 := by decide +kernel
theorem trdA9 : Trd DA9 TA9 := by
 refine ⟨by decide, fun i hi => ⟨by decide, by decide, by decide, by decide, ⟨by decide, by decide, by decide, by decide, trivial⟩, trivial⟩, by decide +kernel, fun i hi => ?_⟩
 obtain rfl : i = 0 := by simp [DA9] at hi; omega
 rfl
theorem usesA9 (i : Nat) : usesD DA9 i = [] := by
 match i with
 | 0 => decide +kernel
 | n + 1 => rfl
theorem acA9 : ∀ i, ¬ Relation.TransGen (Us (usesD DA9)) i i := rank_no (fun _ => 0) (fun i j hj => by rw [usesA9] at hj; cases hj)
theorem fAA9 : fA DA9 = none := by
 rw [fA_of ckA9 trdA9, show resF DA9 TA9 = none by decide +kernel, ring_none (fun j _ => acA9 j), show deepF DA9 TA9 = none by decide +kernel]
 rfl
theorem bnA9 : bndF DA9 = none := by decide +kernel
theorem bfA9 : bldF DA9 = none := bldF_none.2 ⟨ckA9, fAA9, bnA9⟩
theorem orA9 : ordN DA9 = [0] := by decide +kernel
theorem tdA9 : TD DA9 0 = TA9 0 := (trd_of ckA9).uniq trdA9 0 (by decide)
def LA9 : List Tp := [⟨1, 2, 0, []⟩, ⟨5, 3, 0, []⟩]
def RA9 : List Ro := [⟨[97], 1⟩]
theorem moA9 : mkO (whD DA9) (TD DA9) (ordN DA9) (fun _ => 0) [] = (upI (fun _ => 0) 0 1, LA9) := by
 rw [orA9, mkO, mkO, tdA9]
 simp [TA9, mkT, mkK, many7, LA9]
theorem scA9 : bldT DA9 = LA9 ∧ bldR DA9 = RA9 := by
 unfold bldT bldR
 rw [if_pos bfA9, if_pos bfA9]
 unfold schT schR
 rw [moA9]
 exact ⟨rfl, rfl⟩
theorem limA9 : DOk DA9 := ⟨by decide, fun d hd => by simp [DA9] at hd; subst hd; decide, fun d hd => by simp [DA9] at hd; subst hd; decide, fun d hd => by simp [DA9] at hd; subst hd; (intro x hx; simp at hx; rcases hx with rfl | rfl <;> decide)⟩
theorem build_A9 (dv : Value) (V : Nat → Value) (w0 : World) (hD : DefR w0 DA9 dv V) : Ca Tryd.prog 5 #[.agg #[dv]] w0 (fun v w' => ∃ tv rv U, v = .tuple #[.agg #[tv, rv], .agg #[.int .i64 0, .int .i64 0]] ∧ Schs w' w0.heap.size LA9 RA9 tv rv U ∧ Ext w0 w') := by
 refine (build_spec DA9 dv V w0 hD limA9 (fun d hd => by simp [DA9] at hd; subst hd; decide)).mono ?_
 rintro v w' ⟨tv, rv, U, rfl, h1, h2⟩
 rw [scA9.1, scA9.2] at h1
 exact ⟨tv, rv, U, by rw [(bldV_no bfA9).1, (bldV_no bfA9).2], h1, h2⟩
theorem okA9 : SOk LA9 RA9 := ⟨by decide, by simp [LA9], by decide, by simp [LA9], by simp [RA9]⟩
theorem find_A9 (tv rv : Value) (w0 : World) (hR : Sl w0 2 rv RA9.length (ros RA9)) (h1v : tv.oneCell' = true) : Ca Tryd.prog 10 #[.agg #[tv, rv], st [98]] w0 (fun v w' => v = .tuple #[.int .i64 0, .int .i64 93] ∧ Ext w0 w') :=
 (tfind_spec RA9 tv rv [98] w0 hR (by decide) h1v).mono fun v w' h => ⟨h.1, h.2⟩
theorem same_A9 (L1 : List Tp) (R1 : List Ro) (tv1 rv1 : Value) (V1 : Nat → Value) (L2 : List Tp) (R2 : List Ro) (tv2 rv2 : Value) (V2 : Nat → Value) (w0 : World) (hA : SchR w0 L1 R1 tv1 rv1 V1) (hB : SchR w0 L2 R2 tv2 rv2 V2) (hk1 : SOk L1 R1) (hk2 : SOk L2 R2) (he : L1 = L2 ∧ R1 = R2) : Ca Tryd.prog 7 #[.agg #[tv1, rv1], .agg #[tv2, rv2]] w0 (fun v w' => v = .bool true ∧ Ext w0 w') :=
 (tsame_spec L1 R1 tv1 rv1 V1 L2 R2 tv2 rv2 V2 w0 hA hB hk1 hk2).mono fun v w' h => ⟨by rw [h.1, decide_eq_true he], h.2⟩
theorem scv_A9 : scV [⟨0, 0, 0, []⟩] [] = (92, 0) := sc_tp (L := [⟨0, 0, 0, []⟩]) (i := 0) (by decide) (by simp [tpOk, numOk]) (fun j hj h => by omega)
theorem check_A9 (tv : Value) (w0 : World) (hT : TypR w0 [⟨0, 0, 0, []⟩] tv (fun _ => .slice none 0 0)) : Ca Tryd.prog 11 #[.agg #[tv, .slice none 0 0]] w0 (fun v w' => v = .agg #[.int .i64 92, .int .i64 0] ∧ Ext w0 w') := by
 refine (tcheck_spec [⟨0, 0, 0, []⟩] [] tv (.slice none 0 0) (fun _ => .slice none 0 0) w0 ⟨hT, Sl.nil _ _⟩ ⟨by decide, fun t ht => by simp at ht; subst ht; exact ⟨by decide, by simp, by simp⟩⟩ ⟨by decide, by simp⟩).mono ?_
 rintro v w' ⟨rfl, hx⟩
 rw [scv_A9]
 exact ⟨rfl, hx⟩

set_option maxHeartbeats 4000000 in
theorem awake9_spec (w0 : World) : Ca Tryd.prog 4 #[] w0 (fun v w' => v = .bool true ∧ Ext w0 w') := by
 have hx : Ext w0 w0 := Only.refl _ _
 refine Ca.of Tryd.func4 Tryd.ntmps4 rfl rfl (We (Wb (Wa rfl (Wg vB (Wc (We (Wb (Wa rfl (o_bldC (cs := [(.int .i64 5), (.int .i64 3), (.string ⟨#[]⟩), (.string ⟨#[]⟩), (.int .i64 0), (.int .i64 1), (.int .i64 0)]) TI40 (Sizes.cons TI3 (Sizes.cons TI3 (Sizes.cons TI9 (Sizes.cons TI9 (Sizes.cons TI3 (Sizes.cons TI3 (Sizes.cons TI3 Sizes.nil))))))) rfl (lcp vI (lcp vI (lcp vI lnp))) rfl rfl (Wa rfl (o_bldC (cs := [(.int .i64 1), (.int .i64 2), (.string ⟨#[]⟩), (.string ⟨#[]⟩), (.int .i64 0), (.int .i64 0), (.int .i64 0)]) TI40 (Sizes.cons TI3 (Sizes.cons TI3 (Sizes.cons TI9 (Sizes.cons TI9 (Sizes.cons TI3 (Sizes.cons TI3 (Sizes.cons TI3 Sizes.nil))))))) rfl (lcp vI (lcp vI lnp)) rfl rfl (Wa rfl (o_bsA (xs := [(.tmp 6), (.tmp 7)]) (cs := exs [⟨5, 3, [], [], 0, 1, 0⟩, ⟨1, 2, [], [], 0, 0, 0⟩]) TI36 TI40 rfl (lc (show _ = Value.agg (exV ⟨5, 3, [], [], 0, 1, 0⟩).toArray from rfl) (lc (show _ = Value.agg (exV ⟨1, 2, [], [], 0, 0, 0⟩).toArray from rfl) ln)) rfl rfl (by decide) (by decide) rfl ?_)))))))))))))
 have hT8 : Sl (w0.alloc (.cells (exs [⟨5, 3, [], [], 0, 1, 0⟩, ⟨1, 2, [], [], 0, 0, 0⟩]).toArray 40)) 7 (.slice (some ⟨w0.heap.size, 0, none⟩) 2 2) 2 (exs [⟨5, 3, [], [], 0, 1, 0⟩, ⟨1, 2, [], [], 0, 0, 0⟩]) := Sl.ofRow rfl
 have hxr : Ext w0 (w0.alloc (.cells (exs [⟨5, 3, [], [], 0, 1, 0⟩, ⟨1, 2, [], [], 0, 0, 0⟩]).toArray 40)) := Only.alloc w0 _
 obtain ⟨g8, hg8⟩ : ∃ g, g = w0.heap.size := ⟨_, rfl⟩
 rw [← hg8] at hT8 ⊢
 generalize w0.alloc (.cells (exs [⟨5, 3, [], [], 0, 1, 0⟩, ⟨1, 2, [], [], 0, 0, 0⟩]).toArray 40) = w8 at hT8 hxr ⊢
 replace hx := hx.tr hxr
 clear hxr
 refine Wa rfl (o_bldC (cs := [(st [97]), (.int .i64 0), _]) TI38 (Sizes.cons TI9 (Sizes.cons TI3 (Sizes.cons TI36 Sizes.nil))) rfl (lcp (show _ = Value.string _ from rfl) (lcp (show _ = Value.slice (some ⟨g8, 0, none⟩) 2 2 from rfl) lnp)) rfl rfl (Wa rfl (o_bs1 TI22 TI38 (show _ = (Value.agg #[st [97], .int .i64 0, .slice (some ⟨g8, 0, none⟩) 2 2]) from rfl) (by decide) (by decide) rfl ?_)))
 have hT10 : Sl (w8.alloc (.cells (Value.agg #[st [97], .int .i64 0, .slice (some ⟨g8, 0, none⟩) 2 2]).cells 38)) 3 (.slice (some ⟨w8.heap.size, 0, none⟩) 1 1) 1 (drows DA9 (fun _ => .slice (some ⟨g8, 0, none⟩) 2 2)) := Sl.one rfl
 have hxr : Ext w8 (w8.alloc (.cells (Value.agg #[st [97], .int .i64 0, .slice (some ⟨g8, 0, none⟩) 2 2]).cells 38)) := Only.alloc w8 _
 obtain ⟨g10, hg10⟩ : ∃ g, g = w8.heap.size := ⟨_, rfl⟩
 rw [← hg10] at hT10 ⊢
 generalize w8.alloc (.cells (Value.agg #[st [97], .int .i64 0, .slice (some ⟨g8, 0, none⟩) 2 2]).cells 38) = w10 at hT10 hxr ⊢
 replace hx := hx.tr hxr
 replace hT8 := hT8.ext hxr
 clear hxr
 have hD : DefR w10 DA9 (.slice (some ⟨g10, 0, none⟩) 1 1) (fun _ => .slice (some ⟨g8, 0, none⟩) 2 2) := ⟨hT10, fun j hj => by
  obtain rfl : j = 0 := by simp [DA9] at hj; omega
  exact hT8⟩
 refine Wa rfl (o_bldC (cs := [_]) TI24 (Sizes.cons TI22 Sizes.nil) rfl (lcp (show _ = Value.slice (some ⟨g10, 0, none⟩) 1 1 from rfl) lnp) rfl rfl (Wa rfl (o_call Tryd.call5 (lc rfl ln) ((build_A9 _ _ _ hD).mono ?_))))
 rintro v12 w12 ⟨tv, rv, U, rfl, hSc, hx12⟩
 replace hx := hx.tr hx12
 have hE : Ext w12 w12 := Only.refl _ _
 refine Wa rfl (Wf (by first | exact (show _ = Value.tuple _ from rfl) | exact rfl) (Wa rfl (o_ext rfl rfl (Wa rfl (o_ext rfl rfl (Wa rfl (o_alB TI29 ?_)))))))
 intro wa hC1 hxa hsa
 obtain ⟨b1, hb1⟩ : ∃ b, b = w12.heap.size := ⟨_, rfl⟩
 rw [← hb1] at hC1 ⊢
 replace hC1 : wa.heap[b1]? = some (.cells #[.slice none 0 0, .slice none 0 0] 29 (0, 0)) := hC1
 replace hE := hE.tr hxa
 refine Wa rfl (o_alB TI32 ?_)
 intro wb hC2 hxb hsb
 have hsE := hE.size
 obtain ⟨b2, hb2⟩ : ∃ b, b = wa.heap.size := ⟨_, rfl⟩
 rw [← hb2] at hC2 ⊢
 replace hC2 : wb.heap[b2]? = some (.cells #[.int .i64 0, .int .i64 0] 32 (0, 0)) := hC2
 replace hE := hE.tr hxb
 replace hC1 := hxb.blk hC1 (fun h => h)
 refine WL.u (o_stA TI29 rfl (show _ = Value.agg #[tv, rv] from rfl) rfl (by simp [own_one hSc.ro, own_one hSc.ty.row]) hC1 rfl ?_)
 intro wc hC1n ho hs
 replace hC2 := ho.blk hC2 (blk_ne3 hC2 hC1 (by decide))
 replace hE := hE.trans' ho (fun _ h => h) (fun b hb e => by omega)
 replace hC1 := hC1n
 refine WL.u (o_stA TI32 rfl (show _ = Value.agg #[.int .i64 0, .int .i64 0] from rfl) rfl rfl hC2 rfl ?_)
 intro wd hC2n ho hs
 replace hC1 := ho.blk hC1 (blk_ne3 hC1 hC2 (by decide))
 replace hE := hE.trans' ho (fun _ h => h) (fun b hb e => by omega)
 replace hC2 := hC2n
 replace hSc := hSc.ext hE
 replace hx := hx.tr hE
 clear hE
 refine Wc (We (We (Wb (Wa rfl (o_ldA TI32 rfl rfl (show Cells _ b2 0 [.int .i64 0, .int .i64 0] from Cells.of hC2 0 _ (by simp)) rfl (Wa rfl (o_bldC (cs := [(.int .i64 0), (.int .i64 0)]) TI32 (Sizes.cons TI30 (Sizes.cons TI3 Sizes.nil)) rfl lnp rfl rfl (Wa rfl (o_neR TI32 (by kernel_rfl) (by kernel_rfl) rfl rfl (.int TI30 (by decide) rfl rfl (.int TI3 (by decide) rfl rfl .nil)) (Wa rfl (Wf vB (Wj rfl (by simp) rfl (o_ldA TI29 rfl rfl (show Cells _ b1 0 [tv, rv] from Cells.of hC1 0 _ (by simp)) rfl (Wj rfl (by simp) rfl (o_bldC (cs := [(.int .i64 1), (.int .i64 2), (.int .i64 0), (.slice none 0 0)]) TI49 (Sizes.cons TI3 (Sizes.cons TI3 (Sizes.cons TI3 (Sizes.cons TI47 Sizes.nil)))) rfl (lcp vI (lcp vI lnp)) rfl rfl (Wj rfl (by simp) rfl (o_bldC (cs := [(.int .i64 5), (.int .i64 3), (.int .i64 0), (.slice none 0 0)]) TI49 (Sizes.cons TI3 (Sizes.cons TI3 (Sizes.cons TI3 (Sizes.cons TI47 Sizes.nil)))) rfl (lcp vI (lcp vI lnp)) rfl rfl (Wj rfl (by simp) rfl (o_bsA (xs := [(.tmp 20), (.tmp 21)]) (cs := trows LA9 (fun _ => .slice none 0 0)) TI26 TI49 rfl (lc (show _ = Value.agg (tcell ⟨1, 2, 0, []⟩ (.slice none 0 0)).toArray from rfl) (lc (show _ = Value.agg (tcell ⟨5, 3, 0, []⟩ (.slice none 0 0)).toArray from rfl) ln)) rfl rfl (by decide) (by decide) rfl ?_)))))))))))))))))))
 have hT22 : Sl (wd.alloc (.cells (trows LA9 (fun _ => .slice none 0 0)).toArray 49)) 4 (.slice (some ⟨wd.heap.size, 0, none⟩) 2 2) 2 (trows LA9 (fun _ => .slice none 0 0)) := Sl.ofRow rfl
 have hxr : Ext wd (wd.alloc (.cells (trows LA9 (fun _ => .slice none 0 0)).toArray 49)) := Only.alloc wd _
 obtain ⟨g22, hg22⟩ : ∃ g, g = wd.heap.size := ⟨_, rfl⟩
 rw [← hg22] at hT22 ⊢
 generalize wd.alloc (.cells (trows LA9 (fun _ => .slice none 0 0)).toArray 49) = w22 at hT22 hxr ⊢
 replace hx := hx.tr hxr
 replace hSc := hSc.ext hxr
 replace hC1 := hxr.blk hC1 (fun h => h)
 clear hxr
 refine Wj rfl (by simp) rfl (o_bldC (cs := [(st [97]), (.int .i64 1)]) TI51 (Sizes.cons TI9 (Sizes.cons TI3 Sizes.nil)) rfl (lcp (show _ = Value.string _ from rfl) (lcp vI lnp)) rfl rfl (Wj rfl (by simp) rfl (o_bs1 TI27 TI51 (show _ = Value.agg (roV ⟨[97], 1⟩).toArray from rfl) (by decide) (by decide) rfl ?_)))
 have hT24 : Sl (w22.alloc (.cells (Value.agg (roV ⟨[97], 1⟩).toArray).cells 51)) 2 (.slice (some ⟨w22.heap.size, 0, none⟩) 1 1) 1 (ros RA9) := Sl.one rfl
 have hxr : Ext w22 (w22.alloc (.cells (Value.agg (roV ⟨[97], 1⟩).toArray).cells 51)) := Only.alloc w22 _
 obtain ⟨g24, hg24⟩ : ∃ g, g = w22.heap.size := ⟨_, rfl⟩
 rw [← hg24] at hT24 ⊢
 generalize w22.alloc (.cells (Value.agg (roV ⟨[97], 1⟩).toArray).cells 51) = w24 at hT24 hxr ⊢
 replace hx := hx.tr hxr
 replace hSc := hSc.ext hxr
 replace hT22 := hT22.ext hxr
 replace hC1 := hxr.blk hC1 (fun h => h)
 have hB : SchR w24 LA9 RA9 (.slice (some ⟨g22, 0, none⟩) 2 2) (.slice (some ⟨g24, 0, none⟩) 1 1) (fun _ => .slice none 0 0) := ⟨⟨hT22, fun j hj => by
  have hj2 : j = 0 ∨ j = 1 := by simp [LA9] at hj; omega
  rcases hj2 with rfl | rfl <;> exact Sl.nil _ _⟩, hT24⟩
 clear hxr
 refine Wj rfl (by simp) rfl (o_bldC (cs := [_, _]) TI29 (Sizes.cons TI26 (Sizes.cons TI27 Sizes.nil)) rfl (lcp (show _ = Value.slice (some ⟨g22, 0, none⟩) 2 2 from rfl) (lcp (show _ = Value.slice (some ⟨g24, 0, none⟩) 1 1 from rfl) lnp)) rfl rfl (Wj rfl (by simp) rfl (o_call Tryd.call7 (lc rfl (lc rfl ln)) ((same_A9 LA9 RA9 tv rv U LA9 RA9 _ _ _ _ hSc.rd hB okA9 okA9 ⟨rfl, rfl⟩).mono ?_))))
 rintro v26 w26 ⟨rfl, hx26⟩
 replace hx := hx.tr hx26
 replace hSc := hSc.ext hx26
 replace hC1 := hx26.blk hC1 (fun h => h)
 refine Wj rfl (by simp) rfl (o_not' rfl (Wa rfl (o_pickO rfl rfl (Wc (W.condF' rfl (by simp) (Wp (We (Wb (Wa rfl (o_ldA TI29 rfl rfl (show Cells _ b1 0 [tv, rv] from Cells.of hC1 0 _ (by simp)) rfl (Wa rfl (o_call Tryd.call10 (lc rfl (lc rfl ln)) ((find_A9 tv rv _ (Sl.own hSc.ro) (own_one hSc.ty.row)).mono ?_)))))))))))))
 rintro v31 w31 ⟨rfl, hx31⟩
 replace hx := hx.tr hx31
 refine Wa rfl (Wf (by first | exact (show _ = Value.tuple _ from rfl) | exact rfl) (Wa rfl (o_ext rfl rfl (Wa rfl (o_ext rfl rfl (Wa rfl (Wg vI (Wa rfl (Wg vI (Wc (We (Wb (Wa rfl (Wf vI (Wa rfl (o_eq rfl rfl (Wa rfl (Wf vB (Wj rfl (by simp) rfl (Wf vI (Wj rfl (by simp) rfl (o_eq rfl rfl (Wa rfl (Ww rfl rfl (Wa rfl (Wf vB (Wj rfl (by simp) rfl (o_bldC (cs := [(.int .i64 0), (.int .i64 0), (.int .i64 0), (.slice none 0 0)]) TI49 (Sizes.cons TI3 (Sizes.cons TI3 (Sizes.cons TI3 (Sizes.cons TI47 Sizes.nil)))) rfl lnp rfl rfl (Wj rfl (by simp) rfl (o_bs1 TI26 TI49 (show _ = Value.agg (tcell ⟨0, 0, 0, []⟩ (.slice none 0 0)).toArray from rfl) (by decide) (by decide) rfl ?_))))))))))))))))))))))))))))))
 have hT42 : Sl (w31.alloc (.cells (Value.agg (tcell ⟨0, 0, 0, []⟩ (.slice none 0 0)).toArray).cells 49)) 4 (.slice (some ⟨w31.heap.size, 0, none⟩) 1 1) 1 (trows [⟨0, 0, 0, []⟩] (fun _ => .slice none 0 0)) := Sl.one rfl
 have hxr : Ext w31 (w31.alloc (.cells (Value.agg (tcell ⟨0, 0, 0, []⟩ (.slice none 0 0)).toArray).cells 49)) := Only.alloc w31 _
 obtain ⟨g42, hg42⟩ : ∃ g, g = w31.heap.size := ⟨_, rfl⟩
 rw [← hg42] at hT42 ⊢
 generalize w31.alloc (.cells (Value.agg (tcell ⟨0, 0, 0, []⟩ (.slice none 0 0)).toArray).cells 49) = w42 at hT42 hxr ⊢
 replace hx := hx.tr hxr
 clear hxr
 refine Wj rfl (by simp) rfl (o_bldC (cs := [_, (.slice none 0 0)]) TI29 (Sizes.cons TI26 (Sizes.cons TI27 Sizes.nil)) rfl (lcp (show _ = Value.slice (some ⟨g42, 0, none⟩) 1 1 from rfl) lnp) rfl rfl (Wj rfl (by simp) rfl (o_call Tryd.call11 (lc rfl ln) ((check_A9 _ _ ⟨hT42, fun j hj => by obtain rfl : j = 0 := (by simp at hj; omega); exact Sl.nil _ _⟩).mono ?_))))
 rintro v44 w44 ⟨rfl, hx44⟩
 replace hx := hx.tr hx44
 refine Wj rfl (by simp) rfl (o_fldT TI32 rfl rfl rfl TI30 rfl rfl rfl (Wj rfl (by simp) rfl (o_eq rfl rfl (Wa rfl (Ww rfl rfl (Wa rfl (Wg vB (Wc (Wm (Wu rfl vB ?_))))))))))
 exact ⟨rfl, hx⟩
end Go.Proofs.YtpbflfgigfdohaaDoor

namespace Go.Proofs.YtpbflfgigfdohaaDoor
open Go Go.Vc Go.RowKit Go.Proofs

theorem ext_of09 {w w' : World} {el s b m : Nat} (hs : 0 < s) (h : w.heap[b]? = some (.cells #[] el (0, 0))) (ho : Only (fun k => (Value.slice (some ⟨b, 0, none⟩) 0 0).ownBlock = some k) w w') (hr : w'.ownsRow m el s (.slice (some ⟨b, 0, none⟩) 0 0) 0 []) : Ext w w' := by
 have hb : w'.heap[b]? = some (.cells #[] el (0, 0)) := by
  obtain ⟨cap, cur, hv, -, hB, -, -, hcs, -⟩ := own_blk hr (g := b) rfl
  cases hv
  have : cur = #[] := by rw [← Array.size_eq_zero_iff, hcs]; simp
  rw [this] at hB; exact hB
 refine ⟨ho.os, ho.tape, ho.output, ho.size, fun k hk _ => ?_⟩
 by_cases e : k = b
 ·subst e; rw [h, hb]
 exact ho.block k hk (fun he => e (by simpa [Value.ownBlock] using he.symm))
theorem sok_of {L : List Tp} {R : List Ro} (hL : LLim L) (hR : RLim R) : SOk L R := ⟨hL.len, fun t ht => (hL.ty t ht).len, hR.len, fun t ht => (hL.ty t ht).lb, hR.nm⟩

end Go.Proofs.YtpbflfgigfdohaaDoor

namespace Go.Proofs.YtpbflfgigfdohaaDoor
open Go Go.Vc Go.RowKit Go.Proofs

theorem own_of09 {w : World} {el s b m : Nat} (h : w.heap[b]? = some (.cells #[] el (0, 0))) (hb : m ≤ b) : w.ownsRow m el s (.slice (some ⟨b, 0, none⟩) 0 0) 0 [] :=
 ⟨by simp, .inr ⟨b, 0, #[], rfl, hb, h, Nat.le_refl _, by decide, by simp, by simp⟩⟩
theorem drowsK_snoc9 (D : List Df) (V : Nat → Value) {k : Nat} (v : Value) (hk : k < D.length) : drowsK D (fun j => if j = k then v else V j) (k + 1) = drowsK D V k ++ dcell D[k] v := by
 rw [drowsK_succ, getD_at hk]

set_option maxHeartbeats 4000000 in
theorem copied9_spec (D : List Df) (dv : Value) (V : Nat → Value) (w0 : World) (hD0 : DefR w0 D dv V) (hlim : DOk D) : Ca Tryd.prog 6 #[.agg #[dv]] w0 (fun r w' => ∃ kv W, r = .agg #[kv] ∧ Defs w' w0.heap.size D kv W ∧ Ext w0 w') := by
 obtain ⟨BB, hBB⟩ : ∃ B, B = w0.heap.size := ⟨_, rfl⟩
 rw [← hBB]
 have hlen := hlim.len
 refine Ca.of Tryd.func6 Tryd.ntmps6 rfl rfl (We (Wb (Wa rfl (o_boxB rfl ?_))))
 intro w1 hC1 hx1 hs1
 have hx := hx1
 replace hC1 : w1.heap[w0.heap.size]? = some (.cells #[dv] 24 (0, 0)) := hC1
 obtain ⟨c1, hc1⟩ : ∃ c, c = w0.heap.size := ⟨_, rfl⟩
 rw [← hc1] at hC1 ⊢
 refine Wa rfl (o_alB TI24 ?_)
 intro w2 hC2 hx2 hs2
 replace hC2 : w2.heap[w1.heap.size]? = some (.cells #[.slice none 0 0] 24 (0, 0)) := hC2
 obtain ⟨c2, hc2⟩ : ∃ c, c = w1.heap.size := ⟨_, rfl⟩
 rw [← hc2] at hC2 ⊢
 replace hx := hx.tr hx2
 replace hC1 := hx2.blk hC1 (fun h => h)
 refine Wc (We (Wb (Wa rfl (o_alB TI24 ?_))))
 intro w3 hC3 hx3 hs3
 replace hC3 : w3.heap[w2.heap.size]? = some (.cells #[.slice none 0 0] 24 (0, 0)) := hC3
 obtain ⟨c3, hc3⟩ : ∃ c, c = w2.heap.size := ⟨_, rfl⟩
 rw [← hc3] at hC3 ⊢
 replace hx := hx.tr hx3
 replace hC1 := hx3.blk hC1 (fun h => h)
 replace hC2 := hx3.blk hC2 (fun h => h)
 have hb1 : BB ≤ c1 ∧ c1 < c2 ∧ c2 < c3 := by omega
 clear hs1 hs2 hs3 hc1 hc2 hc3 hx1 hx2 hx3
 refine Wc (We (We (Wb (Wa rfl (Wg vI (Wc (W.block (W.loop (fun e w => ∃ (k : Nat) (kv : Value) (KW : Nat → Value), k ≤ D.length ∧ e 1 = .pointer (some ⟨c1, 0, none⟩) ∧ e 2 = .pointer (some ⟨c2, 0, none⟩) ∧ e 3 = .pointer (some ⟨c3, 0, none⟩) ∧ e 4 = .int .i64 (k : Int) ∧ w.heap[c1]? = some (.cells #[dv] 24 (0, 0)) ∧ w.heap[c2]? = some (.cells #[.slice none 0 0] 24 (0, 0)) ∧ w.heap[c3]? = some (.cells #[kv] 24 (0, 0)) ∧ w.ownsRow BB 38 3 kv k (drowsK D KW k) ∧ Many w BB 40 7 k KW (fun j => (tyD D j).length) (fun j => exs (tyD D j)) ∧ Ext w0 w) (fun e w => D.length - (intOf (e 4)).toNat) ?_ ?_))))))))
 ·exact ⟨0, .slice none 0 0, fun _ => undef, Nat.zero_le _, rfl, rfl, rfl, rfl, hC1, hC2, hC3, World.ownsRow_nil _ _ _ _, Many.zero, hx⟩
 rintro e w ⟨k, kv, KW, hk, h1, h2, h3, h4, hC1, hC2, hC3, krow, ktys, hx⟩
 have hm4 := h4
 refine We (We (Wb (Wa rfl (Wf h4 (Wa rfl (Wl 0 TI24 rfl TI22 rfl h1 (Wa rfl (Wk TI22 rfl rfl (Wh hC1 rfl) (Wa rfl (Ws TI22 rfl (hD0.ext hx).row (Wa rfl (o_lt rfl rfl (Wc (Wn rfl (fun c10 => ?_) (fun c10 => ?_)))))))))))))))
 ·try simp only [cs8] at c10
  have hk1 : k < D.length := by omega
  obtain ⟨tb, to_, tc, hdv, htc, hty⟩ := (hD0.ext hx).atk hk1
  have hC1s := hC1
  rw [hdv] at hC1s
  have htl := hlim.ty _ (List.getElem_mem hk1)
  refine Wp (We (W.block (We (Wb (Wa rfl (Wl 0 TI24 rfl TI22 rfl h1 (Wa rfl (Wk TI22 rfl rfl (Wh hC1s rfl) (Wa rfl (Wf h4 (Wa rfl (Wt (i := k) TI22 TI38 (show _ = Value.slice (some ⟨tb, to_, none⟩) D.length tc from rfl) (show _ = Value.int .i64 (k : Int) from rfl) (by omega) (Wa rfl (o_ldA TI38 rfl rfl htc rfl (Wa rfl (o_alB TI38 ?_))))))))))))))))
  intro wa hCa hxa hsa
  refine WL.u (o_stA TI38 rfl (show _ = Value.agg (dcell D[k] (V k)).toArray from rfl) rfl (by simp only [dcell, List.toArray, Array.toList, List.all_cons, List.all_nil, sl_one1 hty]; rfl) hCa rfl ?_)
  intro wb5 hC5 hob hsb
  have hxb := Ext.own hxa (Nat.le_refl _) hob
  obtain ⟨b5, hb5⟩ : ∃ b, b = w.heap.size := ⟨_, rfl⟩
  rw [← hb5] at hC5 ⊢
  clear hCa hxa hsa hob hsb
  replace hx := hx.tr hxb
  replace hC1 := hxb.blk hC1 (fun h => h)
  replace hC2 := hxb.blk hC2 (fun h => h)
  replace hC3 := hxb.blk hC3 (fun h => h)
  replace krow := Wr krow hxb
  replace ktys := ktys.ext hxb
  replace hty := hty.ext hxb
  clear hxb
  refine Wc ?_
  obtain ⟨we, hwe⟩ : ∃ we, we = wb5.drew := ⟨_, rfl⟩
  have hxe : Ext wb5 we := hwe ▸ Only.drew wb5
  replace hx := hx.tr hxe
  replace hC1 := hxe.blk hC1 (fun h => h)
  replace hC2 := hxe.blk hC2 (fun h => h)
  replace hC3 := hxe.blk hC3 (fun h => h)
  replace krow := Wr krow hxe
  replace ktys := ktys.ext hxe
  replace hty := hty.ext hxe
  replace hC5 := hxe.blk hC5 (fun h => h)
  have ktl2 : ∀ j, j < k → ∀ b, (KW j).ownBlock = some b → b < we.heap.size := fun j hj b hb => (ktys.lt hj hb).2
  have hzwe : BB ≤ we.heap.size := by rw [hBB]; exact hx.size
  refine W.drawT 12 (Ext) [(1, fun v _ => v = _), (2, fun v _ => v = _), (3, fun v _ => v = _), (4, fun v _ => v = _), (5, fun v _ => v = _)] rfl (by kernel_rfl) (Only.refl No) (fun _ _ _ h k => h.trans k) ⟨Mono.eq, Mono.eq, Mono.eq, Mono.eq, Mono.eq, trivial⟩ ⟨h1, h2, h3, h4, rfl, trivial⟩ (WD.p rfl (fun e w hR hh => by obtain ⟨h3, -⟩ := hh; exact SG.n (Wl 0 TI24 rfl TI22 rfl h3 ⟨rfl, Only.refl No _⟩)) (WD.p rfl (fun e w hR hh => by obtain ⟨h18, -⟩ := hh; rw [← hwe] at hR; exact SG.n (Wk TI22 rfl h18 (Wh (hR.blk hC3 (fun h => h)) rfl) ⟨rfl, Only.refl No _⟩)) (WD.p rfl (fun e w hR hh => by obtain ⟨h5, -⟩ := hh; exact SG.n (Wl 0 TI38 rfl TI9 rfl h5 ⟨rfl, Only.refl No _⟩)) (WD.p rfl (fun e w hR hh => by obtain ⟨h20, -⟩ := hh; rw [← hwe] at hR; exact SG.n (Wk TI9 rfl h20 (Wh (hR.blk hC5 (fun h => h)) rfl) ⟨rfl, Only.refl No _⟩)) (WD.p rfl (fun e w hR hh => by obtain ⟨h5, -⟩ := hh; exact SG.n (Wl 1 TI38 rfl TI3 rfl h5 ⟨rfl, Only.refl No _⟩)) (WD.p rfl (fun e w hR hh => by obtain ⟨h22, -⟩ := hh; rw [← hwe] at hR; exact SG.n (Wk TI3 rfl h22 (Wh (hR.blk hC5 (fun h => h)) rfl) ⟨rfl, Only.refl No _⟩)) (WD.q (fun u w => ∃ b, we.heap.size ≤ b ∧ u = .slice (some ⟨b, 0, none⟩) 0 0 ∧ w.heap[b]? = some (.cells #[] 40 (0, 0))) (fun u w w2 hR hh => by obtain ⟨b, a1, a2, a3⟩ := hh; exact ⟨b, a1, a2, hR.blk a3 (fun h => h)⟩) rfl (fun e w hR hh => by skip; rw [← hwe] at hR; exact SG.n (o_bs0 TI36 TI40 ⟨⟨_, hR.size, rfl, heap_alloc_new _ _⟩, Only.alloc _ _⟩)) (WD.p rfl (fun e w hR hh => by obtain ⟨h5, -⟩ := hh; exact SG.n (Wl 2 TI38 rfl TI36 rfl h5 ⟨rfl, Only.refl No _⟩)) (WD.p rfl (fun e w hR hh => by obtain ⟨h25, -⟩ := hh; rw [← hwe] at hR; exact SG.n (Wk TI36 rfl h25 (Wh (hR.blk hC5 (fun h => h)) rfl) ⟨rfl, Only.refl No _⟩)) (WD.q (fun u w => w.ownsRow we.heap.size 40 7 u D[k].ty.length (exs D[k].ty)) (fun u w w2 hR hh => Wr hh hR) rfl (fun e w hR hh => by obtain ⟨h26, h24, -⟩ := hh; rw [← hwe] at hR; obtain ⟨b5, q1, q2, q3⟩ := h24; exact SG.n (o_apO (we.heap.size) TI36 TI40 q2 h26 (own_of09 q3 q1) (hty.ext hR) rfl (by decide) (one_exs _) (by rw [maxLen_eq]; omega) (by omega) hR.size (fun v1 w1 a1 a2 a3 a4 => ⟨by rw [Nat.zero_add, List.nil_append] at a1; exact a1, ext_of09 (by decide) q3 a2 a4.1⟩))) (WD.q (fun u w => ∃ kk, u = .agg (dcell D[k] kk).toArray ∧ w.ownsRow we.heap.size 40 7 kk D[k].ty.length (exs D[k].ty)) (fun u w w2 hR hh => by obtain ⟨kk, a1, a2⟩ := hh; exact ⟨kk, a1, Wr a2 hR⟩) rfl (fun e w hR hh => by obtain ⟨h27, h23, h21, -⟩ := hh; exact SG.n (o_bldC (cs := [_, _, _]) TI38 (Sizes.cons TI9 (Sizes.cons TI3 (Sizes.cons TI36 Sizes.nil))) rfl (lcp h21 (lcp h23 (lcp rfl lnp))) (by simp only [List.all_cons, List.all_nil]; rw [show ev e (.tmp 27) = e 27 from rfl, own_one h27]; rfl) rfl ⟨⟨_, rfl, h27⟩, Only.refl No _⟩)) (WD.q (fun u w => ∃ kk, w.ownsRow we.heap.size 38 3 u 1 (dcell D[k] kk) ∧ w.ownsRow we.heap.size 40 7 kk D[k].ty.length (exs D[k].ty)) (fun u w w2 hR hh => by obtain ⟨kk, a1, a2⟩ := hh; exact ⟨kk, Wr a1 hR, Wr a2 hR⟩) rfl (fun e w hR hh => by obtain ⟨h28, -⟩ := hh; rw [← hwe] at hR; obtain ⟨kk, q1, q2⟩ := h28; exact SG.n (o_bs1 TI22 TI38 q1 (by decide) (by decide) rfl ⟨⟨kk, own_mono (own_new1 rfl) hR.size, Wr q2 (Only.alloc _ _)⟩, Only.alloc w _⟩)) ?_))))))))))))
  rintro e w hR ⟨h29, h28, h27, h26, h25, h24, h23, h22, h21, h20, h19, h18, h1, h2, h3, h4, h5, -⟩
  rw [← hwe] at hR
  replace hx := hx.tr hR
  replace hC1 := hR.blk hC1 (fun h => h)
  replace hC2 := hR.blk hC2 (fun h => h)
  replace hC3 := hR.blk hC3 (fun h => h)
  replace krow := Wr krow hR
  replace ktys := ktys.ext hR
  replace hty := hty.ext hR
  replace hC5 := hR.blk hC5 (fun h => h)
  obtain ⟨kk, hr29, hkk⟩ := h29
  have hzR := hR.size
  refine Wa rfl (o_apO (BB) TI22 TI38 h19 rfl krow (Sl.own hr29) rfl (by decide) (by intro a ha; simp only [dcell, List.mem_cons, List.not_mem_nil, or_false] at ha; rcases ha with rfl | rfl | rfl; rfl; rfl; exact own_one hkk) (by rw [maxLen_eq]; omega) (by omega) (by rw [hBB]; exact hx.size) ?_)
  intro v30 w30 krow30 ho30 hb30 _
  have hrl : ∀ b, kv.ownBlock = some b → BB ≤ b := fun b hb => (krow.lt b hb).1
  replace hC1 := ho30.blk hC1 (fun he => own_off krow hC1 (by decide) he)
  replace hC2 := ho30.blk hC2 (fun he => own_off krow hC2 (by decide) he)
  replace hC3 := ho30.blk hC3 (fun he => own_off krow hC3 (by decide) he)
  replace ktys := ktys.other krow (by decide) ho30
  replace hkk := own_only hkk ho30 (fun b hb hF => own_row_off krow hkk (by decide) b hb hF)
  replace hx := hx.trans' ho30 (fun _ h => h) (fun b hb he => by have := hrl b he; omega)
  clear krow ho30 hb30
  refine Wa rfl (Wl 0 TI24 rfl TI22 rfl h3 (WL.u (o_stB TI22 rfl (show _ = v30 from rfl) (own_one krow30) hC3 (show 0 < 1 by decide) ?_)))
  intro w31 hC3n ho31 hs31
  replace krow30 := own_only krow30 ho31 (fun b hb he => by subst he; exact own_off krow30 hC3 (by decide) hb)
  replace ktys := ktys.only ho31 (fun j hj b hb he => by subst he; exact own_off (ktys.row j hj) hC3 (by decide) hb)
  replace hkk := own_only hkk ho31 (fun b hb he => by subst he; exact own_off hkk hC3 (by decide) hb)
  replace hC1 := ho31.blk hC1 (by omega)
  replace hC2 := ho31.blk hC2 (by omega)
  replace hC3 : w31.heap[c3]? = some (.cells #[v30] 24 (0, 0)) := hC3n
  replace hx := hx.trans' ho31 (fun _ h => h) (fun b hb he => by omega)
  have ktys3 := Many.snocG (X := fun j => exs (tyD D j)) (n := fun j => (tyD D j).length) ktys hkk (by omega) (fun j hj b hb => by have := ktl2 j hj b hb; omega) (by simp only [tyD_at hk1]) (by simp only [tyD_at hk1])
  clear ktys
  have ktys := ktys3
  have krow := krow30
  clear ktys3 krow30
  refine Wc (Wb (Wa rfl (Wf h4 (Wa rfl (o_addi rfl rfl (by omega) (Wa rfl (Wg vI (Wc (⟨⟨k + 1, v30, fun j => if j = k then kk else KW j, by omega, h1, h2, h3, rfl, hC1, hC2, hC3, ?_, ktys, hx⟩, ?_⟩)))))))))
  ·rw [drowsK_snoc9 _ _ _ hk1]; exact krow
  show D.length - ((k : Int) + 1).toNat < _
  rw [hm4]; simp [intOf]; omega
 try simp only [cs8] at c10
 have hk1 : k = D.length := by omega
 subst hk1
 refine W.exit (We (Wb (Wa rfl (o_ldA TI24 rfl h3 (show Cells _ c3 0 [kv] from Cells.of hC3 0 _ (by simp)) rfl (WL.u (o_stA TI24 h2 (show _ = Value.agg #[kv] from rfl) rfl (by simp [own_one krow]) hC2 rfl ?_))))))
 intro wz hC2z ho hsz
 replace krow := own_only krow ho (fun b hb he => by subst he; exact own_off krow hC2 (by decide) hb)
 replace ktys := ktys.only ho (fun j hj b hb he => by subst he; exact own_off (ktys.row j hj) hC2 (by decide) hb)
 replace hx := hx.trans' ho (fun _ h => h) (fun b hb he => by omega)
 refine Wc (Wm (retC rfl TI24 rfl h2 ((show Cells _ c2 0 [kv] from Cells.of hC2z 0 _ (by simp))) rfl ?_))
 exact ⟨kv, KW, rfl, ⟨krow, ktys⟩, hx⟩
end Go.Proofs.YtpbflfgigfdohaaDoor

namespace Go.Proofs.YtpbflfgigfdohaaDoor
open Go Go.Vc Go.RowKit Go.Proofs

theorem build_x (D : List Df) (dv : Value) (V : Nat → Value) (w0 : World) (hD : DefR w0 D dv V) (hlim : DOk D) (hnb : ∀ d ∈ D, d.ty.length ≤ 11453246122) {L : List Tp} {R : List Ro} {er ea : Int} (hL : L = bldT D) (hR : R = bldR D) (he : er = (bldV D).1) (ha : ea = (bldV D).2) : Ca Tryd.prog 5 #[.agg #[dv]] w0 (fun v w' => ∃ tv rv U, v = .tuple #[.agg #[tv, rv], .agg #[.int .i64 er, .int .i64 ea]] ∧ Schs w' w0.heap.size L R tv rv U ∧ Ext w0 w') := by
 subst hL hR he ha
 exact build_spec D dv V w0 hD hlim hnb
theorem nameB_len {l : List UInt8} (h : nameB l = true) : l.length ≤ 32 := by
 simp only [nameB, Bool.and_eq_true, decide_eq_true_eq] at h; exact h.1.1.1.2
theorem tp_lim {t : Tp} {at_ : Int} (h : tpOk t at_) : TLim t := by
 have hp : t.parts = [] ∨ partsOk t at_ := by
  obtain ⟨-, h2⟩ := h
  split at h2
  ·exact .inl h2.2
  split at h2
  ·exact .inl h2.2.2
  exact .inr h2.2.2
 rcases hp with hp | ⟨-, h2, h3⟩
 ·exact ⟨by rw [hp]; decide, fun p hp' => (by rw [hp] at hp'; cases hp'), fun p hp' => (by rw [hp] at hp'; cases hp')⟩
 refine ⟨by omega, fun p hp => ?_, fun p hp => ?_⟩
 ·obtain ⟨k, hk, rfl⟩ := List.getElem_of_mem hp
  obtain ⟨_, h4, -⟩ := h3 k hk
  split at h4
  ·have := nameB_len h4.1; omega
  rw [h4.1]; decide
 obtain ⟨k, hk, rfl⟩ := List.getElem_of_mem hp
 obtain ⟨_, h4, -⟩ := h3 k hk
 split at h4
 ·rw [h4.2]; decide
 omega
theorem sum_le {l : List Nat} {f : Nat → Nat} {B : Nat} (h : ∀ i ∈ l, f i ≤ B) : (l.map f).sum ≤ l.length * B := by
 induction l with
 | nil => simp
 | cons a l ih =>
  have h1 := h a (List.mem_cons_self ..)
  have h2 := ih (fun i hi => h i (List.mem_cons_of_mem _ hi))
  rw [List.map_cons, List.sum_cons, List.length_cons, Nat.succ_mul]
  omega
theorem bld_lim {D : List Df} (hlim : DOk D) (hnb : ∀ d ∈ D, d.ty.length ≤ 11453246122) : LLim (bldT D) ∧ RLim (bldR D) := by
 by_cases hb : bldF D = none
 ·obtain ⟨hck, hfn, hbn⟩ := bldF_none.1 hb
  have hG := good_of hfn
  have hT : bldT D = schT D := if_pos hb
  have hR : bldR D = schR D := if_pos hb
  have hok := bld_ok hG hbn
  have h256 := hG.trd.n
  rw [hT, hR]
  refine ⟨⟨?_, fun t ht => ?_⟩, ⟨by rw [schR_len]; omega, fun r hr => ?_⟩⟩
  ·have h1 := bld_len hG hbn
   have h2 : ((List.range D.length).map fun i => cntN (tyD D i)).sum ≤ (List.range D.length).length * 11453246122 := sum_le fun i hi => by
    have hi := List.mem_range.1 hi
    have h3 : cntN (tyD D i) ≤ (tyD D i).length := List.length_filter_le _ _
    rw [tyD_at hi] at h3 ⊢
    have := hnb _ (List.getElem_mem hi)
    omega
   rw [List.length_range] at h2
   omega
  ·obtain ⟨i, hi, rfl⟩ := List.getElem_of_mem ht
   exact tp_lim (hok.ok i hi)
  obtain ⟨i, hi, rfl⟩ := List.getElem_of_mem hr
  have hi' : i < D.length := by rw [schR_len] at hi; exact hi
  have h3 := (schR_at hG hbn hi').1
  rw [List.getD_eq_getElem?_getD, List.getElem?_eq_getElem hi, getD_at hi'] at h3
  simp only [Option.getD_some] at h3
  rw [h3]
  exact hlim.nm _ (List.getElem_mem hi')
 have hT : bldT D = [] := if_neg hb
 have hR : bldR D = [] := if_neg hb
 rw [hT, hR]
 exact ⟨⟨by decide, fun t ht => (by cases ht)⟩, ⟨by decide, fun r hr => (by cases hr)⟩⟩
end Go.Proofs.YtpbflfgigfdohaaDoor

namespace Go.Proofs.YtpbflfgigfdohaaDoor
open Go Go.Vc Go.RowKit Go.Proofs

theorem parse_len (xs : List UInt8) : ∀ d ∈ (parseA xs).1, d.ty.length ≤ 65536 := by
 rcases parse_cases xs with ⟨-, h⟩ | ⟨-, D, hp, h⟩
 ·rw [h]; intro d hd; cases hd
 have hc := cutA_len xs
 have hT : ∀ i, (tkA (cutA xs).1 i).text.length ≤ 65536 := fun i => by
  by_cases hi : i < (cutA xs).1.length
  ·rw [tkA_lt hi]; exact hc.2 _ (List.getElem_mem hi)
  rw [tkA_ge (by omega)]; exact Nat.zero_le _
 have hl := pd_lim hT hp
 rw [h]
 intro d hd
 obtain ⟨d0, h0, rfl⟩ := List.mem_map.1 hd
 have := (hl d0 h0).2.1
 show (d0.ty.map _).length ≤ _
 rw [List.length_map]; omega
theorem bld_nz {D : List Df} {v : Int × Int} (h : bldF D = some v) : ¬ v.1 = 0 := by
 unfold bldF at h
 split at h
 ·cases hf : fA D with
  | some u =>
   rw [hf] at h
   have e : u = v := by simpa using h
   have := fA_nz hf
   rw [← e]; omega
  | none =>
   rw [hf, Option.none_or] at h
   have := bnd_nz h
   omega
 rename_i hc
 have e : v = (((chkS D).2.2 : Int), 0) := by simpa using h.symm
 rw [e]
 show ¬ (((chkS D).2.2 : Nat) : Int) = 0
 omega
theorem bldV_iff {D : List Df} : (bldV D).1 = 0 ↔ bldF D = none := by
 unfold bldV
 cases h : bldF D with
 | none => simp
 | some v => have := bld_nz h; simp [this]
end Go.Proofs.YtpbflfgigfdohaaDoor

namespace Go.Proofs.YtpbflfgigfdohaaDoor
open Go Go.Vc Go.RowKit Go.Proofs

theorem shape_of {w : World} {b : Nat} {cs : Array Value} {T : TypeId} {fr : Nat × Nat} (h : w.heap[b]? = some (.cells cs T fr)) : w.shape? b = some (T, cs.size) := by unfold World.shape?; rw [h]
theorem o_cvPU {P : Program} {e : Env} {w : World} {K : Value → World → Prop} {ty : TypeId} {x : Operand} {src dst t : TypeId} {d0 : TypeDesc} {sz0 bs0 : Nat} {z0 : Value} {a : Addr} {cs : Array Value} {T : TypeId} {fr : Nat × Nat} (hs : P.underlying src = some (.pointer t)) (hd : P.underlying dst = some .unsafePointer) (hT : Ty P t d0 sz0 bs0 z0) (hj : sz0 ≠ 0) (hx : ev e x = .pointer (some a))
  (hB : w.heap[a.block]? = some (.cells cs T fr)) (ho : a.off < cs.size) (k : K (.pointer (some a)) w) : OP P e (.convert src dst x) ty w K := by
 obtain ⟨i, hi1, hi2, hi3, hi4⟩ := hT.info
 exact OP.of (by simp [execOp, hx, Lib.run_to_unsafe w a hs hd hi1 (by rw [hi2]; exact hj) (shape_of hB) ho]) k
theorem o_cvUP {P : Program} {e : Env} {w : World} {K : Value → World → Prop} {ty : TypeId} {x : Operand} {src dst u : TypeId} {d0 : TypeDesc} {sz0 bs0 : Nat} {z0 : Value} {a : Addr} {cs : Array Value} {T : TypeId} {fr : Nat × Nat} (hs : P.underlying src = some .unsafePointer) (hd : P.underlying dst = some (.pointer u)) (hT : Ty P u d0 sz0 bs0 z0) (hx : ev e x = .pointer (some a))
  (hB : w.heap[a.block]? = some (.cells cs T fr)) (hlies : liesAt P P.depth T (cs.size / P.cellsOf T) a.off u 1 = true) (k : K (.pointer (some a)) w) : OP P e (.convert src dst x) ty w K := by
 obtain ⟨i, hi1, hi2, hi3, hi4⟩ := hT.info
 exact OP.of (by simp [execOp, hx, Lib.run_from_unsafe w a hs hd hi1 (shape_of hB) hlies]) k
theorem o_neP {P : Program} {e : Env} {w : World} {K : Value → World → Prop} {ty : TypeId} {x y : Operand} {t te u : TypeId} {d0 : TypeDesc} {sz0 bs0 : Nat} {z0 : Value} {a : Addr} (ht : P.underlying t = some (.pointer te)) (hT : Ty P te d0 sz0 bs0 z0) (hx : ev e x = .pointer (some a)) (hy : ev e y = .pointer (some a)) (k : K (.bool false) w) : OP P e (.binOp .neq t x y u) ty w K := by
 obtain ⟨i, hi1, hi2, hi3, hi4⟩ := hT.info
 exact OP.of (by have := Lib.run_neq_ptr_same (P := P) w a ht hi1; simp only [execOp, eqGuard, hx, hy]; simp [this]) k
theorem only_freeze (w : World) (p : Addr) (n : Nat) : Only (fun k => k = p.block) w (w.freeze p n) := by
 unfold World.freeze
 split
 ·exact Only.refl _ _
 refine ⟨rfl, rfl, rfl, by simp, fun k hk hn => ?_⟩
 simp only [Array.getElem?_modify]
 rw [if_neg (fun h => hn h.symm)]
theorem o_uS {P : Program} {e : Env} {w : World} {K : Value → World → Prop} {ty : TypeId} {x y : Operand} {pt it el : TypeId} {g : Nat} {cs : Array Value} {fr : Nat × Nat} {l : List UInt8} (hp : P.underlying pt = some (.pointer el)) (hc : P.cellsOf el = 1) (hx : ev e x = .pointer (some ⟨g, 0, none⟩)) (hy : ev e y = .int .i64 (l.length : Int)) (hB : w.heap[g]? = some (.cells cs el fr)) (h0 : l ≠ []) (hn : l.length ≤ cs.size) (h63 : l.length ≤ 9223372036854775807) (hC : Cells w g 0 (l.map bv))
  (k : ∀ w', Only (fun k => k = g) w w' → K (st l) w') : OP P e (.call ⟨.builtin .unsafeString, #[x, y], #[pt, it]⟩) ty w K := by
 have h := Lib.run_unsafeString_row (P := P) w pt it ty el hp hc g cs.size (shape_of hB) l h0 hn h63 (fun j x hj => by rw [add_none]; exact hC j (bv x) (by simp [hj]))
 exact OP.of (by simp [execOp, resolve, invoke, builtin, hx, hy, h]) (k _ (only_freeze w ⟨g, 0, none⟩ l.length))
theorem o_uS0 {P : Program} {e : Env} {w : World} {K : Value → World → Prop} {ty : TypeId} {x y : Operand} {pt it : TypeId} {p : Option Addr} (hx : ev e x = .pointer p) (hy : ev e y = .int .i64 0) (k : K (st []) w) : OP P e (.call ⟨.builtin .unsafeString, #[x, y], #[pt, it]⟩) ty w K := by
 have h := Lib.run_unsafeString_none (P := P) w pt it ty p
 exact OP.of (by simp [execOp, resolve, invoke, builtin, hx, hy, h]; rfl) k
structure PrM (w : World) (H p : Nat) (ad v lf : Value) (bs : List UInt8) : Prop where
 cell : w.heap[p]? = some (.cells #[ad, v, lf] 72 (0, 0))
 adr : ad = .pointer none ∨ ad = .pointer (some ⟨p, 0, none⟩)
 row : w.ownsRow H 5 1 v bs.length (bs.map bv)
 hp : H ≤ p
theorem PrM.ext {w w' : World} {H p : Nat} {ad v lf : Value} {bs : List UInt8} (h : PrM w H p ad v lf bs) (ho : Ext w w') : PrM w' H p ad v lf bs := ⟨ho.blk h.cell (fun h => h), h.adr, Wr h.row ho, h.hp⟩
theorem PrM.lt {w : World} {H p : Nat} {ad v lf : Value} {bs : List UInt8} (h : PrM w H p ad v lf bs) : H ≤ p ∧ p < w.heap.size := ⟨h.hp, (Array.getElem?_eq_some_iff.1 h.cell).1⟩
/-- what a printer writes: its own cell, rows of bytes -/
def FP (H p : Nat) (w : World) (k : Nat) : Prop := k = p ∨ (H ≤ k ∧ ∃ c d, w.heap[k]? = some (.cells c 5 d))
theorem FP.tr {H p : Nat} {a b c : World} (h : Only (FP H p a) a b) (k : Only (FP H p b) b c) : Only (FP H p a) a c :=
 h.trans' k (fun _ h => h) (fun j hj hF => by
  rcases hF with hF | ⟨h1, x, d, h2⟩
  ·exact .inl hF
  by_cases hn : FP H p a j
  ·exact hn
  have := h.block j hj hn
  exact .inr ⟨h1, x, d, by rw [← this]; exact h2⟩)
theorem FP.ext {H p : Nat} {a b c : World} (h : Only (FP H p a) a b) (k : Ext b c) : Only (FP H p a) a c := h.trans' k (fun _ h => h) (fun _ _ h => h.elim)
/-- a block of another type stays -/
theorem FP.blk {H p : Nat} {a b : World} (h : Only (FP H p a) a b) {k : Nat} {cs : Array Value} {T : TypeId} {fr : Nat × Nat} (hk : a.heap[k]? = some (.cells cs T fr)) (hT : T ≠ 5) (hp : k ≠ p) : b.heap[k]? = some (.cells cs T fr) :=
 h.blk hk (fun hF => by
  rcases hF with hF | ⟨-, c, d, h2⟩
  ·exact hp hF
  rw [hk] at h2; simp only [Option.some.injEq, Obj.cells.injEq] at h2; exact hT h2.2.1)
theorem FP.off {H p : Nat} {a : World} {k : Nat} (hp : H ≤ p) (h : k < H) : ¬ FP H p a k := fun hF => by
 rcases hF with hF | ⟨h1, -⟩ <;> omega
theorem own_u8 {w : World} {base b : Nat} {n : Nat} {v : Value} {xs : List Value} (h : w.ownsRow base 5 1 v n xs) (hb : v.ownBlock = some b) : ∃ c d, w.heap[b]? = some (.cells c 5 d) := by
 rcases h.2 with ⟨rfl, _⟩ | ⟨g, cap, cur, rfl, h1, h2, r⟩
 ·simp [Value.ownBlock] at hb
 simp only [Value.ownBlock, Option.some.injEq] at hb
 subst hb
 exact ⟨cur, _, h2⟩

theorem copycheck_fresh (H p : Nat) (v lf : Value) (bs : List UInt8) (w0 : World) (hM : PrM w0 H p (.pointer none) v lf bs) : Ca Tryd.prog 66 #[.pointer (some ⟨p, 0, none⟩)] w0 (fun u w' => PrM w' H p (.pointer (some ⟨p, 0, none⟩)) v lf bs ∧ Only (fun k => k = p) w0 w') := by
 have hcell := hM.cell
 refine Ca.of Tryd.func66 Tryd.ntmps66 rfl rfl (We (Wb (Wa rfl (Wf (by first | exact (show _ = Value.pointer _ from rfl) | exact rfl) (Wa rfl (o_nil rfl (Wa rfl (Wl 0 TI70 rfl TI67 rfl rfl (Wa rfl (Wk TI67 rfl rfl (Wh hcell rfl) (Wa rfl (o_eqN TI67 rfl rfl (Wc (W.condT' rfl (rfl) (Wb (Wa rfl (Wf (by first | exact (show _ = Value.pointer _ from rfl) | exact rfl) (Wa rfl (Wf (by first | exact (show _ = Value.pointer _ from rfl) | exact rfl) (Wa rfl (o_cvPU Tryd.underlying67 Tryd.underlying146 TI70 (by decide) rfl hcell (by simp) (Wa rfl (o_callX Tryd.func75 (by kernel_rfl) rfl (by kernel_rfl) (show _ = some Extern.AbiNoEscape.same by kernel_rfl) (lc rfl ln) (rfl) (Wa rfl (o_cvUP Tryd.underlying146 Tryd.underlying67 TI70 rfl hcell (by kernel_rfl) (Wa rfl (o_nil rfl (Wa rfl (Wl 0 TI70 rfl TI67 rfl rfl (WL.u (o_stB TI67 rfl (show _ = Value.pointer (some ⟨p, 0, none⟩) from rfl) rfl hcell (show 0 < 3 by decide) ?_)))))))))))))))))))))))))))))))
 intro wc hB13 ho hs13
 have hM2 : PrM wc H p (.pointer (some ⟨p, 0, none⟩)) v lf bs := ⟨hB13, .inr rfl, own_only hM.row ho (fun k hk he => by subst he; exact own_off hM.row hcell (by decide) hk), hM.hp⟩
 refine Wc (ret0 rfl ?_)
 exact ⟨hM2, ho⟩
theorem copycheck_used (H p : Nat) (v lf : Value) (bs : List UInt8) (w0 : World) (hM : PrM w0 H p (.pointer (some ⟨p, 0, none⟩)) v lf bs) : Ca Tryd.prog 66 #[.pointer (some ⟨p, 0, none⟩)] w0 (fun u w' => PrM w' H p (.pointer (some ⟨p, 0, none⟩)) v lf bs ∧ Only (fun k => k = p) w0 w') := by
 have hcell := hM.cell
 refine Ca.of Tryd.func66 Tryd.ntmps66 rfl rfl (We (Wb (Wa rfl (Wf (by first | exact (show _ = Value.pointer _ from rfl) | exact rfl) (Wa rfl (o_nil rfl (Wa rfl (Wl 0 TI70 rfl TI67 rfl rfl (Wa rfl (Wk TI67 rfl rfl (Wh hcell rfl) (Wa rfl (o_eqN TI67 rfl rfl (Wc (W.condF' rfl (rfl) (We (Wb (Wa rfl (Wf (by first | exact (show _ = Value.pointer _ from rfl) | exact rfl) (Wa rfl (o_nil rfl (Wa rfl (Wl 0 TI70 rfl TI67 rfl rfl (Wa rfl (Wk TI67 rfl rfl (Wh hcell rfl) (Wa rfl (Wf (by first | exact (show _ = Value.pointer _ from rfl) | exact rfl) (Wa rfl (o_neP Tryd.underlying67 TI70 rfl rfl (Wc (W.condF' rfl (rfl) (Wp (ret0 rfl ?_))))))))))))))))))))))))))))))))
 exact ⟨hM, Only.refl _ _⟩

theorem copycheck_spec (H p : Nat) (ad v lf : Value) (bs : List UInt8) (w0 : World) (hM : PrM w0 H p ad v lf bs) : Ca Tryd.prog 66 #[.pointer (some ⟨p, 0, none⟩)] w0 (fun u w' => PrM w' H p (.pointer (some ⟨p, 0, none⟩)) v lf bs ∧ Only (fun k => k = p) w0 w') := by
 rcases hM.adr with h | h
 ·subst h; exact copycheck_fresh H p v lf bs w0 hM
 subst h; exact copycheck_used H p v lf bs w0 hM

theorem write_spec (H p : Nat) (ad v lf : Value) (bs s : List UInt8) (w0 : World) (hM : PrM w0 H p ad v lf bs) (hl : bs.length + s.length ≤ 140737488355328) : Ca Tryd.prog 36 #[.pointer (some ⟨p, 0, none⟩), st s] w0 (fun u w' => ∃ ad' v', PrM w' H p ad' v' lf (bs ++ s) ∧ Only (FP H p w0) w0 w') := by
 refine Ca.of Tryd.func36 Tryd.ntmps36 rfl rfl (We (Wb (Wa rfl (Wg vI (Wa rfl (Wo (Wc (We (Wb (Wa rfl (Wf (by first | exact (show _ = Value.pointer _ from rfl) | exact rfl) (Wa rfl (o_call Tryd.call66 (lc rfl ln) ((copycheck_spec H p ad v lf bs _ hM).mono ?_))))))))))))))
 rintro v7 w7 ⟨hM7, ho7⟩
 have hcell := hM7.cell
 have hlt := hM7.lt
 have hmx : 140737488355328 ≤ maxLen := by rw [maxLen_eq]; decide
 refine Wc (We (Wb (Wa rfl (Wf (by first | exact (show _ = Value.pointer _ from rfl) | exact rfl) (Wa rfl (Wf (by first | exact (show _ = Value.pointer _ from rfl) | exact rfl) (Wa rfl (o_nil rfl (Wa rfl (Wl 1 TI70 rfl TI68 rfl rfl (Wa rfl (Wk TI68 rfl rfl (Wh hcell rfl) (Wa rfl (Wf (show _ = Value.string _ from rfl) (Wa rfl (o_apS (H) TI68 TI5 TI9 rfl rfl hM7.row rfl (by omega) hl (by omega) ?_))))))))))))))))
 intro v14 w14 hr14 ho14
 rw [← List.map_append, ← List.length_append] at hr14
 have hoff := own_off hM7.row hcell (show 5 ≠ 72 by decide)
 have hc14 := ho14.blk hcell hoff
 have hge := fun k hk => (hM7.row.lt k hk).1
 have hu8 := fun k (hk : v.ownBlock = some k) => own_u8 hM7.row hk
 refine Wa rfl (o_nil rfl (Wa rfl (Wl 1 TI70 rfl TI68 rfl rfl (WL.u (o_stB TI68 rfl (show _ = v14 from rfl) (own_one hr14) hc14 (show 1 < 3 by decide) ?_)))))
 intro w16 hB16 ho16 hs16
 have hM2 : PrM w16 H p (.pointer (some ⟨p, 0, none⟩)) v14 lf (bs ++ s) := ⟨hB16, .inr rfl, own_only hr14 ho16 (fun k hk he => by subst he; exact own_off hr14 hc14 (by decide) hk), hM7.hp⟩
 have hO : Only (FP H p w0) w0 w16 := FP.tr (ho7.mono (fun k _ h => .inl h)) (FP.tr (ho14.mono (fun k _ h => .inr ⟨hge k h, hu8 k h⟩)) (ho16.mono (fun k _ h => .inl h)))
 refine Wc (We (Wb (Wa rfl (Wf (show _ = Value.string _ from rfl) (Wa rfl (o_lenT TI9 rfl (Wa rfl (Wg vI (Wa rfl (Wo (Wc (Wm (ret2v rfl vI rfl ?_)))))))))))))
 exact ⟨_, _, hM2, hO⟩
theorem blen_spec (H p : Nat) (ad v lf : Value) (bs : List UInt8) (w0 : World) (hM : PrM w0 H p ad v lf bs) : Ca Tryd.prog 18 #[.pointer (some ⟨p, 0, none⟩)] w0 (fun u w' => u = .int .i64 (bs.length : Int) ∧ w' = w0) := by
 refine Ca.of Tryd.func18 Tryd.ntmps18 rfl rfl (We (Wb (Wa rfl (Wg vI (Wc (We (Wb (Wa rfl (Wf (by first | exact (show _ = Value.pointer _ from rfl) | exact rfl) (Wa rfl (o_nil rfl (Wa rfl (Wl 1 TI70 rfl TI68 rfl rfl (Wa rfl (Wk TI68 rfl rfl (Wh hM.cell rfl) (Wa rfl (Ws TI68 rfl (Sl.own hM.row) (Wa rfl (Wg vI (Wc (Wm (Wu rfl vI ?_))))))))))))))))))))))
 exact ⟨rfl, rfl⟩
end Go.Proofs.YtpbflfgigfdohaaDoor

namespace Go.Proofs
open Go.Shelf
def Tryd.laysM171_ren : Go.Shelf.Ren := ⟨fun | 171 => 37 | 243 => 67 | 246 => 76 | 283 => 78 | 284 => 79 | 285 => 80 | 286 => 81 | 129 => 84 | 317 => 83 | 318 => 85 | 319 => 86 | 320 => 87 | 337 => 88 | 338 => 89 | n => n, fun | 3 => 3 | 9 => 9 | 2 => 2 | 4 => 4 | 171 => 149 | 0 => 0 | 53 => 150 | 37 => 68 | 5 => 5 | 173 => 153 | 212 => 157 | 51 => 158 | 20 => 20 | 213 => 159 | 46 => 160 | 232 => 163 | 233 => 164 | n => n, fun | 17 => 0 | 18 => 2 | 19 => 3 | n => n⟩
theorem Tryd.laysM171 : Go.Proofs.LaysM.n171 Tryd.prog Tryd.laysM171_ren := {
 mixed := by kernel_rfl
 f129 := Tryd.func84.trans (congrArg some (by kernel_rfl))
 f171 := Tryd.func37.trans (congrArg some (by kernel_rfl))
 f243 := Tryd.func67.trans (congrArg some (by kernel_rfl))
 f246 := Tryd.func76.trans (congrArg some (by kernel_rfl))
 f283 := Tryd.func78.trans (congrArg some (by kernel_rfl))
 f284 := Tryd.func79.trans (congrArg some (by kernel_rfl))
 f285 := Tryd.func80.trans (congrArg some (by kernel_rfl))
 f286 := Tryd.func81.trans (congrArg some (by kernel_rfl))
 f317 := Tryd.func83.trans (congrArg some (by kernel_rfl))
 f318 := Tryd.func85.trans (congrArg some (by kernel_rfl))
 f319 := Tryd.func86.trans (congrArg some (by kernel_rfl))
 f320 := Tryd.func87.trans (congrArg some (by kernel_rfl))
 f337 := Tryd.func88.trans (congrArg some (by kernel_rfl))
 f338 := Tryd.func89.trans (congrArg some (by kernel_rfl))
 t0 := Tryd.underlying0
 a0 := Tryd.isAgg0
 z0 := Tryd.sizeOf0
 v0 := Tryd.zeroValue0
 t2 := Tryd.underlying2
 a2 := Tryd.isAgg2
 z2 := Tryd.sizeOf2
 v2 := Tryd.zeroValue2
 t3 := Tryd.underlying3
 a3 := Tryd.isAgg3
 z3 := Tryd.sizeOf3
 v3 := Tryd.zeroValue3
 t4 := Tryd.underlying4
 a4 := Tryd.isAgg4
 z4 := Tryd.sizeOf4
 v4 := Tryd.zeroValue4
 t5 := Tryd.underlying5
 a5 := Tryd.isAgg5
 z5 := Tryd.sizeOf5
 v5 := Tryd.zeroValue5
 t9 := Tryd.underlying9
 a9 := Tryd.isAgg9
 z9 := Tryd.sizeOf9
 v9 := Tryd.zeroValue9
 t20 := Tryd.underlying20
 a20 := Tryd.isAgg20
 z20 := Tryd.sizeOf20
 v20 := Tryd.zeroValue20
 t37 := Tryd.underlying68
 a37 := Tryd.isAgg68
 z37 := Tryd.sizeOf68
 v37 := Tryd.zeroValue68
 t46 := Tryd.underlying160
 a46 := Tryd.isAgg160
 z46 := Tryd.sizeOf160
 v46 := Tryd.zeroValue160
 t51 := Tryd.underlying158
 a51 := Tryd.isAgg158
 z51 := Tryd.sizeOf158
 v51 := Tryd.zeroValue158
 t53 := Tryd.underlying150
 a53 := Tryd.isAgg150
 z53 := Tryd.sizeOf150
 v53 := Tryd.zeroValue150
 t171 := Tryd.underlying149
 a171 := Tryd.isAgg149
 z171 := Tryd.sizeOf149
 v171 := Tryd.zeroValue149
 t173 := Tryd.underlying153
 a173 := Tryd.isAgg153
 z173 := Tryd.sizeOf153
 v173 := Tryd.zeroValue153
 t212 := Tryd.underlying157
 a212 := Tryd.isAgg157
 z212 := Tryd.sizeOf157
 v212 := Tryd.zeroValue157
 t213 := Tryd.underlying159
 a213 := Tryd.isAgg159
 z213 := Tryd.sizeOf159
 t232 := Tryd.underlying163
 a232 := Tryd.isAgg163
 z232 := Tryd.sizeOf163
 v232 := Tryd.zeroValue163
 t233 := Tryd.underlying164
 a233 := Tryd.isAgg164
 z233 := Tryd.sizeOf164
 v233 := Tryd.zeroValue164
 g17 := by kernel_rfl
 g18 := by kernel_rfl
 g19 := by kernel_rfl
 i0 := by kernel_rfl
 i2 := by kernel_rfl
 i3 := by kernel_rfl
 i4 := by kernel_rfl
 i5 := by kernel_rfl
 i9 := by kernel_rfl
 i20 := by kernel_rfl
 i37 := by kernel_rfl
 i46 := by kernel_rfl
 i51 := by kernel_rfl
 i53 := by kernel_rfl
 i171 := by kernel_rfl
 i173 := by kernel_rfl
 i212 := by kernel_rfl
 i232 := by kernel_rfl
 i233 := by kernel_rfl
 m17 := by kernel_rfl
 m18 := by kernel_rfl
 m19 := by kernel_rfl }
open Go.RowKit Go.Sort Go.Lib in
/-- strconv.Itoa: "Itoa is equivalent to FormatInt(int64(i), 10).": i's DECIMAL NUMERAL ('Lib.itoa': a '-' where i is negative, then the digits), FOR EVERY int. The world behind the call: the world before it, new blocks behind the heap (the library's 'var a [24]byte'), draws. (LAID: no walk: one application.) -/
theorem Tryd.strconv_Itoa (n : Int) (h0 : -9223372036854775808 ≤ n) (h1 : n ≤ 9223372036854775807) (w : World) (htab : Lib.TabIs Tryd.prog w "internal/strconv.uint64pow10" .u64 Lib.pow10Tab) :
  Calls Tryd.prog 37 #[.int .i64 n] w fun e w' => e = .returned (.string ⟨(Lib.itoa n).toArray⟩) ∧ ∃ k os, w' = grow (w.drewN k) os := Any.strconv_Itoa Tryd.laysM171 n h0 h1 w htab
end Go.Proofs

namespace Go.Proofs.YtpbflfgigfdohaaDoor
open Go Go.Vc Go.RowKit Go.Proofs

/-- the table of the library lies where it lies -/
def tabC : Array Value := (Lib.pow10Tab.map fun z => Value.int .u64 z).toArray
def Tab (w : World) : Prop := ∃ T fr, w.heap[0]? = some (.cells tabC T fr)
theorem Tab.only {w w' : World} {F : Nat → Prop} (h : Tab w) (ho : Only F w w') (hn : ¬ F 0) : Tab w' := by
 obtain ⟨T, fr, h⟩ := h
 exact ⟨T, fr, ho.blk h hn⟩
theorem Tab.ext {w w' : World} (h : Tab w) (ho : Ext w w') : Tab w' := h.only ho (fun h => h)
theorem only_grow (w : World) (os : Array Obj) : Ext w (Go.Sort.grow w os) := ⟨rfl, rfl, rfl, by simp [Go.Sort.grow], fun k hk _ => by simp only [Go.Sort.grow]; rw [Array.getElem?_append_left hk]⟩
theorem dec_digL : ∀ n, Lib.decDigits n = digL n := by
 intro n
 induction n using Nat.strongRecOn with
 | _ n ih =>
  rw [Lib.decDigits, digL]
  by_cases h : n < 10
  ·rw [if_pos h]; simp [h]
  rw [if_neg h]; simp only [h, dif_neg, not_false_iff]; rw [ih (n / 10) (by omega)]
theorem itoa_spec (n : Nat) (hn : n ≤ 9223372036854775807) (w0 : World) (hT : Tab w0) : Ca Tryd.prog 37 #[.int .i64 (n : Int)] w0 (fun v w' => v = st (digL n) ∧ Ext w0 w') := by
 have htab : Lib.TabIs Tryd.prog w0 "internal/strconv.uint64pow10" .u64 Lib.pow10Tab := by
  obtain ⟨T, fr, h⟩ := hT
  have hg : (Tryd.prog).globalNamed "internal/strconv.uint64pow10" = some 0 := by kernel_rfl
  simp only [Lib.TabIs, World.var?, hg, Option.bind_some, h]
  rfl
 refine Calls.mono (Tryd.strconv_Itoa (n : Int) (by omega) (by omega) w0 htab) ?_
 rintro e w' ⟨rfl, k, os, rfl⟩
 refine ⟨?_, (Only.drewN w0 k).tr (only_grow _ os)⟩
 rw [Lib.itoa_nonneg, dec_digL]
mutual
def Tr.sh : Tr → List UInt8
 | .node y ks =>
  if y.kind = 1 then [117] ++ digL (8 * y.n).toNat
  else if y.kind = 2 then [98, 111, 111, 108]
  else if y.kind = 3 then [118, 97, 114, 105, 110, 116]
  else if y.kind = 9 then y.name
  else if y.kind = 4 ∨ y.kind = 5 then (if y.kind = 4 then [118, 101, 99, 116, 111, 114, 60] else [108, 105, 115, 116, 60]) ++ (ks.shK ++ ([44] ++ (digL y.n.toNat ++ [62])))
  else if y.kind = 6 then [111, 112, 116, 105, 111, 110, 60] ++ (ks.shK ++ [62])
  else (if y.kind = 8 then [115, 116, 114, 117, 99, 116, 123] else [117, 110, 105, 111, 110, 123]) ++ (ks.shR (decide (y.kind = 8)) true ++ [125])
def Trs.shK : Trs → List UInt8
 | .nil => []
 | .cons t ts => t.sh ++ ts.shK
def Trs.shR (s first : Bool) : Trs → List UInt8
 | .nil => []
 | .cons t ts => (if first then [] else [44]) ++ ((if s then t.top.label else digL t.top.tag.toNat) ++ ([58] ++ (t.sh ++ ts.shR s false)))
end
def shHd (s : Bool) (y : Ex) : List UInt8 := (if s then y.label else digL y.tag.toNat) ++ [58]
theorem r_uSD {P : Program} {e : Env} {w : World} {ty : TypeId} {x : Operand} {t : TypeId} {a : Addr} {n c : Nat} (hx : ev e x = .slice (some a) n c) (hc : c ≠ 0) : RV P e (.call ⟨.builtin .unsafeSliceData, #[x], #[t]⟩) ty w (.pointer (some a)) := by
 have := Lib.run_unsafeSliceData_row (P := P) w #[t] ty a n c hc; simp [RV, execOp, resolve, invoke, builtin, hx, this]
theorem r_uSD0 {P : Program} {e : Env} {w : World} {ty : TypeId} {x : Operand} {t : TypeId} {n c : Nat} (hx : ev e x = .slice none n c) : RV P e (.call ⟨.builtin .unsafeSliceData, #[x], #[t]⟩) ty w (.pointer none) := by
 have := Lib.run_unsafeSliceData_nil (P := P) w #[t] ty n c; simp [RV, execOp, resolve, invoke, builtin, hx, this]

theorem bstr_full (H p : Nat) (ad v lf : Value) (bs : List UInt8) (w0 : World) (hM : PrM w0 H p ad v lf bs) (h0 : bs ≠ []) : Ca Tryd.prog 19 #[.pointer (some ⟨p, 0, none⟩)] w0 (fun u w' => u = st bs ∧ Only (fun k => H ≤ k) w0 w') := by
 have hlen : 0 < bs.length := List.length_pos_iff.2 h0
 obtain ⟨g, cap, hv, hgb⟩ := own_some hM.row hlen
 subst hv
 have hcell := hM.cell
 obtain ⟨cap2, cur, hv2, hHg, hBg, hnc, hcm, hcs, ht⟩ := own_blk hM.row hgb
 cases hv2
 have hmx := maxLen_eq
 have hCb : Cells w0 g 0 (bs.map bv) := by
  rcases (Sl.own hM.row).val with ⟨hz, -⟩ | ⟨b, o, c, hvv, -, hc⟩
  ·omega
  cases hvv; exact hc
 refine Ca.of Tryd.func19 Tryd.ntmps19 rfl rfl (We (Wb (Wa rfl (Wg (show _ = Value.string _ from rfl) (Wc (We (W.tail 10 rfl (by kernel_rfl) (WS.c rfl ((SO.o rfl (Wf (by first | exact (show _ = Value.pointer _ from rfl) | exact rfl) ⟨rfl, rfl⟩))) (WS.c rfl ((SO.r (r_nil rfl))) (WS.c rfl ((SO.o rfl (Wl 1 TI70 rfl TI68 rfl rfl ⟨rfl, rfl⟩))) (WS.c rfl ((SO.o rfl (Wk TI68 rfl rfl (Wh hcell rfl) ⟨rfl, rfl⟩))) (WS.c rfl ((SO.r (r_uSD rfl (by omega)))) (WS.c rfl ((SO.o rfl (Wf (by first | exact (show _ = Value.pointer _ from rfl) | exact rfl) ⟨rfl, rfl⟩))) (WS.c rfl ((SO.r (r_nil rfl))) (WS.c rfl ((SO.o rfl (Wl 1 TI70 rfl TI68 rfl rfl ⟨rfl, rfl⟩))) (WS.c rfl ((SO.o rfl (Wk TI68 rfl rfl (Wh hcell rfl) ⟨rfl, rfl⟩))) (WS.c rfl ((SO.r (r_lenR TI68 rfl (Sl.own hM.row)))) (WS.nil ?_))))))))))))))))))
 have hxd := Only.drew w0
 obtain ⟨wd, hwd⟩ : ∃ wd, wd = w0.drew := ⟨_, rfl⟩
 rw [← hwd] at hxd ⊢
 replace hBg := hxd.blk hBg (fun h => h)
 replace hCb := hCb.only hxd (fun h => h)
 refine Wa rfl (o_uS Tryd.underlying108 (by kernel_rfl) rfl rfl hBg h0 (by omega) (by omega) hCb ?_)
 intro w13 ho13
 refine Wa rfl (Wg (show _ = Value.string _ from rfl) (Wc (Wm (Wu rfl (show _ = st bs from rfl) ?_))))
 exact ⟨rfl, (hxd.mono (fun _ _ h => h.elim)).trans (ho13.mono (fun k _ h => by subst h; exact hHg))⟩
theorem bstr_nil (H p : Nat) (ad lf : Value) (w0 : World) (hM : PrM w0 H p ad (.slice none 0 0) lf []) : Ca Tryd.prog 19 #[.pointer (some ⟨p, 0, none⟩)] w0 (fun u w' => u = st [] ∧ Only (fun k => H ≤ k) w0 w') := by
 have hcell := hM.cell
 refine Ca.of Tryd.func19 Tryd.ntmps19 rfl rfl (We (Wb (Wa rfl (Wg (show _ = Value.string _ from rfl) (Wc (We (W.tail 10 rfl (by kernel_rfl) (WS.c rfl ((SO.o rfl (Wf (by first | exact (show _ = Value.pointer _ from rfl) | exact rfl) ⟨rfl, rfl⟩))) (WS.c rfl ((SO.r (r_nil rfl))) (WS.c rfl ((SO.o rfl (Wl 1 TI70 rfl TI68 rfl rfl ⟨rfl, rfl⟩))) (WS.c rfl ((SO.o rfl (Wk TI68 rfl rfl (Wh hcell rfl) ⟨rfl, rfl⟩))) (WS.c rfl ((SO.r (r_uSD0 rfl))) (WS.c rfl ((SO.o rfl (Wf (by first | exact (show _ = Value.pointer _ from rfl) | exact rfl) ⟨rfl, rfl⟩))) (WS.c rfl ((SO.r (r_nil rfl))) (WS.c rfl ((SO.o rfl (Wl 1 TI70 rfl TI68 rfl rfl ⟨rfl, rfl⟩))) (WS.c rfl ((SO.o rfl (Wk TI68 rfl rfl (Wh hcell rfl) ⟨rfl, rfl⟩))) (WS.c rfl ((SO.r (r_lenR TI68 rfl (Sl.own hM.row)))) (WS.nil ?_))))))))))))))))))
 have hxd := Only.drew w0
 obtain ⟨wd, hwd⟩ : ∃ wd, wd = w0.drew := ⟨_, rfl⟩
 rw [← hwd] at hxd ⊢
 refine Wa rfl (o_uS0 rfl rfl (Wa rfl (Wg (show _ = Value.string _ from rfl) (Wc (Wm (Wu rfl (show _ = st [] from rfl) ?_))))))
 exact ⟨rfl, hxd.mono (fun _ _ h => h.elim)⟩
theorem text_spec (H p : Nat) (ad v lf : Value) (bs : List UInt8) (b : Nat) (ss : List (List UInt8)) (w0 : World) (hM : PrM w0 H p ad v lf bs) (hB : w0.heap[b]? = some (.cells (ss.map st).toArray 9 (0, 0))) (hbp : b ≠ p) (hb : bs.length + ss.flatten.length ≤ 140737488355328) (hn : ss.length ≤ 100) : Ca Tryd.prog 16 #[.pointer (some ⟨p, 0, none⟩), .slice (some ⟨b, 0, none⟩) ss.length ss.length] w0 (fun u w' => ∃ ad' v', PrM w' H p ad' v' lf (bs ++ ss.flatten) ∧ Only (FP H p w0) w0 w') := by
 have hx : Only (FP H p w0) w0 w0 := Only.refl _ _
 refine Ca.of Tryd.func16 Tryd.ntmps16 rfl rfl (We (Wb (Wa rfl (Wf (by first | exact vS | exact rfl) (Wa rfl (o_len TI99 rfl (Wa rfl (Wf vI (Wc (W.block (W.loop (fun e w => ∃ (k : Nat) (ad v : Value), k ≤ ss.length ∧ e 0 = .pointer (some ⟨p, 0, none⟩) ∧ e 6 = .slice (some ⟨b, 0, none⟩) ss.length ss.length ∧ e 7 = .int .i64 (ss.length : Int) ∧ e 8 = .int .i64 (k : Int) ∧ PrM w H p ad v lf (bs ++ (ss.take k).flatten) ∧ w.heap[b]? = some (.cells (ss.map st).toArray 9 (0, 0)) ∧ Only (FP H p w0) w0 w) (fun e w => ss.length - (intOf (e 8)).toNat) ?_ ?_)))))))))))
 ·exact ⟨0, ad, v, Nat.zero_le _, rfl, rfl, rfl, rfl, by simpa using hM, hB, hx⟩
 rintro e w ⟨k, ad, v, hk, h0, h6, h7, h8, hM, hB, hx⟩
 have hm8 := h8
 refine We (Wb (Wa rfl (o_lt h8 h7 (Wc (We (Wn rfl (fun c9 => ?_) (fun c9 => ?_)))))))
 ·try simp only [cs8] at c9
  have hk1 : k < ss.length := by omega
  have htk : bs ++ (ss.take k).flatten ++ ss[k] = bs ++ (ss.take (k + 1)).flatten := by
   have h1 : ss.take (k + 1) = ss.take k ++ [ss[k]] := by rw [List.take_add_one, List.getElem?_eq_getElem hk1]; rfl
   rw [h1, List.flatten_append, List.append_assoc]; simp
  have hfl : (ss.take k).flatten.length + ss[k].length ≤ ss.flatten.length := by
   have h1 : ss.flatten = (ss.take (k + 1)).flatten ++ (ss.drop (k + 1)).flatten := by rw [← List.flatten_append, List.take_append_drop]
   have h2 := congrArg List.length h1
   have h3 := congrArg List.length htk
   simp only [List.length_append] at h2 h3
   omega
  have hcell : w.cell? ⟨b, 0 + k * 1, none⟩ = some (st ss[k]) := by
   have h1 : Cells w b 0 (ss.map st) := Cells.of hB 0 _ (by simp)
   have h2 := h1 k (st ss[k]) (by simp [hk1])
   simpa using h2
  refine Wp (We (W.block (We (Wb (Wa rfl (Wt TI99 TI9 h6 h8 (by omega) (Wa rfl (Wk TI9 rfl rfl hcell (Wa rfl (Wg (show _ = Value.string _ from rfl) (Wc (Wb (Wa rfl (Wf h0 (Wa rfl (o_nil rfl (Wa rfl (Wl 0 TI72 rfl TI70 rfl rfl (Wa rfl (Wf (show _ = Value.string _ from rfl) (Wa rfl (o_call Tryd.call36 (lc rfl (lc rfl ln)) ((write_spec H p ad v lf _ ss[k] _ hM (by rw [List.length_append]; omega)).mono ?_)))))))))))))))))))))))
  rintro v16 w16 ⟨ad', v', hM2, ho16⟩
  replace hB := FP.blk ho16 hB (by decide) hbp
  replace hx := FP.tr hx ho16
  clear hM
  have hM := hM2
  clear hM2
  refine Wc (Wb (Wa rfl (o_addi h8 rfl (by omega) (Wa rfl (Wf vI (Wc (⟨⟨k + 1, ad', v', by omega, h0, h6, h7, rfl, ?_, hB, hx⟩, ?_⟩)))))))
  ·rw [← htk]; exact hM
  show ss.length - ((k : Int) + 1).toNat < _
  rw [hm8]; simp [intOf]; omega
 try simp only [cs8] at c9
 have hk1 : k = ss.length := by omega
 subst hk1
 rw [List.take_length] at hM
 refine W.exit (ret0 rfl ?_)
 exact ⟨_, _, hM, hx⟩
end Go.Proofs.YtpbflfgigfdohaaDoor

namespace Go.Proofs.YtpbflfgigfdohaaDoor
open Go Go.Vc Go.RowKit Go.Proofs

theorem sliced_one (a : Option Addr) (l h c s : Nat) : (sliced a l h c s).oneCell' = true := by
 unfold sliced; repeat' split
 all_goals rfl
def NPost (H p : Nat) (C : List Ex) (b2 : List UInt8) (w0 : World) (_ : Value) (w' : World) : Prop := ∃ ad' v' lf', PrM w' H p ad' v' lf' b2 ∧ Sl w' 7 lf' C.length (exs C) ∧ (∀ k, lf'.ownBlock = some k → k < H) ∧ Only (FP H p w0) w0 w'
def SNode (n : Nat) : Prop := ∀ (t : Tr) (above : Int) (deep H p : Nat) (ad v lf : Value) (C : List Ex) (bs : List UInt8) (w0 : World), t.flat.length ≤ n → t.wf above deep → PrM w0 H p ad v lf bs → Sl w0 7 lf (t.flat ++ C).length (exs (t.flat ++ C)) → (∀ k, lf.ownBlock = some k → k < H) → Tab w0 → 0 < H → bs.length + t.sh.length ≤ 140737488355328 →
 Ca Tryd.prog 17 #[.pointer (some ⟨p, 0, none⟩)] w0 (NPost H p C (bs ++ t.sh) w0)
def SEach (n : Nat) (s : Bool) (f : FuncId) : Prop := ∀ (t : Tr) (deep H p b1 : Nat) (ad v lf : Value) (C : List Ex) (bs : List UInt8) (w0 : World), t.flat.length ≤ n → t.wf (if s then 8 else 7) deep → PrM w0 H p ad v lf bs → w0.heap[b1]? = some (.cells #[.pointer (some ⟨p, 0, none⟩)] 98 (0, 0)) → b1 ≠ p → Sl w0 7 lf (t.flat ++ C).length (exs (t.flat ++ C)) → (∀ k, lf.ownBlock = some k → k < H) → Tab w0 → 0 < H → bs.length + (shHd s t.top ++ t.sh).length ≤ 140737488355328 →
 Ca Tryd.prog f #[.agg (exV t.top).toArray, .pointer (some ⟨b1, 0, none⟩)] w0 (NPost H p C (bs ++ (shHd s t.top ++ t.sh)) w0)
theorem fm_top {t : Tr} : ∃ F, t.flat = t.top :: F := by
 cases t with
 | node y ks => exact ⟨ks.flat, rfl⟩

theorem many_spec (n : Nat) (IH : SNode n) (t : Tr) (above : Int) (deep : Nat) (wd : List UInt8) (nn : Nat) (H p : Nat) (ad v lf : Value) (C : List Ex) (bs : List UInt8) (w0 : World) (hn : t.flat.length ≤ n) (hw : t.wf above deep) (hM : PrM w0 H p ad v lf bs) (hS : Sl w0 7 lf (t.flat ++ C).length (exs (t.flat ++ C))) (hlf : ∀ k, lf.ownBlock = some k → k < H) (hT : Tab w0) (h1H : 0 < H) (hnn : nn ≤ 9223372036854775807) (hb : bs.length + (wd ++ (t.sh ++ ([44] ++ (digL nn ++ [62])))).length ≤ 140737488355328) : Ca Tryd.prog 38 #[.pointer (some ⟨p, 0, none⟩), st wd, .int .i64 (nn : Int)] w0 (NPost H p C (bs ++ (wd ++ (t.sh ++ ([44] ++ (digL nn ++ [62]))))) w0) := by
 have hHp := hM.hp
 have hx : Only (FP H p w0) w0 w0 := Only.refl _ _
 refine Ca.of Tryd.func38 Tryd.ntmps38 rfl rfl (We (Wb (Wa rfl (Wf (by first | exact (show _ = Value.pointer _ from rfl) | exact rfl) (Wa rfl (Wf (show _ = Value.string _ from rfl) (Wa rfl (o_bs1 (v := st (wd)) TI99 TI9 (show _ = st (wd) from rfl) (by decide) (by decide) rfl ?_))))))))
 have hB8 : (w0.alloc (Obj.cells (st (wd)).cells 9)).heap[w0.heap.size]? = some (.cells (List.map st [wd]).toArray 9 (0, 0)) := heap_alloc_new _ _
 have hxl := Only.alloc w0 (Obj.cells (st (wd)).cells 9)
 have hbp8 : w0.heap.size ≠ p := by have := hM.lt; omega
 generalize w0.alloc (Obj.cells (st (wd)).cells 9) = ws8 at hB8 hxl ⊢
 obtain ⟨b8, hb8⟩ : ∃ b, b = w0.heap.size := ⟨_, rfl⟩
 rw [← hb8] at hB8 hbp8 ⊢
 replace hS := hS.ext hxl
 replace hT := hT.ext hxl
 replace hM := hM.ext hxl
 replace hx := FP.ext hx hxl
 clear hxl
 refine Wa rfl (o_call Tryd.call16 (lc rfl (lc rfl ln)) ((text_spec H p _ _ lf (bs) b8 [wd] _ hM hB8 hbp8 (by simp [List.length_append] at hb ⊢; omega) (by simp)).mono ?_))
 rintro v9 w9 ⟨ad9, vv9, hM2, ho9⟩
 replace hS := hS.only ho9 (fun k hk => FP.off hHp (hlf k hk))
 replace hT := hT.only ho9 (FP.off hHp h1H)
 replace hx := FP.tr hx ho9
 clear hM
 have hM := hM2
 clear hM2
 refine Wc (We (Wb (Wa rfl (Wf (by first | exact (show _ = Value.pointer _ from rfl) | exact rfl) ?_))))
 have hIH := IH t above deep H p _ _ lf C _ _ hn hw hM hS hlf hT h1H (by simp [List.length_append] at hb ⊢; omega)
 refine Wa rfl (o_call Tryd.call17 (lc rfl ln) ((hIH).mono ?_))
 rintro v11 w11 ⟨ad11, vv11, lf2, hM2, hS2, hlf2, ho11⟩
 replace hT := hT.only ho11 (FP.off hHp h1H)
 replace hx := FP.tr hx ho11
 clear hM hS hlf hIH
 have hM := hM2
 have hS := hS2
 have hlf := hlf2
 clear hM2 hS2 hlf2
 refine Wc (Wb (Wa rfl (Wf (by first | exact (show _ = Value.pointer _ from rfl) | exact rfl) (Wa rfl (Wf vI (Wa rfl (o_call Tryd.call37 (lc rfl ln) ((itoa_spec nn hnn _ hT).mono ?_))))))))
 rintro v14 w14 ⟨rfl, hx14⟩
 replace hS := hS.ext hx14
 replace hT := hT.ext hx14
 replace hM := hM.ext hx14
 replace hx := FP.ext hx hx14
 refine Wa rfl (o_bsn (vs := [st ([44]), st (digL nn), st ([62])]) (xs := [(.const (.string (.mk #[44]))), (.tmp 14), (.const (.string (.mk #[62])))]) TI99 TI9 rfl (lc (show _ = Value.string _ from rfl) (lc (show _ = Value.string _ from rfl) (lc (show _ = Value.string _ from rfl) ln))) rfl rfl (by decide) (by decide) ?_)
 have hB15 : (w14.alloc (Obj.cells [st ([44]), st (digL nn), st ([62])].toArray 9)).heap[w14.heap.size]? = some (.cells (List.map st [[44], digL nn, [62]]).toArray 9 (0, 0)) := heap_alloc_new _ _
 have hxl := Only.alloc w14 (Obj.cells [st ([44]), st (digL nn), st ([62])].toArray 9)
 have hbp15 : w14.heap.size ≠ p := by have := hM.lt; omega
 generalize w14.alloc (Obj.cells [st ([44]), st (digL nn), st ([62])].toArray 9) = ws15 at hB15 hxl ⊢
 obtain ⟨b15, hb15⟩ : ∃ b, b = w14.heap.size := ⟨_, rfl⟩
 rw [← hb15] at hB15 hbp15 ⊢
 replace hS := hS.ext hxl
 replace hT := hT.ext hxl
 replace hM := hM.ext hxl
 replace hx := FP.ext hx hxl
 clear hxl
 refine Wa rfl (o_call Tryd.call16 (lc rfl (lc rfl ln)) ((text_spec H p _ _ lf2 _ b15 [[44], digL nn, [62]] _ hM hB15 hbp15 (by simp [List.length_append] at hb ⊢; omega) (by simp)).mono ?_))
 rintro v16 w16 ⟨ad16, vv16, hM2, ho16⟩
 replace hS := hS.only ho16 (fun k hk => FP.off hHp (hlf k hk))
 replace hT := hT.only ho16 (FP.off hHp h1H)
 replace hx := FP.tr hx ho16
 clear hM
 have hM := hM2
 clear hM2
 refine Wc (ret0 rfl ?_)
 exact ⟨_, _, _, by simpa [List.append_assoc] using hM, hS, hlf, hx⟩
theorem each_u (n : Nat) (IH : SNode n) : SEach n false 40 := by
 intro t deep H p b1 ad v lf C bs w0 hn hw hM hB1 hb1p hS hlf hT h1H hb
 obtain ⟨x, hx0⟩ : ∃ x, x = t.top := ⟨_, rfl⟩
 rw [← hx0] at hb ⊢
 have hHp := hM.hp
 have hx : Only (FP H p w0) w0 w0 := Only.refl _ _
 have hl1 := (Array.getElem?_eq_some_iff.1 hB1).1
 obtain ⟨-, -, g1, g2⟩ := rightB_iff (wf_top hw)
 rw [← hx0] at g1 g2
 have htg : 0 ≤ x.tag ∧ x.tag ≤ 2147483647 := by unfold tagB at g2; simp only [Bool.or_eq_true, Bool.and_eq_true, decide_eq_true_eq] at g2; omega
 have hdg := fun w hT => itoa_spec x.tag.toNat (by omega) w hT
 simp only [show ((x.tag.toNat : Nat) : Int) = x.tag by omega] at hdg
 refine Ca.of Tryd.func40 Tryd.ntmps40 rfl rfl (We (Wb (Wa rfl (o_boxB rfl ?_))))
 intro w2 hC2 hx2 hs2
 obtain ⟨b2, hb2⟩ : ∃ b, b = w0.heap.size := ⟨_, rfl⟩
 rw [← hb2] at hC2 ⊢
 have hb2p : b2 ≠ p := by have := hM.lt; omega
 replace hC2 : w2.heap[b2]? = some (.cells (exV x).toArray 40 (0, 0)) := hC2
 replace hS := hS.ext hx2
 replace hT := hT.ext hx2
 replace hM := hM.ext hx2
 replace hx := FP.ext hx hx2
 replace hB1 := hx2.blk hB1 (fun h => h)
 refine Wc (We ?_)
 obtain ⟨wd, hwd⟩ : ∃ wd, wd = w2.drew := ⟨_, rfl⟩
 have hxd : Ext w2 wd := hwd ▸ Only.drew w2
 replace hS := hS.ext hxd
 replace hT := hT.ext hxd
 replace hM := hM.ext hxd
 replace hx := FP.ext hx hxd
 replace hB1 := hxd.blk hB1 (fun h => h)
 replace hC2 := hxd.blk hC2 (fun h => h)
 refine W.drawT 5 (Ext) [(1, fun v _ => v = _), (2, fun v _ => v = _)] rfl (by kernel_rfl) (Only.refl No) (fun _ _ _ h k => h.trans k) ⟨Mono.eq, Mono.eq, trivial⟩ ⟨rfl, rfl, trivial⟩ (WD.p rfl (fun e w hR hh => by obtain ⟨h1, -⟩ := hh; rw [← hwd] at hR; exact SG.n (Wk TI98 rfl h1 (Wh (hR.blk hB1 (fun h => h)) rfl) ⟨rfl, Only.refl No _⟩)) (WD.p rfl (fun e w hR hh => by obtain ⟨h2, -⟩ := hh; exact SG.n (Wl 4 TI40 rfl TI3 rfl h2 ⟨rfl, Only.refl No _⟩)) (WD.p rfl (fun e w hR hh => by obtain ⟨h4, -⟩ := hh; rw [← hwd] at hR; exact SG.n (Wk TI3 rfl h4 (Wh (hR.blk hC2 (fun h => h)) rfl) ⟨rfl, Only.refl No _⟩)) (WD.p rfl (fun e w hR hh => by obtain ⟨h5, -⟩ := hh; rw [← hwd] at hR; exact SG.n (o_call Tryd.call37 (lc h5 ln) ((hdg _ (hT.ext hR)).mono (fun v w' h => h)))) (WD.q (fun u w => ∃ b, wd.heap.size ≤ b ∧ w.heap[b]? = some (.cells (List.map st [digL x.tag.toNat, [58]]).toArray 9 (0, 0)) ∧ u = .slice (some ⟨b, 0, none⟩) 2 2) (fun u w w2 hR hh => by obtain ⟨b, h1, h2, h3⟩ := hh; exact ⟨b, h1, hR.blk h2 (fun h => h), h3⟩) rfl (fun e w hR hh => by obtain ⟨h6, -⟩ := hh; rw [← hwd] at hR; exact SG.n (o_bsn (vs := [st (digL x.tag.toNat), st [58]]) (xs := [(.tmp 6), (.const (.string (.mk #[58])))]) TI99 TI9 rfl (lc h6 (lc (show _ = Value.string _ from rfl) ln)) rfl rfl (by decide) (by decide) ⟨⟨_, hR.size, heap_alloc_new _ _, rfl⟩, Only.alloc _ _⟩)) ?_)))))
 rintro e w hR ⟨h7, h6, h5, h4, h3, h1, h2, -⟩
 rw [← hwd] at hR
 obtain ⟨b7, hb7, hB7, h7⟩ := h7
 have hbp7 : b7 ≠ p := by have := hM.lt; omega
 replace hS := hS.ext hR
 replace hT := hT.ext hR
 replace hM := hM.ext hR
 replace hx := FP.ext hx hR
 replace hB1 := hR.blk hB1 (fun h => h)
 replace hC2 := hR.blk hC2 (fun h => h)
 refine Wa rfl (o_call Tryd.call16 (lc h3 (lc h7 ln)) ((text_spec H p _ _ lf (bs) b7 [digL x.tag.toNat, [58]] _ hM hB7 hbp7 (by simp [shHd] at hb ⊢; omega) (by simp)).mono ?_))
 rintro v8 w8 ⟨ad8, vv8, hM2, ho8⟩
 replace hS := hS.only ho8 (fun k hk => FP.off hHp (hlf k hk))
 replace hT := hT.only ho8 (FP.off hHp h1H)
 replace hB1 := FP.blk ho8 hB1 (by decide) hb1p
 replace hx := FP.tr hx ho8
 clear hM
 have hM := hM2
 clear hM2
 refine Wc (Wb (Wa rfl (Wk TI98 rfl h1 (Wh hB1 rfl) ?_)))
 have hIH := IH t _ deep H p _ _ lf C _ _ hn hw hM hS hlf hT h1H (by simp [shHd] at hb ⊢; omega)
 refine Wa rfl (o_call Tryd.call17 (lc rfl ln) ((hIH).mono ?_))
 rintro v10 w10 ⟨adx, vx, lf2, hM2, hS2, hlf2, hox⟩
 refine Wc (ret0 rfl ?_)
 exact ⟨_, _, _, by simpa [shHd, List.append_assoc] using hM2, hS2, hlf2, FP.tr hx hox⟩
theorem each_s (n : Nat) (IH : SNode n) : SEach n true 41 := by
 intro t deep H p b1 ad v lf C bs w0 hn hw hM hB1 hb1p hS hlf hT h1H hb
 obtain ⟨x, hx0⟩ : ∃ x, x = t.top := ⟨_, rfl⟩
 rw [← hx0] at hb ⊢
 have hHp := hM.hp
 have hx : Only (FP H p w0) w0 w0 := Only.refl _ _
 have hl1 := (Array.getElem?_eq_some_iff.1 hB1).1
 obtain ⟨-, -, g1, g2⟩ := rightB_iff (wf_top hw)
 rw [← hx0] at g1 g2
 refine Ca.of Tryd.func41 Tryd.ntmps41 rfl rfl (We (Wb (Wa rfl (o_boxB rfl ?_))))
 intro w2 hC2 hx2 hs2
 obtain ⟨b2, hb2⟩ : ∃ b, b = w0.heap.size := ⟨_, rfl⟩
 rw [← hb2] at hC2 ⊢
 have hb2p : b2 ≠ p := by have := hM.lt; omega
 replace hC2 : w2.heap[b2]? = some (.cells (exV x).toArray 40 (0, 0)) := hC2
 replace hS := hS.ext hx2
 replace hT := hT.ext hx2
 replace hM := hM.ext hx2
 replace hx := FP.ext hx hx2
 replace hB1 := hx2.blk hB1 (fun h => h)
 refine Wc (We (Wb (Wa rfl (Wk TI98 rfl rfl (Wh hB1 rfl) (Wa rfl (Wl 3 TI40 rfl TI9 rfl rfl (Wa rfl (Wk TI9 rfl rfl (Wh hC2 rfl) (Wa rfl (o_bsn (vs := [st (x.label), st ([58])]) (xs := [(.tmp 5), (.const (.string (.mk #[58])))]) TI99 TI9 rfl (lc (show _ = Value.string _ from rfl) (lc (show _ = Value.string _ from rfl) ln)) rfl rfl (by decide) (by decide) ?_))))))))))
 have hB6 : (w2.alloc (Obj.cells [st (x.label), st ([58])].toArray 9)).heap[w2.heap.size]? = some (.cells (List.map st [x.label, [58]]).toArray 9 (0, 0)) := heap_alloc_new _ _
 have hxl := Only.alloc w2 (Obj.cells [st (x.label), st ([58])].toArray 9)
 have hbp6 : w2.heap.size ≠ p := by have := hM.lt; omega
 generalize w2.alloc (Obj.cells [st (x.label), st ([58])].toArray 9) = ws6 at hB6 hxl ⊢
 obtain ⟨b6, hb6⟩ : ∃ b, b = w2.heap.size := ⟨_, rfl⟩
 rw [← hb6] at hB6 hbp6 ⊢
 replace hS := hS.ext hxl
 replace hT := hT.ext hxl
 replace hM := hM.ext hxl
 replace hx := FP.ext hx hxl
 replace hB1 := hxl.blk hB1 (fun h => h)
 clear hxl
 refine Wa rfl (o_call Tryd.call16 (lc rfl (lc rfl ln)) ((text_spec H p _ _ lf (bs) b6 [x.label, [58]] _ hM hB6 hbp6 (by simp [shHd] at hb ⊢; omega) (by simp)).mono ?_))
 rintro v7 w7 ⟨ad7, vv7, hM2, ho7⟩
 replace hS := hS.only ho7 (fun k hk => FP.off hHp (hlf k hk))
 replace hT := hT.only ho7 (FP.off hHp h1H)
 replace hB1 := FP.blk ho7 hB1 (by decide) hb1p
 replace hx := FP.tr hx ho7
 clear hM
 have hM := hM2
 clear hM2
 refine Wc (Wb (Wa rfl (Wk TI98 rfl rfl (Wh hB1 rfl) ?_)))
 have hIH := IH t _ deep H p _ _ lf C _ _ hn hw hM hS hlf hT h1H (by simp [shHd] at hb ⊢; omega)
 refine Wa rfl (o_call Tryd.call17 (lc rfl ln) ((hIH).mono ?_))
 rintro v10 w10 ⟨adx, vx, lf2, hM2, hS2, hlf2, hox⟩
 refine Wc (ret0 rfl ?_)
 exact ⟨_, _, _, by simpa [shHd, List.append_assoc] using hM2, hS2, hlf2, FP.tr hx hox⟩
theorem kids_spec (n : Nat) (s : Bool) (fc : FuncId) (hE : SEach n s fc) (hcall : ∀ args w, (callFunc fc args).run Tryd.prog w = .ok (.enter fc args) w) (ks : Trs) (deep b1 : Nat) (H p : Nat) (ad v lf : Value) (C : List Ex) (bs : List UInt8) (w0 : World) (hn : ks.flat.length ≤ n) (hw : ks.wf (if s then 8 else 7) deep) (hM : PrM w0 H p ad v lf bs) (hB1 : w0.heap[b1]? = some (.cells #[.pointer (some ⟨p, 0, none⟩)] 98 (0, 0))) (hb1p : b1 ≠ p) (hS : Sl w0 7 lf (ks.flat ++ C).length (exs (ks.flat ++ C))) (hlf : ∀ k, lf.ownBlock = some k → k < H) (hT : Tab w0) (h1H : 0 < H) (h64 : ks.len ≤ 64) (hb : bs.length + (ks.shR s true).length ≤ 140737488355328) : Ca Tryd.prog 39 #[.pointer (some ⟨p, 0, none⟩), .int .i64 (ks.len : Int), .func (.func fc) #[] #[.pointer (some ⟨b1, 0, none⟩)]] w0 (NPost H p C (bs ++ ks.shR s true) w0) := by
 have hHp := hM.hp
 have hx : Only (FP H p w0) w0 w0 := Only.refl _ _
 refine Ca.of Tryd.func39 Tryd.ntmps39 rfl rfl (We (Wb (Wa rfl (Wf vI (Wa rfl (Wf vI (Wc (W.block (W.loop (fun e w => ∃ (k : Nat) (rest : Trs) (ad v lf : Value) (b : List UInt8), k + rest.len = ks.len ∧ rest.flat.length ≤ n ∧ rest.wf (if s then 8 else 7) deep ∧ bs ++ ks.shR s true = b ++ rest.shR s (decide (k = 0)) ∧ e 0 = .pointer (some ⟨p, 0, none⟩) ∧ e 2 = .func (.func fc) #[] #[.pointer (some ⟨b1, 0, none⟩)] ∧ e 7 = .int .i64 (ks.len : Int) ∧ e 8 = .int .i64 (k : Int) ∧ PrM w H p ad v lf b ∧ w.heap[b1]? = some (.cells #[.pointer (some ⟨p, 0, none⟩)] 98 (0, 0)) ∧ Sl w 7 lf (rest.flat ++ C).length (exs (rest.flat ++ C)) ∧ (∀ k, lf.ownBlock = some k → k < H) ∧ Tab w ∧ Only (FP H p w0) w0 w) (fun e w => ks.len - (intOf (e 8)).toNat) ?_ ?_)))))))))
 ·exact ⟨0, ks, ad, v, lf, bs, by omega, hn, hw, rfl, rfl, rfl, rfl, rfl, hM, hB1, hS, hlf, hT, hx⟩
 rintro e w ⟨k, rest, ad, v, lf, b, hkl, hn, hw, hq, h0, h2, h7, h8, hM, hB1, hS, hlf, hT, hx⟩
 have hm8 := h8
 have hqb := congrArg List.length hq
 rw [List.length_append, List.length_append] at hqb
 refine We ?_
 rcases rest with _ | ⟨t, ts⟩
 ·skip
  have hk0 : k = ks.len := by simpa [Trs.len] using hkl
  have hq2 : bs ++ ks.shR s true = b := by rw [hq]; simp [Trs.shR]
  refine Wb (Wa rfl (o_lt h8 h7 (Wc (We (W.condF' rfl (by simp; omega) (W.exit (ret0 rfl ?_)))))))
  exact ⟨_, _, _, by rw [hq2]; exact hM, by simpa [Trs.flat] using hS, hlf, hx⟩
 skip
 have hk1 : k + ts.len + 1 = ks.len := by simp only [Trs.len] at hkl; omega
 obtain ⟨F, hF⟩ := fm_top (t := t)
 have hsr : (Trs.cons t ts).shR s (decide (k = 0)) = (if decide (k = 0) = true then [] else [44]) ++ (shHd s t.top ++ (t.sh ++ ts.shR s false)) := by simp [Trs.shR, shHd]
 rw [hsr] at hqb
 have hn1 : t.flat.length ≤ n := by simp [Trs.flat] at hn; omega
 have hn2 : ts.flat.length ≤ n := by simp [Trs.flat] at hn; omega
 have hS0 : Sl w 7 lf (t.flat ++ (ts.flat ++ C)).length (exs (t.flat ++ (ts.flat ++ C))) := by simpa [Trs.flat] using hS
 clear hS
 have hS := hS0
 clear hS0
 refine Wb (Wa rfl (o_lt h8 h7 (Wc (We (W.condT' rfl (by simp; omega) (Wp (We (W.block (We (Wb (Wa rfl (Wf h8 (Wa rfl (Wg vI (Wc (We (We (Wb (Wa rfl (Wf vI (Wa rfl (o_gt rfl rfl (Wc (W.cut (fun e1 w1 => e1 0 = .pointer (some ⟨p, 0, none⟩) ∧ e1 2 = .func (.func fc) #[] #[.pointer (some ⟨b1, 0, none⟩)] ∧ e1 7 = .int .i64 (ks.len : Int) ∧ e1 8 = .int .i64 (k : Int) ∧ ∃ ad v, PrM w1 H p ad v lf (b ++ (if decide (k = 0) = true then [] else [44])) ∧ w1.heap[b1]? = some (.cells #[.pointer (some ⟨p, 0, none⟩)] 98 (0, 0)) ∧ Sl w1 7 lf (t.flat ++ (ts.flat ++ C)).length (exs (t.flat ++ (ts.flat ++ C))) ∧ Tab w1 ∧ Only (FP H p w0) w0 w1) ?_ ?_))))))))))))))))))))))))
 ·-- both ways
  refine Wn rfl (fun c12 => ?_) (fun c12 => ?_)
  ·try simp only [cs8] at c12
   have hkz : ¬ k = 0 := by omega
   refine Wb (Wa rfl (Wf h0 (Wa rfl (o_bs1 (v := st ([44])) TI99 TI9 (show _ = st ([44]) from rfl) (by decide) (by decide) rfl ?_))))
   have hB14 : (w.alloc (Obj.cells (st ([44])).cells 9)).heap[w.heap.size]? = some (.cells (List.map st [[44]]).toArray 9 (0, 0)) := heap_alloc_new _ _
   have hxl := Only.alloc w (Obj.cells (st ([44])).cells 9)
   have hbp14 : w.heap.size ≠ p := by have := hM.lt; omega
   generalize w.alloc (Obj.cells (st ([44])).cells 9) = ws14 at hB14 hxl ⊢
   obtain ⟨b14, hb14⟩ : ∃ b, b = w.heap.size := ⟨_, rfl⟩
   rw [← hb14] at hB14 hbp14 ⊢
   replace hS := hS.ext hxl
   replace hT := hT.ext hxl
   replace hM := hM.ext hxl
   replace hx := FP.ext hx hxl
   replace hB1 := hxl.blk hB1 (fun h => h)
   clear hxl
   refine Wa rfl (o_call Tryd.call16 (lc rfl (lc rfl ln)) ((text_spec H p _ _ lf (b) b14 [[44]] _ hM hB14 hbp14 (by rw [if_neg (by simpa using hkz)] at hqb; simp [List.length_append] at hqb ⊢; omega) (by simp)).mono ?_))
   rintro v15 w15 ⟨ad15, vv15, hM2, ho15⟩
   replace hS := hS.only ho15 (fun k hk => FP.off hHp (hlf k hk))
   replace hT := hT.only ho15 (FP.off hHp h1H)
   replace hB1 := FP.blk ho15 hB1 (by decide) hb1p
   replace hx := FP.tr hx ho15
   clear hM
   have hM := hM2
   clear hM2
   refine Wc ?_
   first | exact ⟨h0, h2, h7, h8, _, _, by rw [if_neg (by simpa using hkz)]; simpa using hM, hB1, hS, hT, hx⟩ | exact ⟨h0, h2, h7, h8, _, _, by rw [if_pos (by simpa using hkz)]; simpa using hM, hB1, hS, hT, hx⟩
  try simp only [cs8] at c12
  have hkz : k = 0 := by omega
  refine Wp ?_
  first | exact ⟨h0, h2, h7, h8, _, _, by rw [if_neg (by simpa using hkz)]; simpa using hM, hB1, hS, hT, hx⟩ | exact ⟨h0, h2, h7, h8, _, _, by rw [if_pos (by simpa using hkz)]; simpa using hM, hB1, hS, hT, hx⟩
 rintro e w ⟨h0, h2, h7, h8, ad, v, hM, hB1, hS, hT, hx⟩
 obtain ⟨gb, go, gc, hlv, htc⟩ := Sl.exq hS (k := 0) (by rw [hF]; simp)
 subst hlv
 replace htc : Cells w gb (go + 0 * 7) (exV t.top) := by have h1 := htc; simp only [hF] at h1; exact h1
 refine Wb (Wa rfl (Wf h2 (Wa rfl (Wf h0 (Wa rfl (o_nil rfl (Wa rfl (Wl 2 TI72 rfl TI36 rfl rfl (Wa rfl (Wk TI36 rfl rfl (Wh hM.cell rfl) (Wa rfl (Wt (i := 0) TI36 TI40 rfl rfl (by rw [hF]; simp) (Wa rfl (o_ldA TI40 rfl rfl htc rfl (Wa rfl (o_callC rfl hcall (lc rfl ln) ((hE t deep H p b1 _ _ _ (ts.flat ++ C) _ _ hn1 hw.1 hM hB1 hb1p hS hlf hT h1H (by rw [List.length_append] at hqb ⊢; simp only [List.length_append] at hqb ⊢; omega)).mono ?_)))))))))))))))))
 rintro v23 w23 ⟨ad23, v23b, lf2, hM2, hS2, hlf2, ho23⟩
 replace hT := hT.only ho23 (FP.off hHp h1H)
 replace hB1 := FP.blk ho23 hB1 (by decide) hb1p
 replace hx := FP.tr hx ho23
 clear hM hS hlf htc
 have hM := hM2
 have hS := hS2
 have hlf := hlf2
 clear hM2 hS2 hlf2
 refine Wc (Wb (Wa rfl (o_addi h8 rfl (by omega) (Wa rfl (Wf vI (Wc (⟨⟨k + 1, ts, _, _, _, _, by omega, hn2, hw.2, ?_, h0, h2, h7, rfl, hM, hB1, hS, hlf, hT, hx⟩, ?_⟩)))))))
 ·rw [hq, hsr]; simp [shHd]
 show ks.len - ((k : Int) + 1).toNat < _
 rw [hm8]; simp [intOf]; omega
end Go.Proofs.YtpbflfgigfdohaaDoor

namespace Go.Proofs.YtpbflfgigfdohaaDoor
open Go Go.Vc Go.RowKit Go.Proofs
set_option maxHeartbeats 4000000 in
theorem node_step (n : Nat) (IH : SNode n) (y : Ex) (ks : Trs) (above : Int) (deep H p : Nat) (ad v lf : Value) (C : List Ex) (bs : List UInt8) (w0 : World) (hn : ks.flat.length ≤ n) (hw : (Tr.node y ks).wf above deep) (hM : PrM w0 H p ad v lf bs) (hS : Sl w0 7 lf (y :: (ks.flat ++ C)).length (exs (y :: (ks.flat ++ C)))) (hlf : ∀ k, lf.ownBlock = some k → k < H) (hT : Tab w0) (h1H : 0 < H) (hb : bs.length + (Tr.node y ks).sh.length ≤ 140737488355328) : Ca Tryd.prog 17 #[.pointer (some ⟨p, 0, none⟩)] w0 (NPost H p C (bs ++ (Tr.node y ks).sh) w0) := by
 have hHp := hM.hp
 have hx : Only (FP H p w0) w0 w0 := Only.refl _ _
 obtain ⟨hok, hnm, -, -⟩ := rightB_iff hw.2.2.1
 obtain ⟨gb, go, gc, hlv, htc⟩ := Sl.exq hS (k := 0) (by simp)
 subst hlv
 replace htc : Cells w0 gb (go + 0 * 7) (exV y) := htc
 obtain ⟨NN, hNN⟩ : ∃ N, N = (y :: (ks.flat ++ C)).length := ⟨_, rfl⟩
 have hN1 : NN = (ks.flat ++ C).length + 1 := by rw [hNN]; simp
 rw [← hNN] at hS hM hlf
 have hcap : NN ≤ gc := by
  rcases hS.val with ⟨h0, -⟩ | ⟨b, o, c, hv, hnc, -⟩
  ·omega
  cases hv; exact hnc
 refine Ca.of Tryd.func17 Tryd.ntmps17 rfl rfl (We (Wb (Wa rfl (o_boxB rfl ?_))))
 intro w1 hC1 hx1 hs1
 obtain ⟨b1, hb1⟩ : ∃ b, b = w0.heap.size := ⟨_, rfl⟩
 rw [← hb1] at hC1 ⊢
 have hb1p : b1 ≠ p := by have := hM.lt; omega
 replace hC1 : w1.heap[b1]? = some (.cells #[.pointer (some ⟨p, 0, none⟩)] 98 (0, 0)) := hC1
 replace htc := htc.only hx1 (fun h => h)
 replace hS := hS.ext hx1
 replace hT := hT.ext hx1
 replace hM := hM.ext hx1
 replace hx := FP.ext hx hx1
 refine Wc (We (Wb (Wa rfl (Wk TI98 rfl rfl (Wh hC1 rfl) (Wa rfl (o_nil rfl (Wa rfl (Wl 2 TI72 rfl TI36 rfl rfl (Wa rfl (Wk TI36 rfl rfl (Wh hM.cell rfl) (Wa rfl (Wt (i := 0) TI36 TI40 rfl rfl (by omega) (Wa rfl (o_ldA TI40 rfl rfl htc rfl (Wa rfl (o_alB TI40 ?_))))))))))))))))
 intro wa hCa hxa hsa
 refine WL.u (o_stA TI40 rfl (show _ = Value.agg (exV y).toArray from rfl) rfl rfl hCa rfl ?_)
 intro wb hC2 hob hsb
 have hxb := Ext.own hxa (Nat.le_refl _) hob
 obtain ⟨b2, hb2⟩ : ∃ b, b = w1.heap.size := ⟨_, rfl⟩
 rw [← hb2] at hC2 ⊢
 clear hCa hxa hsa hob hsb
 have hb2p : b2 ≠ p := by have := hM.lt; omega
 have hb12 : b1 < b2 := by have := (Array.getElem?_eq_some_iff.1 hC1).1; omega
 replace hS := hS.ext hxb
 replace hT := hT.ext hxb
 replace hM := hM.ext hxb
 replace hx := FP.ext hx hxb
 replace hC1 := hxb.blk hC1 (fun h => h)
 refine Wc (We (W.tail 8 rfl (by kernel_rfl) (WS.c rfl ((SO.o rfl (Wk TI98 rfl rfl (Wh hC1 rfl) ⟨rfl, rfl⟩))) (WS.c rfl ((SO.o rfl (Wk TI98 rfl rfl (Wh hC1 rfl) ⟨rfl, rfl⟩))) (WS.c rfl ((SO.r (r_nil rfl))) (WS.c rfl ((SO.o rfl (Wl 2 TI72 rfl TI36 rfl rfl ⟨rfl, rfl⟩))) (WS.c rfl ((SO.o rfl (Wk TI36 rfl rfl (Wh hM.cell rfl) ⟨rfl, rfl⟩))) (WS.c rfl ((SO.o rfl (o_slv TI36 TI40 rfl (Lo.s (l := 1) rfl) Hi.n (by omega) (by omega) ⟨rfl, rfl⟩))) (WS.c rfl ((SO.r (r_nil rfl))) (WS.c rfl ((SO.o rfl (Wl 2 TI72 rfl TI36 rfl rfl ⟨rfl, rfl⟩))) (WS.nil ?_)))))))))))
 have hxd := Only.drew wb
 obtain ⟨wd, hwd⟩ : ∃ wd, wd = wb.drew := ⟨_, rfl⟩
 rw [← hwd] at hxd ⊢
 replace hS := hS.ext hxd
 replace hT := hT.ext hxd
 replace hM := hM.ext hxd
 replace hx := FP.ext hx hxd
 replace hC1 := hxd.blk hC1 (fun h => h)
 replace hC2 := hxd.blk hC2 (fun h => h)
 have hS2 := hS.sliced 1 NN (by omega) (Nat.le_refl _)
 have hcell := hM.cell
 refine WL.u (o_stB TI36 rfl (show _ = sliced _ _ _ _ _ from rfl) (sliced_one _ _ _ _ _) hcell (show 2 < 3 by decide) ?_)
 intro w hB16 ho16 hs16
 have hlf2 : ∀ k, (sliced (some ⟨gb, go, none⟩) 1 NN gc 7).ownBlock = some k → k < H := fun k hk => hlf k (by rw [← sliced_own (some ⟨gb, go, none⟩) 1 NN gc 7 NN gc]; exact hk)
 have hM2 : PrM w H p ad v (sliced (some ⟨gb, go, none⟩) 1 NN gc 7) bs := ⟨hB16, hM.adr, own_only hM.row ho16 (fun k hk he => by subst he; exact own_off hM.row hcell (by decide) hk), hM.hp⟩
 obtain ⟨lf, hlq⟩ : ∃ l, l = sliced (some ⟨gb, go, none⟩) 1 NN gc 7 := ⟨_, rfl⟩
 rw [← hlq] at hM2 hlf2 hS2
 replace hS2 : Sl w 7 lf (ks.flat ++ C).length (exs (ks.flat ++ C)) := by
  have h1 := hS2.only ho16 (fun k hk he => by have := hlf2 k hk; omega)
  have h2 : ((exs (y :: (ks.flat ++ C))).drop (1 * 7)).take ((NN - 1) * 7) = exs (ks.flat ++ C) := by
   rw [show exs (y :: (ks.flat ++ C)) = exV y ++ exs (ks.flat ++ C) from rfl, List.drop_left' (show (exV y).length = 1 * 7 from rfl), List.take_of_length_le (by rw [exs_len]; omega)]
  rw [h2, show NN - 1 = (ks.flat ++ C).length by omega] at h1
  exact h1
 replace hT := hT.only ho16 (fun he => by omega)
 replace hC1 := ho16.blk hC1 hb1p
 replace hC2 := ho16.blk hC2 hb2p
 replace hx := FP.tr hx (ho16.mono (fun k _ h => .inl h))
 clear hM hS hlf htc hcell
 have hM := hM2
 have hS := hS2
 have hlf := hlf2
 clear hM2 hS2 hlf2 hNN hN1 hlq
 refine Wc (We ?_)
 obtain hk | hk | hk | hk | hk | hk | hk | hk | hk : y.kind = 1 ∨ y.kind = 2 ∨ y.kind = 3 ∨ y.kind = 9 ∨ y.kind = 4 ∨ y.kind = 5 ∨ y.kind = 6 ∨ y.kind = 7 ∨ y.kind = 8 := by rcases okB_cases hok with h | h | h | h | h <;> omega
 ·skip
  have hkz : y.kids = 0 := by rcases okB_cases hok with h | h | h | h | h <;> omega
  obtain rfl := trs_nil (ts := ks) (by have : (ks.len : Int) = y.kids := hw.2.2.2.1; omega)
  have hn8 : y.n = 1 ∨ y.n = 2 ∨ y.n = 4 ∨ y.n = 8 := by rcases okB_cases hok with h | h | h | h | h <;> omega
  have h8 : 8 * y.n = ((8 * y.n).toNat : Int) := by omega
  have hdg := fun w hT => itoa_spec (8 * y.n).toNat (by omega) w hT
  simp only [← h8] at hdg
  have hsh : (Tr.node y .nil).sh = [117] ++ digL (8 * y.n).toNat := by simp [Tr.sh, hk]
  rw [hsh] at hb
  refine Wb (Wa rfl (Wl 0 TI40 rfl TI3 rfl rfl (Wa rfl (Wk TI3 rfl rfl (Wh hC2 rfl) (Wc (W.block (We (Wb (Wa rfl (o_eq rfl rfl (Wa rfl (Wg vB (Wc (W.condT' rfl (by rw [hk]; decide) ?_))))))))))))))
  obtain ⟨wd, hwd⟩ : ∃ wd, wd = w.drew := ⟨_, rfl⟩
  have hxd : Ext w wd := hwd ▸ Only.drew w
  replace hS := hS.ext hxd
  replace hT := hT.ext hxd
  replace hM := hM.ext hxd
  replace hx := FP.ext hx hxd
  replace hC1 := hxd.blk hC1 (fun h => h)
  replace hC2 := hxd.blk hC2 (fun h => h)
  refine W.drawT 6 (Ext) [(1, fun v _ => v = _), (2, fun v _ => v = _)] rfl (by kernel_rfl) (Only.refl No) (fun _ _ _ h k => h.trans k) ⟨Mono.eq, Mono.eq, trivial⟩ ⟨rfl, rfl, trivial⟩ (WD.p rfl (fun e w hR hh => by obtain ⟨h1, -⟩ := hh; rw [← hwd] at hR; exact SG.n (Wk TI98 rfl h1 (Wh (hR.blk hC1 (fun h => h)) rfl) ⟨rfl, Only.refl No _⟩)) (WD.p rfl (fun e w hR hh => by obtain ⟨h2, -⟩ := hh; exact SG.n (Wl 1 TI40 rfl TI3 rfl h2 ⟨rfl, Only.refl No _⟩)) (WD.p rfl (fun e w hR hh => by obtain ⟨h22, -⟩ := hh; rw [← hwd] at hR; exact SG.n (Wk TI3 rfl h22 (Wh (hR.blk hC2 (fun h => h)) rfl) ⟨rfl, Only.refl No _⟩)) (WD.p rfl (fun e w hR hh => by obtain ⟨h23, -⟩ := hh; exact SG.n (o_muli rfl h23 (by omega) ⟨rfl, Only.refl No _⟩)) (WD.p rfl (fun e w hR hh => by obtain ⟨h24, -⟩ := hh; rw [← hwd] at hR; exact SG.n (o_call Tryd.call37 (lc h24 ln) ((hdg _ (hT.ext hR)).mono (fun v w' h => h)))) (WD.q (fun u w => ∃ b, wd.heap.size ≤ b ∧ w.heap[b]? = some (.cells (List.map st [[117], digL (8 * y.n).toNat]).toArray 9 (0, 0)) ∧ u = .slice (some ⟨b, 0, none⟩) 2 2) (fun u w w2 hR hh => by obtain ⟨b, h1, h2, h3⟩ := hh; exact ⟨b, h1, hR.blk h2 (fun h => h), h3⟩) rfl (fun e w hR hh => by obtain ⟨h25, -⟩ := hh; rw [← hwd] at hR; exact SG.n (o_bsn (vs := [st [117], st (digL (8 * y.n).toNat)]) (xs := [(.const (.string (.mk #[117]))), (.tmp 25)]) TI99 TI9 rfl (lc (show _ = Value.string _ from rfl) (lc h25 ln)) rfl rfl (by decide) (by decide) ⟨⟨_, hR.size, heap_alloc_new _ _, rfl⟩, Only.alloc _ _⟩)) ?_))))))
  rintro e w hR ⟨h26, h25, h24, h23, h22, h21, h1, h2, -⟩
  rw [← hwd] at hR
  obtain ⟨b26, hb26, hB26, h26⟩ := h26
  have hbp26 : b26 ≠ p := by have := hM.lt; omega
  replace hS := hS.ext hR
  replace hT := hT.ext hR
  replace hM := hM.ext hR
  replace hx := FP.ext hx hR
  replace hC1 := hR.blk hC1 (fun h => h)
  replace hC2 := hR.blk hC2 (fun h => h)
  refine Wa rfl (o_call Tryd.call16 (lc h21 (lc h26 ln)) ((text_spec H p _ _ lf (bs) b26 [[117], digL (8 * y.n).toNat] _ hM hB26 hbp26 (by simp at hb ⊢; omega) (by simp)).mono ?_))
  rintro v27 w27 ⟨ad27, vv27, hM2, ho27⟩
  replace hS := hS.only ho27 (fun k hk => FP.off hHp (hlf k hk))
  replace hT := hT.only ho27 (FP.off hHp h1H)
  replace hC1 := FP.blk ho27 hC1 (by decide) hb1p
  replace hC2 := FP.blk ho27 hC2 (by decide) hb2p
  replace hx := FP.tr hx ho27
  clear hM
  have hM := hM2
  clear hM2
  refine Wc (ret0 rfl ?_)
  exact ⟨_, _, _, by rw [hsh]; simpa [List.append_assoc] using hM, by simpa [Trs.flat] using hS, hlf, hx⟩
 ·skip
  have hkz : y.kids = 0 := by rcases okB_cases hok with h | h | h | h | h <;> omega
  obtain rfl := trs_nil (ts := ks) (by have : (ks.len : Int) = y.kids := hw.2.2.2.1; omega)
  have hsh : (Tr.node y .nil).sh = [98, 111, 111, 108] := by simp [Tr.sh, hk]
  rw [hsh] at hb
  refine Wb (Wa rfl (Wl 0 TI40 rfl TI3 rfl rfl (Wa rfl (Wk TI3 rfl rfl (Wh hC2 rfl) (Wc (W.block (We (Wb (Wa rfl (o_eq rfl rfl (Wa rfl (Wg vB (Wc (W.condF' rfl (by rw [hk]; decide) (We (Wb (Wa rfl (o_eq rfl rfl (Wa rfl (Wg vB (Wc (W.condT' rfl (by rw [hk]; decide) (Wb (Wa rfl (Wk TI98 rfl rfl (Wh hC1 rfl) (Wa rfl (o_bs1 (v := st ([98, 111, 111, 108])) TI99 TI9 (show _ = st ([98, 111, 111, 108]) from rfl) (by decide) (by decide) rfl ?_)))))))))))))))))))))))))))
  have hB31 : (w.alloc (Obj.cells (st ([98, 111, 111, 108])).cells 9)).heap[w.heap.size]? = some (.cells (List.map st [[98, 111, 111, 108]]).toArray 9 (0, 0)) := heap_alloc_new _ _
  have hxl := Only.alloc w (Obj.cells (st ([98, 111, 111, 108])).cells 9)
  have hbp31 : w.heap.size ≠ p := by have := hM.lt; omega
  generalize w.alloc (Obj.cells (st ([98, 111, 111, 108])).cells 9) = ws31 at hB31 hxl ⊢
  obtain ⟨b31, hb31⟩ : ∃ b, b = w.heap.size := ⟨_, rfl⟩
  rw [← hb31] at hB31 hbp31 ⊢
  replace hS := hS.ext hxl
  replace hT := hT.ext hxl
  replace hM := hM.ext hxl
  replace hx := FP.ext hx hxl
  replace hC1 := hxl.blk hC1 (fun h => h)
  replace hC2 := hxl.blk hC2 (fun h => h)
  clear hxl
  refine Wa rfl (o_call Tryd.call16 (lc rfl (lc rfl ln)) ((text_spec H p _ _ lf (bs) b31 [[98, 111, 111, 108]] _ hM hB31 hbp31 (by simp at hb ⊢; omega) (by simp)).mono ?_))
  rintro v32 w32 ⟨ad32, vv32, hM2, ho32⟩
  replace hS := hS.only ho32 (fun k hk => FP.off hHp (hlf k hk))
  replace hT := hT.only ho32 (FP.off hHp h1H)
  replace hC1 := FP.blk ho32 hC1 (by decide) hb1p
  replace hC2 := FP.blk ho32 hC2 (by decide) hb2p
  replace hx := FP.tr hx ho32
  clear hM
  have hM := hM2
  clear hM2
  refine Wc (ret0 rfl ?_)
  exact ⟨_, _, _, by rw [hsh]; simpa [List.append_assoc] using hM, by simpa [Trs.flat] using hS, hlf, hx⟩
 ·skip
  have hkz : y.kids = 0 := by rcases okB_cases hok with h | h | h | h | h <;> omega
  obtain rfl := trs_nil (ts := ks) (by have : (ks.len : Int) = y.kids := hw.2.2.2.1; omega)
  have hsh : (Tr.node y .nil).sh = [118, 97, 114, 105, 110, 116] := by simp [Tr.sh, hk]
  rw [hsh] at hb
  refine Wb (Wa rfl (Wl 0 TI40 rfl TI3 rfl rfl (Wa rfl (Wk TI3 rfl rfl (Wh hC2 rfl) (Wc (W.block (We (Wb (Wa rfl (o_eq rfl rfl (Wa rfl (Wg vB (Wc (W.condF' rfl (by rw [hk]; decide) (We (Wb (Wa rfl (o_eq rfl rfl (Wa rfl (Wg vB (Wc (W.condF' rfl (by rw [hk]; decide) (We (Wb (Wa rfl (o_eq rfl rfl (Wa rfl (Wg vB (Wc (W.condT' rfl (by rw [hk]; decide) (Wb (Wa rfl (Wk TI98 rfl rfl (Wh hC1 rfl) (Wa rfl (o_bs1 (v := st ([118, 97, 114, 105, 110, 116])) TI99 TI9 (show _ = st ([118, 97, 114, 105, 110, 116]) from rfl) (by decide) (by decide) rfl ?_)))))))))))))))))))))))))))))))))))
  have hB36 : (w.alloc (Obj.cells (st ([118, 97, 114, 105, 110, 116])).cells 9)).heap[w.heap.size]? = some (.cells (List.map st [[118, 97, 114, 105, 110, 116]]).toArray 9 (0, 0)) := heap_alloc_new _ _
  have hxl := Only.alloc w (Obj.cells (st ([118, 97, 114, 105, 110, 116])).cells 9)
  have hbp36 : w.heap.size ≠ p := by have := hM.lt; omega
  generalize w.alloc (Obj.cells (st ([118, 97, 114, 105, 110, 116])).cells 9) = ws36 at hB36 hxl ⊢
  obtain ⟨b36, hb36⟩ : ∃ b, b = w.heap.size := ⟨_, rfl⟩
  rw [← hb36] at hB36 hbp36 ⊢
  replace hS := hS.ext hxl
  replace hT := hT.ext hxl
  replace hM := hM.ext hxl
  replace hx := FP.ext hx hxl
  replace hC1 := hxl.blk hC1 (fun h => h)
  replace hC2 := hxl.blk hC2 (fun h => h)
  clear hxl
  refine Wa rfl (o_call Tryd.call16 (lc rfl (lc rfl ln)) ((text_spec H p _ _ lf (bs) b36 [[118, 97, 114, 105, 110, 116]] _ hM hB36 hbp36 (by simp at hb ⊢; omega) (by simp)).mono ?_))
  rintro v37 w37 ⟨ad37, vv37, hM2, ho37⟩
  replace hS := hS.only ho37 (fun k hk => FP.off hHp (hlf k hk))
  replace hT := hT.only ho37 (FP.off hHp h1H)
  replace hC1 := FP.blk ho37 hC1 (by decide) hb1p
  replace hC2 := FP.blk ho37 hC2 (by decide) hb2p
  replace hx := FP.tr hx ho37
  clear hM
  have hM := hM2
  clear hM2
  refine Wc (ret0 rfl ?_)
  exact ⟨_, _, _, by rw [hsh]; simpa [List.append_assoc] using hM, by simpa [Trs.flat] using hS, hlf, hx⟩
 ·skip
  have hkz : y.kids = 0 := by rcases okB_cases hok with h | h | h | h | h <;> omega
  obtain rfl := trs_nil (ts := ks) (by have : (ks.len : Int) = y.kids := hw.2.2.2.1; omega)
  have hsh : (Tr.node y .nil).sh = y.name := by simp [Tr.sh, hk]
  rw [hsh] at hb
  refine Wb (Wa rfl (Wl 0 TI40 rfl TI3 rfl rfl (Wa rfl (Wk TI3 rfl rfl (Wh hC2 rfl) (Wc (W.block (We (Wb (Wa rfl (o_eq rfl rfl (Wa rfl (Wg vB (Wc (W.condF' rfl (by rw [hk]; decide) (We (Wb (Wa rfl (o_eq rfl rfl (Wa rfl (Wg vB (Wc (W.condF' rfl (by rw [hk]; decide) (We (Wb (Wa rfl (o_eq rfl rfl (Wa rfl (Wg vB (Wc (W.condF' rfl (by rw [hk]; decide) (We (Wb (Wa rfl (o_eq rfl rfl (Wa rfl (Wg vB (Wc (W.condT' rfl (by rw [hk]; decide) (Wb (Wa rfl (Wk TI98 rfl rfl (Wh hC1 rfl) (Wa rfl (Wl 2 TI40 rfl TI9 rfl rfl (Wa rfl (Wk TI9 rfl rfl (Wh hC2 rfl) (Wa rfl (o_bs1 (v := st (y.name)) TI99 TI9 (show _ = st (y.name) from rfl) (by decide) (by decide) rfl ?_)))))))))))))))))))))))))))))))))))))))))))))))
  have hB43 : (w.alloc (Obj.cells (st (y.name)).cells 9)).heap[w.heap.size]? = some (.cells (List.map st [y.name]).toArray 9 (0, 0)) := heap_alloc_new _ _
  have hxl := Only.alloc w (Obj.cells (st (y.name)).cells 9)
  have hbp43 : w.heap.size ≠ p := by have := hM.lt; omega
  generalize w.alloc (Obj.cells (st (y.name)).cells 9) = ws43 at hB43 hxl ⊢
  obtain ⟨b43, hb43⟩ : ∃ b, b = w.heap.size := ⟨_, rfl⟩
  rw [← hb43] at hB43 hbp43 ⊢
  replace hS := hS.ext hxl
  replace hT := hT.ext hxl
  replace hM := hM.ext hxl
  replace hx := FP.ext hx hxl
  replace hC1 := hxl.blk hC1 (fun h => h)
  replace hC2 := hxl.blk hC2 (fun h => h)
  clear hxl
  refine Wa rfl (o_call Tryd.call16 (lc rfl (lc rfl ln)) ((text_spec H p _ _ lf (bs) b43 [y.name] _ hM hB43 hbp43 (by simp at hb ⊢; omega) (by simp)).mono ?_))
  rintro v44 w44 ⟨ad44, vv44, hM2, ho44⟩
  replace hS := hS.only ho44 (fun k hk => FP.off hHp (hlf k hk))
  replace hT := hT.only ho44 (FP.off hHp h1H)
  replace hC1 := FP.blk ho44 hC1 (by decide) hb1p
  replace hC2 := FP.blk ho44 hC2 (by decide) hb2p
  replace hx := FP.tr hx ho44
  clear hM
  have hM := hM2
  clear hM2
  refine Wc (ret0 rfl ?_)
  exact ⟨_, _, _, by rw [hsh]; simpa [List.append_assoc] using hM, by simpa [Trs.flat] using hS, hlf, hx⟩
 ·skip
  have hk1 : y.kids = 1 ∧ 0 ≤ y.n ∧ y.n ≤ 2147483647 := by rcases okB_cases hok with h | h | h | h | h <;> omega
  obtain ⟨t, rfl⟩ := trs_one (ts := ks) (by have : (ks.len : Int) = y.kids := hw.2.2.2.1; omega)
  have hwt : t.wf y.kind (deep + 1) := hw.2.2.2.2.1
  have htl : (Trs.cons t .nil).flat = t.flat := by simp [Trs.flat]
  rw [htl] at hS hn
  have hnn : y.n = (y.n.toNat : Int) := by omega
  have hsh : (Tr.node y (.cons t .nil)).sh = [118, 101, 99, 116, 111, 114, 60] ++ (t.sh ++ ([44] ++ (digL y.n.toNat ++ [62]))) := by simp [Tr.sh, Trs.shK, hk]
  rw [hsh] at hb
  have hmany := fun w ad v hM hS hT => many_spec n IH t y.kind (deep + 1) [118, 101, 99, 116, 111, 114, 60] y.n.toNat H p ad v lf C bs w hn hwt hM hS hlf hT h1H (by omega) hb
  simp only [← hnn] at hmany
  refine Wb (Wa rfl (Wl 0 TI40 rfl TI3 rfl rfl (Wa rfl (Wk TI3 rfl rfl (Wh hC2 rfl) (Wc (W.block (We (Wb (Wa rfl (o_eq rfl rfl (Wa rfl (Wg vB (Wc (W.condF' rfl (by rw [hk]; decide) (We (Wb (Wa rfl (o_eq rfl rfl (Wa rfl (Wg vB (Wc (W.condF' rfl (by rw [hk]; decide) (We (Wb (Wa rfl (o_eq rfl rfl (Wa rfl (Wg vB (Wc (W.condF' rfl (by rw [hk]; decide) (We (Wb (Wa rfl (o_eq rfl rfl (Wa rfl (Wg vB (Wc (W.condF' rfl (by rw [hk]; decide) (We (Wb (Wa rfl (o_eq rfl rfl (Wa rfl (Wg vB (Wc (W.condT' rfl (by rw [hk]; decide) (Wb (Wa rfl (Wk TI98 rfl rfl (Wh hC1 rfl) (Wa rfl (Wl 1 TI40 rfl TI3 rfl rfl (Wa rfl (Wk TI3 rfl rfl (Wh hC2 rfl) (Wa rfl (o_call Tryd.call38 (lc rfl (lc rfl (lc rfl ln))) ((hmany _ _ _ hM hS hT).mono ?_))))))))))))))))))))))))))))))))))))))))))))))))))))))))
  rintro vz wz ⟨adz, vvz, lfz, hMz, hSz, hlfz, hoz⟩
  replace hx := FP.tr hx hoz
  clear hM hS hlf
  have hM := hMz
  have hS := hSz
  have hlf := hlfz
  refine Wc (ret0 rfl ?_)
  exact ⟨_, _, _, by rw [hsh]; simpa [List.append_assoc] using hM, by simpa [Trs.flat] using hS, hlf, hx⟩
 ·skip
  have hk1 : y.kids = 1 ∧ 0 ≤ y.n ∧ y.n ≤ 2147483647 := by rcases okB_cases hok with h | h | h | h | h <;> omega
  obtain ⟨t, rfl⟩ := trs_one (ts := ks) (by have : (ks.len : Int) = y.kids := hw.2.2.2.1; omega)
  have hwt : t.wf y.kind (deep + 1) := hw.2.2.2.2.1
  have htl : (Trs.cons t .nil).flat = t.flat := by simp [Trs.flat]
  rw [htl] at hS hn
  have hnn : y.n = (y.n.toNat : Int) := by omega
  have hsh : (Tr.node y (.cons t .nil)).sh = [108, 105, 115, 116, 60] ++ (t.sh ++ ([44] ++ (digL y.n.toNat ++ [62]))) := by simp [Tr.sh, Trs.shK, hk]
  rw [hsh] at hb
  have hmany := fun w ad v hM hS hT => many_spec n IH t y.kind (deep + 1) [108, 105, 115, 116, 60] y.n.toNat H p ad v lf C bs w hn hwt hM hS hlf hT h1H (by omega) hb
  simp only [← hnn] at hmany
  refine Wb (Wa rfl (Wl 0 TI40 rfl TI3 rfl rfl (Wa rfl (Wk TI3 rfl rfl (Wh hC2 rfl) (Wc (W.block (We (Wb (Wa rfl (o_eq rfl rfl (Wa rfl (Wg vB (Wc (W.condF' rfl (by rw [hk]; decide) (We (Wb (Wa rfl (o_eq rfl rfl (Wa rfl (Wg vB (Wc (W.condF' rfl (by rw [hk]; decide) (We (Wb (Wa rfl (o_eq rfl rfl (Wa rfl (Wg vB (Wc (W.condF' rfl (by rw [hk]; decide) (We (Wb (Wa rfl (o_eq rfl rfl (Wa rfl (Wg vB (Wc (W.condF' rfl (by rw [hk]; decide) (We (Wb (Wa rfl (o_eq rfl rfl (Wa rfl (Wg vB (Wc (W.condF' rfl (by rw [hk]; decide) (We (Wb (Wa rfl (o_eq rfl rfl (Wa rfl (Wg vB (Wc ?_)))))))))))))))))))))))))))))))))))))))))))))))))))))
  refine W.condT' rfl (by rw [hk]; decide) (Wb (Wa rfl (Wk TI98 rfl rfl (Wh hC1 rfl) (Wa rfl (Wl 1 TI40 rfl TI3 rfl rfl (Wa rfl (Wk TI3 rfl rfl (Wh hC2 rfl) (Wa rfl (o_call Tryd.call38 (lc rfl (lc rfl (lc rfl ln))) ((hmany _ _ _ hM hS hT).mono ?_))))))))))
  rintro vz wz ⟨adz, vvz, lfz, hMz, hSz, hlfz, hoz⟩
  replace hx := FP.tr hx hoz
  clear hM hS hlf
  have hM := hMz
  have hS := hSz
  have hlf := hlfz
  refine Wc (ret0 rfl ?_)
  exact ⟨_, _, _, by rw [hsh]; simpa [List.append_assoc] using hM, by simpa [Trs.flat] using hS, hlf, hx⟩
 ·skip
  have hk1 : y.kids = 1 ∧ 0 ≤ y.n ∧ y.n ≤ 2147483647 := by rcases okB_cases hok with h | h | h | h | h <;> omega
  obtain ⟨t, rfl⟩ := trs_one (ts := ks) (by have : (ks.len : Int) = y.kids := hw.2.2.2.1; omega)
  have hwt : t.wf y.kind (deep + 1) := hw.2.2.2.2.1
  have htl : (Trs.cons t .nil).flat = t.flat := by simp [Trs.flat]
  rw [htl] at hS hn
  have hsh : (Tr.node y (.cons t .nil)).sh = [111, 112, 116, 105, 111, 110, 60] ++ (t.sh ++ [62]) := by simp [Tr.sh, Trs.shK, hk]
  rw [hsh] at hb
  refine Wb (Wa rfl (Wl 0 TI40 rfl TI3 rfl rfl (Wa rfl (Wk TI3 rfl rfl (Wh hC2 rfl) (Wc (W.block (We (Wb (Wa rfl (o_eq rfl rfl (Wa rfl (Wg vB (Wc (W.condF' rfl (by rw [hk]; decide) (We (Wb (Wa rfl (o_eq rfl rfl (Wa rfl (Wg vB (Wc (W.condF' rfl (by rw [hk]; decide) (We (Wb (Wa rfl (o_eq rfl rfl (Wa rfl (Wg vB (Wc (W.condF' rfl (by rw [hk]; decide) (We (Wb (Wa rfl (o_eq rfl rfl (Wa rfl (Wg vB (Wc (W.condF' rfl (by rw [hk]; decide) (We (Wb (Wa rfl (o_eq rfl rfl (Wa rfl (Wg vB (Wc (W.condF' rfl (by rw [hk]; decide) (We (Wb (Wa rfl (o_eq rfl rfl (Wa rfl (Wg vB (Wc ?_)))))))))))))))))))))))))))))))))))))))))))))))))))))
  refine W.condF' rfl (by rw [hk]; decide) (We (Wb (Wa rfl (o_eq rfl rfl (Wa rfl (Wg vB (Wc (W.condT' rfl (by rw [hk]; decide) (We (Wb (Wa rfl (Wk TI98 rfl rfl (Wh hC1 rfl) (Wa rfl (o_bs1 (v := st ([111, 112, 116, 105, 111, 110, 60])) TI99 TI9 (show _ = st ([111, 112, 116, 105, 111, 110, 60]) from rfl) (by decide) (by decide) rfl ?_))))))))))))))
  have hB60 : (w.alloc (Obj.cells (st ([111, 112, 116, 105, 111, 110, 60])).cells 9)).heap[w.heap.size]? = some (.cells (List.map st [[111, 112, 116, 105, 111, 110, 60]]).toArray 9 (0, 0)) := heap_alloc_new _ _
  have hxl := Only.alloc w (Obj.cells (st ([111, 112, 116, 105, 111, 110, 60])).cells 9)
  have hbp60 : w.heap.size ≠ p := by have := hM.lt; omega
  generalize w.alloc (Obj.cells (st ([111, 112, 116, 105, 111, 110, 60])).cells 9) = ws60 at hB60 hxl ⊢
  obtain ⟨b60, hb60⟩ : ∃ b, b = w.heap.size := ⟨_, rfl⟩
  rw [← hb60] at hB60 hbp60 ⊢
  replace hS := hS.ext hxl
  replace hT := hT.ext hxl
  replace hM := hM.ext hxl
  replace hx := FP.ext hx hxl
  replace hC1 := hxl.blk hC1 (fun h => h)
  replace hC2 := hxl.blk hC2 (fun h => h)
  clear hxl
  refine Wa rfl (o_call Tryd.call16 (lc rfl (lc rfl ln)) ((text_spec H p _ _ lf (bs) b60 [[111, 112, 116, 105, 111, 110, 60]] _ hM hB60 hbp60 (by simp at hb ⊢; omega) (by simp)).mono ?_))
  rintro v61 w61 ⟨ad61, vv61, hM2, ho61⟩
  replace hS := hS.only ho61 (fun k hk => FP.off hHp (hlf k hk))
  replace hT := hT.only ho61 (FP.off hHp h1H)
  replace hC1 := FP.blk ho61 hC1 (by decide) hb1p
  replace hC2 := FP.blk ho61 hC2 (by decide) hb2p
  replace hx := FP.tr hx ho61
  clear hM
  have hM := hM2
  clear hM2
  refine Wc (We (Wb (Wa rfl (Wk TI98 rfl rfl (Wh hC1 rfl) ?_))))
  have hIH := IH t y.kind (deep + 1) H p _ _ lf C _ _ hn hwt hM hS hlf hT h1H (by simp at hb ⊢; omega)
  refine Wa rfl (o_call Tryd.call17 (lc rfl ln) ((hIH).mono ?_))
  rintro v63 w63 ⟨ad63, vv63, lf2, hM2, hS2, hlf2, ho63⟩
  replace hC1 := FP.blk ho63 hC1 (by decide) hb1p
  replace hx := FP.tr hx ho63
  clear hM hS hlf
  have hM := hM2
  have hS := hS2
  have hlf := hlf2
  clear hM2 hS2 hlf2
  replace hT := hT.only ho63 (FP.off hHp h1H)
  refine Wc (Wb (Wa rfl (Wk TI98 rfl rfl (Wh hC1 rfl) (Wa rfl (o_bs1 (v := st ([62])) TI99 TI9 (show _ = st ([62]) from rfl) (by decide) (by decide) rfl ?_)))))
  have hB65 : (w63.alloc (Obj.cells (st ([62])).cells 9)).heap[w63.heap.size]? = some (.cells (List.map st [[62]]).toArray 9 (0, 0)) := heap_alloc_new _ _
  have hxl := Only.alloc w63 (Obj.cells (st ([62])).cells 9)
  have hbp65 : w63.heap.size ≠ p := by have := hM.lt; omega
  generalize w63.alloc (Obj.cells (st ([62])).cells 9) = ws65 at hB65 hxl ⊢
  obtain ⟨b65, hb65⟩ : ∃ b, b = w63.heap.size := ⟨_, rfl⟩
  rw [← hb65] at hB65 hbp65 ⊢
  replace hS := hS.ext hxl
  replace hT := hT.ext hxl
  replace hM := hM.ext hxl
  replace hx := FP.ext hx hxl
  replace hC1 := hxl.blk hC1 (fun h => h)
  clear hxl
  refine Wa rfl (o_call Tryd.call16 (lc rfl (lc rfl ln)) ((text_spec H p _ _ lf2 _ b65 [[62]] _ hM hB65 hbp65 (by simp at hb ⊢; omega) (by simp)).mono ?_))
  rintro v66 w66 ⟨ad66, vv66, hM2, ho66⟩
  replace hS := hS.only ho66 (fun k hk => FP.off hHp (hlf k hk))
  replace hT := hT.only ho66 (FP.off hHp h1H)
  replace hC1 := FP.blk ho66 hC1 (by decide) hb1p
  replace hx := FP.tr hx ho66
  clear hM
  have hM := hM2
  clear hM2
  refine Wc (ret0 rfl ?_)
  exact ⟨_, _, _, by rw [hsh]; simpa [List.append_assoc] using hM, by simpa [Trs.flat] using hS, hlf, hx⟩
 ·skip
  have hkk : y.kids = (ks.len : Int) := hw.2.2.2.1.symm
  have hwk : ks.wf 7 (deep + 1) := by have h := hw.2.2.2.2; rw [hk] at h; exact h
  have hks64 : ks.len ≤ 64 := by have := (rightB_kids hw.2.2.1 hw.2.1).2; omega
  have hsh : (Tr.node y ks).sh = [117, 110, 105, 111, 110, 123] ++ (ks.shR false true ++ [125]) := by simp [Tr.sh, hk]
  rw [hsh] at hb
  refine Wb (Wa rfl (Wl 0 TI40 rfl TI3 rfl rfl (Wa rfl (Wk TI3 rfl rfl (Wh hC2 rfl) (Wc (W.block (We (Wb (Wa rfl (o_eq rfl rfl (Wa rfl (Wg vB (Wc (W.condF' rfl (by rw [hk]; decide) (We (Wb (Wa rfl (o_eq rfl rfl (Wa rfl (Wg vB (Wc (W.condF' rfl (by rw [hk]; decide) (We (Wb (Wa rfl (o_eq rfl rfl (Wa rfl (Wg vB (Wc (W.condF' rfl (by rw [hk]; decide) (We (Wb (Wa rfl (o_eq rfl rfl (Wa rfl (Wg vB (Wc (W.condF' rfl (by rw [hk]; decide) (We (Wb (Wa rfl (o_eq rfl rfl (Wa rfl (Wg vB (Wc (W.condF' rfl (by rw [hk]; decide) (We (Wb (Wa rfl (o_eq rfl rfl (Wa rfl (Wg vB (Wc ?_)))))))))))))))))))))))))))))))))))))))))))))))))))))
  refine W.condF' rfl (by rw [hk]; decide) (We (Wb (Wa rfl (o_eq rfl rfl (Wa rfl (Wg vB (Wc (W.condF' rfl (by rw [hk]; decide) (We (Wb (Wa rfl (o_eq rfl rfl (Wa rfl (Wg vB (Wc (W.condT' rfl (by rw [hk]; decide) (We (Wb (Wa rfl (Wk TI98 rfl rfl (Wh hC1 rfl) (Wa rfl (o_bs1 (v := st ([117, 110, 105, 111, 110, 123])) TI99 TI9 (show _ = st ([117, 110, 105, 111, 110, 123]) from rfl) (by decide) (by decide) rfl ?_))))))))))))))))))))))
  have hB70 : (w.alloc (Obj.cells (st ([117, 110, 105, 111, 110, 123])).cells 9)).heap[w.heap.size]? = some (.cells (List.map st [[117, 110, 105, 111, 110, 123]]).toArray 9 (0, 0)) := heap_alloc_new _ _
  have hxl := Only.alloc w (Obj.cells (st ([117, 110, 105, 111, 110, 123])).cells 9)
  have hbp70 : w.heap.size ≠ p := by have := hM.lt; omega
  generalize w.alloc (Obj.cells (st ([117, 110, 105, 111, 110, 123])).cells 9) = ws70 at hB70 hxl ⊢
  obtain ⟨b70, hb70⟩ : ∃ b, b = w.heap.size := ⟨_, rfl⟩
  rw [← hb70] at hB70 hbp70 ⊢
  replace hS := hS.ext hxl
  replace hT := hT.ext hxl
  replace hM := hM.ext hxl
  replace hx := FP.ext hx hxl
  replace hC1 := hxl.blk hC1 (fun h => h)
  replace hC2 := hxl.blk hC2 (fun h => h)
  clear hxl
  refine Wa rfl (o_call Tryd.call16 (lc rfl (lc rfl ln)) ((text_spec H p _ _ lf (bs) b70 [[117, 110, 105, 111, 110, 123]] _ hM hB70 hbp70 (by simp at hb ⊢; omega) (by simp)).mono ?_))
  rintro v71 w71 ⟨ad71, vv71, hM2, ho71⟩
  replace hS := hS.only ho71 (fun k hk => FP.off hHp (hlf k hk))
  replace hT := hT.only ho71 (FP.off hHp h1H)
  replace hC1 := FP.blk ho71 hC1 (by decide) hb1p
  replace hC2 := FP.blk ho71 hC2 (by decide) hb2p
  replace hx := FP.tr hx ho71
  clear hM
  have hM := hM2
  clear hM2
  refine Wc (We (Wb (Wa rfl (Wk TI98 rfl rfl (Wh hC1 rfl) (Wa rfl (Wl 5 TI40 rfl TI3 rfl rfl (Wa rfl (Wk TI3 rfl rfl (Wh hC2 rfl) (Wa rfl (o_mkF (lc rfl ln) ?_))))))))))
  have hkids := kids_spec n false _ (each_u n IH) Tryd.call40 ks (deep + 1) b1 H p _ _ lf C _ _ hn hwk hM hC1 hb1p hS hlf hT h1H hks64 (by simp at hb ⊢; omega)
  simp only [← hkk] at hkids
  refine Wa rfl (o_call Tryd.call39 (lc rfl (lc rfl (lc rfl ln))) ((hkids).mono ?_))
  rintro v76 w76 ⟨ad76, vv76, lf2, hM2, hS2, hlf2, ho76⟩
  replace hC1 := FP.blk ho76 hC1 (by decide) hb1p
  replace hx := FP.tr hx ho76
  clear hM hS hlf
  have hM := hM2
  have hS := hS2
  have hlf := hlf2
  clear hM2 hS2 hlf2
  replace hT := hT.only ho76 (FP.off hHp h1H)
  refine Wc (Wb (Wa rfl (Wk TI98 rfl rfl (Wh hC1 rfl) (Wa rfl (o_bs1 (v := st ([125])) TI99 TI9 (show _ = st ([125]) from rfl) (by decide) (by decide) rfl ?_)))))
  have hB78 : (w76.alloc (Obj.cells (st ([125])).cells 9)).heap[w76.heap.size]? = some (.cells (List.map st [[125]]).toArray 9 (0, 0)) := heap_alloc_new _ _
  have hxl := Only.alloc w76 (Obj.cells (st ([125])).cells 9)
  have hbp78 : w76.heap.size ≠ p := by have := hM.lt; omega
  generalize w76.alloc (Obj.cells (st ([125])).cells 9) = ws78 at hB78 hxl ⊢
  obtain ⟨b78, hb78⟩ : ∃ b, b = w76.heap.size := ⟨_, rfl⟩
  rw [← hb78] at hB78 hbp78 ⊢
  replace hS := hS.ext hxl
  replace hT := hT.ext hxl
  replace hM := hM.ext hxl
  replace hx := FP.ext hx hxl
  replace hC1 := hxl.blk hC1 (fun h => h)
  clear hxl
  refine Wa rfl (o_call Tryd.call16 (lc rfl (lc rfl ln)) ((text_spec H p _ _ lf2 _ b78 [[125]] _ hM hB78 hbp78 (by simp at hb ⊢; omega) (by simp)).mono ?_))
  rintro v79 w79 ⟨ad79, vv79, hM2, ho79⟩
  replace hS := hS.only ho79 (fun k hk => FP.off hHp (hlf k hk))
  replace hT := hT.only ho79 (FP.off hHp h1H)
  replace hC1 := FP.blk ho79 hC1 (by decide) hb1p
  replace hx := FP.tr hx ho79
  clear hM
  have hM := hM2
  clear hM2
  refine Wc (ret0 rfl ?_)
  exact ⟨_, _, _, by rw [hsh]; simpa [List.append_assoc] using hM, by simpa [Trs.flat] using hS, hlf, hx⟩
 skip
 have hkk : y.kids = (ks.len : Int) := hw.2.2.2.1.symm
 have hwk : ks.wf 8 (deep + 1) := by have h := hw.2.2.2.2; rw [hk] at h; exact h
 have hks64 : ks.len ≤ 64 := by have := (rightB_kids hw.2.2.1 hw.2.1).2; omega
 have hsh : (Tr.node y ks).sh = [115, 116, 114, 117, 99, 116, 123] ++ (ks.shR true true ++ [125]) := by simp [Tr.sh, hk]
 rw [hsh] at hb
 refine Wb (Wa rfl (Wl 0 TI40 rfl TI3 rfl rfl (Wa rfl (Wk TI3 rfl rfl (Wh hC2 rfl) (Wc (W.block (We (Wb (Wa rfl (o_eq rfl rfl (Wa rfl (Wg vB (Wc (W.condF' rfl (by rw [hk]; decide) (We (Wb (Wa rfl (o_eq rfl rfl (Wa rfl (Wg vB (Wc (W.condF' rfl (by rw [hk]; decide) (We (Wb (Wa rfl (o_eq rfl rfl (Wa rfl (Wg vB (Wc (W.condF' rfl (by rw [hk]; decide) (We (Wb (Wa rfl (o_eq rfl rfl (Wa rfl (Wg vB (Wc (W.condF' rfl (by rw [hk]; decide) (We (Wb (Wa rfl (o_eq rfl rfl (Wa rfl (Wg vB (Wc (W.condF' rfl (by rw [hk]; decide) (We (Wb (Wa rfl (o_eq rfl rfl (Wa rfl (Wg vB (Wc ?_)))))))))))))))))))))))))))))))))))))))))))))))))))))
 refine W.condF' rfl (by rw [hk]; decide) (We (Wb (Wa rfl (o_eq rfl rfl (Wa rfl (Wg vB (Wc (W.condF' rfl (by rw [hk]; decide) (We (Wb (Wa rfl (o_eq rfl rfl (Wa rfl (Wg vB (Wc (W.condF' rfl (by rw [hk]; decide) (We (Wb (Wa rfl (o_eq rfl rfl (Wa rfl (Wg vB (Wc (W.condT' rfl (by rw [hk]; decide) (We (Wb (Wa rfl (Wk TI98 rfl rfl (Wh hC1 rfl) (Wa rfl (o_bs1 (v := st ([115, 116, 114, 117, 99, 116, 123])) TI99 TI9 (show _ = st ([115, 116, 114, 117, 99, 116, 123]) from rfl) (by decide) (by decide) rfl ?_))))))))))))))))))))))))))))))
 have hB83 : (w.alloc (Obj.cells (st ([115, 116, 114, 117, 99, 116, 123])).cells 9)).heap[w.heap.size]? = some (.cells (List.map st [[115, 116, 114, 117, 99, 116, 123]]).toArray 9 (0, 0)) := heap_alloc_new _ _
 have hxl := Only.alloc w (Obj.cells (st ([115, 116, 114, 117, 99, 116, 123])).cells 9)
 have hbp83 : w.heap.size ≠ p := by have := hM.lt; omega
 generalize w.alloc (Obj.cells (st ([115, 116, 114, 117, 99, 116, 123])).cells 9) = ws83 at hB83 hxl ⊢
 obtain ⟨b83, hb83⟩ : ∃ b, b = w.heap.size := ⟨_, rfl⟩
 rw [← hb83] at hB83 hbp83 ⊢
 replace hS := hS.ext hxl
 replace hT := hT.ext hxl
 replace hM := hM.ext hxl
 replace hx := FP.ext hx hxl
 replace hC1 := hxl.blk hC1 (fun h => h)
 replace hC2 := hxl.blk hC2 (fun h => h)
 clear hxl
 refine Wa rfl (o_call Tryd.call16 (lc rfl (lc rfl ln)) ((text_spec H p _ _ lf (bs) b83 [[115, 116, 114, 117, 99, 116, 123]] _ hM hB83 hbp83 (by simp at hb ⊢; omega) (by simp)).mono ?_))
 rintro v84 w84 ⟨ad84, vv84, hM2, ho84⟩
 replace hS := hS.only ho84 (fun k hk => FP.off hHp (hlf k hk))
 replace hT := hT.only ho84 (FP.off hHp h1H)
 replace hC1 := FP.blk ho84 hC1 (by decide) hb1p
 replace hC2 := FP.blk ho84 hC2 (by decide) hb2p
 replace hx := FP.tr hx ho84
 clear hM
 have hM := hM2
 clear hM2
 refine Wc (We (Wb (Wa rfl (Wk TI98 rfl rfl (Wh hC1 rfl) (Wa rfl (Wl 5 TI40 rfl TI3 rfl rfl (Wa rfl (Wk TI3 rfl rfl (Wh hC2 rfl) (Wa rfl (o_mkF (lc rfl ln) ?_))))))))))
 have hkids := kids_spec n true _ (each_s n IH) Tryd.call41 ks (deep + 1) b1 H p _ _ lf C _ _ hn hwk hM hC1 hb1p hS hlf hT h1H hks64 (by simp at hb ⊢; omega)
 simp only [← hkk] at hkids
 refine Wa rfl (o_call Tryd.call39 (lc rfl (lc rfl (lc rfl ln))) ((hkids).mono ?_))
 rintro v89 w89 ⟨ad89, vv89, lf2, hM2, hS2, hlf2, ho89⟩
 replace hC1 := FP.blk ho89 hC1 (by decide) hb1p
 replace hx := FP.tr hx ho89
 clear hM hS hlf
 have hM := hM2
 have hS := hS2
 have hlf := hlf2
 clear hM2 hS2 hlf2
 replace hT := hT.only ho89 (FP.off hHp h1H)
 refine Wc (Wb (Wa rfl (Wk TI98 rfl rfl (Wh hC1 rfl) (Wa rfl (o_bs1 (v := st ([125])) TI99 TI9 (show _ = st ([125]) from rfl) (by decide) (by decide) rfl ?_)))))
 have hB91 : (w89.alloc (Obj.cells (st ([125])).cells 9)).heap[w89.heap.size]? = some (.cells (List.map st [[125]]).toArray 9 (0, 0)) := heap_alloc_new _ _
 have hxl := Only.alloc w89 (Obj.cells (st ([125])).cells 9)
 have hbp91 : w89.heap.size ≠ p := by have := hM.lt; omega
 generalize w89.alloc (Obj.cells (st ([125])).cells 9) = ws91 at hB91 hxl ⊢
 obtain ⟨b91, hb91⟩ : ∃ b, b = w89.heap.size := ⟨_, rfl⟩
 rw [← hb91] at hB91 hbp91 ⊢
 replace hS := hS.ext hxl
 replace hT := hT.ext hxl
 replace hM := hM.ext hxl
 replace hx := FP.ext hx hxl
 replace hC1 := hxl.blk hC1 (fun h => h)
 clear hxl
 refine Wa rfl (o_call Tryd.call16 (lc rfl (lc rfl ln)) ((text_spec H p _ _ lf2 _ b91 [[125]] _ hM hB91 hbp91 (by simp at hb ⊢; omega) (by simp)).mono ?_))
 rintro v92 w92 ⟨ad92, vv92, hM2, ho92⟩
 replace hS := hS.only ho92 (fun k hk => FP.off hHp (hlf k hk))
 replace hT := hT.only ho92 (FP.off hHp h1H)
 replace hC1 := FP.blk ho92 hC1 (by decide) hb1p
 replace hx := FP.tr hx ho92
 clear hM
 have hM := hM2
 clear hM2
 refine Wc (ret0 rfl ?_)
 exact ⟨_, _, _, by rw [hsh]; simpa [List.append_assoc] using hM, by simpa [Trs.flat] using hS, hlf, hx⟩

theorem node_all : ∀ n, SNode n := by
 intro n
 induction n with
 | zero =>
  intro t above deep H p ad v lf C bs w0 hn
  cases t with
  | node y ks => simp [Tr.flat] at hn
 | succ n ih =>
  intro t above deep H p ad v lf C bs w0 hn hw hM hS hlf hT h1 hb
  cases t with
  | node y ks => exact node_step n ih y ks above deep H p ad v lf C bs w0 (by simpa [Tr.flat] using hn) hw hM hS hlf hT h1 hb

end Go.Proofs.YtpbflfgigfdohaaDoor

namespace Go.Proofs.YtpbflfgigfdohaaDoor
open Go Go.Vc Go.RowKit Go.Proofs

mutual
theorem sh_len : ∀ (t : Tr) (a : Int) (deep : Nat), t.wf a deep → t.sh.length + 40 ≤ 80 * t.flat.length
 | .node y ks, a, deep, h => by
  obtain ⟨-, -, hr, hl, hks⟩ := h
  obtain ⟨hok, hnm, -, -⟩ := rightB_iff hr
  simp only [Tr.flat, List.length_cons]
  have hn10 : y.n.toNat ≤ 2147483647 ∧ (8 * y.n).toNat ≤ 99999999999 := by rcases okB_cases hok with h | h | h | h | h <;> omega
  have hd1 := digL_len 10 y.n.toNat (by omega) (by decide)
  have hd2 := digL_len 11 (8 * y.n).toNat (by omega) (by decide)
  simp only [Tr.sh]
  split
  ·simp; omega
  split
  ·simp; omega
  split
  ·simp; omega
  split
  ·rename_i h9
   have h1 : nameB y.name = true := by unfold namB at hnm; rw [if_pos h9] at hnm; exact hnm
   unfold nameB at h1; simp only [Bool.and_eq_true, decide_eq_true_eq] at h1
   omega
  split
  ·have := shK_len ks _ _ hks
   have h7 : (if y.kind = 4 then [118, 101, 99, 116, 111, 114, 60] else [108, 105, 115, 116, 60] : List UInt8).length ≤ 7 := by split <;> simp
   simp only [List.length_append, List.length_cons, List.length_nil] at this ⊢
   omega
  split
  ·have := shK_len ks _ _ hks
   simp only [List.length_append, List.length_cons, List.length_nil] at this ⊢
   omega
  have h78 : y.kind = 8 ∨ y.kind = 7 := by rcases okB_cases hok with h | h | h | h | h <;> omega
  have := shR_len ks (decide (y.kind = 8)) true (deep + 1) (by rcases h78 with e | e <;> simpa [e] using hks)
  have h7 : (if y.kind = 8 then [115, 116, 114, 117, 99, 116, 123] else [117, 110, 105, 111, 110, 123] : List UInt8).length ≤ 8 := by split <;> simp
  simp only [List.length_append, List.length_cons, List.length_nil] at this ⊢
  omega
theorem shK_len : ∀ (ts : Trs) (a : Int) (deep : Nat), ts.wf a deep → ts.shK.length ≤ 80 * ts.flat.length
 | .nil, _, _, _ => by simp [Trs.shK, Trs.flat]
 | .cons t ts, a, deep, h => by
  have h1 := sh_len t _ _ h.1
  have h2 := shK_len ts _ _ h.2
  simp only [Trs.shK, Trs.flat, List.length_append]
  omega
theorem shR_len : ∀ (ts : Trs) (s first : Bool) (deep : Nat), ts.wf (if s then 8 else 7) deep → (ts.shR s first).length ≤ 80 * ts.flat.length
 | .nil, _, _, _, _ => by simp [Trs.shR, Trs.flat]
 | .cons t ts, s, first, deep, h => by
  have h1 := sh_len t _ _ h.1
  have h2 := shR_len ts s false _ h.2
  obtain ⟨-, -, g1, g2⟩ := rightB_iff (wf_top h.1)
  have h3 : (if s then t.top.label else digL t.top.tag.toNat).length ≤ 32 := by
   cases s
   ·have h5 : t.top.tag.toNat ≤ 2147483647 := by
     unfold tagB at g2
     simp only [Bool.or_eq_true, Bool.and_eq_true, decide_eq_true_eq] at g2
     omega
    have := digL_len 10 t.top.tag.toNat (by omega) (by decide)
    simp only [Bool.false_eq_true, if_false]; omega
   have h6 : nameB t.top.label = true := by unfold labB at g1; simpa using g1
   unfold nameB at h6; simp only [Bool.and_eq_true, decide_eq_true_eq] at h6
   simp only [if_true]; omega
  have h4 : (if first then [] else [44] : List UInt8).length ≤ 1 := by split <;> simp
  simp only [Trs.shR, Trs.flat, List.length_append, List.length_cons, List.length_nil]
  omega
end
def shDef (p : DefT) : List UInt8 := [116, 121, 112, 101, 32] ++ (p.1 ++ ([61] ++ (p.2.sh ++ [59])))
def shDefs : List DefT → List UInt8
 | [] => []
 | p :: l => shDef p ++ shDefs l
theorem Sl.only2 {w w' : World} {F : Nat → Prop} {s n : Nat} {v : Value} {xs : List Value} (h : Sl w s v n xs) (ho : Only F w w') (hn : ∀ k, k < w.heap.size → ¬ F k) : Sl w' s v n xs := by
 refine ⟨h.len, ?_⟩
 rcases h.val with h1 | ⟨b, o, c, h1, h2, hc⟩
 ·exact .inl h1
 refine .inr ⟨b, o, c, h1, h2, fun i u hu => ?_⟩
 have hi := hc i u hu
 have hb : b < w.heap.size := by
  unfold World.cell? at hi
  rcases Nat.lt_or_ge b w.heap.size with hl | hl
  ·exact hl
  simp [Array.getElem?_eq_none hl] at hi
 have := ho.block b hb (hn b hb)
 unfold World.cell? at hi ⊢
 simp only at hi ⊢
 rw [this]; exact hi
theorem Sl.blk_lt {w : World} {s n : Nat} {v : Value} {xs : List Value} (h : Sl w s v n xs) (h0 : xs ≠ []) (hn : 0 < n) : ∀ k, v.ownBlock = some k → k < w.heap.size := fun k hk => by
 rcases h.val with ⟨h1, -⟩ | ⟨b, o, c, rfl, h2, hc⟩
 ·omega
 obtain ⟨u, us, rfl⟩ : ∃ u us, xs = u :: us := by cases xs with | nil => exact absurd rfl h0 | cons u us => exact ⟨u, us, rfl⟩
 have hi := hc 0 u rfl
 have hb : b < w.heap.size := by
  unfold World.cell? at hi
  rcases Nat.lt_or_ge b w.heap.size with hl | hl
  ·exact hl
  simp [Array.getElem?_eq_none hl] at hi
 have : b = k := by simpa [Value.ownBlock] using hk
 omega
theorem DefR.only2 {w w' : World} {D : List Df} {dv : Value} {V : Nat → Value} {F : Nat → Prop} (h : DefR w D dv V) (ho : Only F w w') (hn : ∀ k, k < w.heap.size → ¬ F k) : DefR w' D dv V :=
 ⟨Sl.only2 h.row ho hn, fun j hj => Sl.only2 (h.tys j hj) ho hn⟩

set_option maxHeartbeats 4000000 in
theorem print_spec (D : List Df) (dv : Value) (V : Nat → Value) (w0 : World) (hD : DefR w0 D dv V) (hlim : DLim D) (hT : Tab w0) (h1 : 0 < w0.heap.size) (hck : (chkS D).2.2 = 0) (l : List DefT) (hws : ∀ q ∈ l, DefW q) (hmap : D.map (fun d => (d.name, d.ty)) = l.map (fun q => (q.1, q.2.flat))) (hbl : (shDefs l).length ≤ 140737488355328) : Ca Tryd.prog 8 #[.agg #[dv]] w0 (fun u w' => u = (if 65536 < (shDefs l).length then .tuple #[st [], .int .i64 4] else .tuple #[st (shDefs l), .int .i64 0]) ∧ Ext w0 w') := by
 have h256 := (chkS_trees hck).1
 refine Ca.of Tryd.func8 Tryd.ntmps8 rfl rfl (We (Wb (Wa rfl (o_boxB rfl ?_))))
 intro w1 hC1 hx hs1
 replace hC1 : w1.heap[w0.heap.size]? = some (.cells #[dv] 24 (0, 0)) := hC1
 obtain ⟨c1, hc1⟩ : ∃ c, c = w0.heap.size := ⟨_, rfl⟩
 rw [← hc1] at hC1 ⊢
 refine Wa rfl (Wg (show _ = Value.string _ from rfl) (Wa rfl (Wg vI (Wc (We (We (Wb (Wa rfl (o_ldA TI24 rfl rfl (show Cells _ c1 0 [dv] from Cells.of hC1 0 _ (by simp)) rfl (Wa rfl (o_call Tryd.call12 (lc rfl ln) ((check_spec D dv V _ (hD.ext hx) hlim).mono ?_))))))))))))
 rintro v12 w12 ⟨rfl, hx12⟩
 rw [show rs3 (chkS D) = .tuple #[.int .i64 ((chkS D).1 : Int), .int .i64 ((chkS D).2.1 : Int), .int .i64 ((chkS D).2.2 : Int)] from rfl]
 replace hx := hx.tr hx12
 replace hC1 := hx12.blk hC1 (fun h => h)
 refine Wa rfl (Wf (by first | exact (show _ = Value.tuple _ from rfl) | exact rfl) (Wa rfl (o_ext rfl rfl (Wa rfl (o_ext rfl rfl (Wa rfl (o_ext rfl rfl (Wa rfl (Wg vI (Wa rfl (Wg vI (Wa rfl (Wg vI (Wc (We (Wb (Wa rfl (Wf vI (Wa rfl (o_ne rfl rfl (Wc (W.condF' rfl (by simp; omega) (Wp (We (Wb (Wa rfl (o_alB TI72 ?_)))))))))))))))))))))))))))
 intro w7 hC7 hx7a hs7
 obtain ⟨H, hH⟩ : ∃ H, H = w12.heap.size := ⟨_, rfl⟩
 rw [← hH] at hC7 ⊢
 have h1H : 0 < H := by have := hx.size; omega
 have hM : PrM w7 H H (.pointer none) (.slice none 0 0) (.slice none 0 0) [] := ⟨hC7, .inl rfl, World.ownsRow_nil _ _ _ _, Nat.le_refl _⟩
 have hVlt : ∀ i (hi : i < D.length), 0 < (D[i].ty).length → ∀ k, (V i).ownBlock = some k → k < H := fun i hi hl k hk => by
  have h2 := (hD.ext hx).tys i hi
  rw [tyD_at hi] at h2
  rw [hH]; exact Sl.blk_lt h2 (fun h => by have := congrArg List.length h; rw [exs_len] at this; simp at this; omega) hl k hk
 replace hT := (hT.ext hx).ext hx7a
 replace hx := hx.tr hx7a
 replace hC1 := hx7a.blk hC1 (fun h => h)
 have hD7 := hD.ext hx
 have h0H : w0.heap.size ≤ H := by rw [hH]; have := hx12.size; omega
 have hs7H : H < w7.heap.size := by omega
 clear hC7
 refine Wc (We (We (Wb (Wa rfl (Wl 0 TI24 rfl TI22 rfl rfl (Wa rfl (Wk TI22 rfl rfl (Wh hC1 rfl) (Wa rfl (Ws TI22 rfl hD7.row (Wa rfl (Wf vI (Wc (W.block (W.loop (fun e w => ∃ (i : Nat) (rest : List DefT) (ad v lf : Value) (b : List UInt8), i ≤ D.length ∧ shDefs l = b ++ shDefs rest ∧ (D.drop i).map (fun d => (d.name, d.ty)) = rest.map (fun q => (q.1, q.2.flat)) ∧ (∀ q ∈ rest, DefW q) ∧ (b = [] → v = .slice none 0 0 ∧ rest = l) ∧ e 7 = .pointer (some ⟨H, 0, none⟩) ∧ e 20 = dv ∧ e 21 = .int .i64 (D.length : Int) ∧ e 22 = .int .i64 (i : Int) ∧ PrM w H H ad v lf b ∧ Tab w ∧ Only (FP H H w7) w7 w ∧ Ext w0 w7) (fun e w => D.length - (intOf (e 22)).toNat) ?_ ?_))))))))))))))
 ·exact ⟨0, l, _, _, _, [], Nat.zero_le _, rfl, hmap, hws, fun _ => ⟨rfl, rfl⟩, rfl, rfl, rfl, rfl, hM, hT, Only.refl _ _, hx⟩
 rintro e w ⟨i, rest, ad, v, lf, b, hi, hq, hmp, hwr, hnil, h7, h20, h21, h22, hM, hT, hx7, hx⟩
 have hm22 := h22
 have hqb := congrArg List.length hq
 rw [List.length_append] at hqb
 refine We (Wb (Wa rfl (o_lt h22 h21 (Wc (We (Wn rfl (fun c23 => ?_) (fun c23 => ?_)))))))
 ·try simp only [cs8] at c23
  have hil : i < D.length := by omega
  have hOw : Only (fun k => H ≤ k) w0 w := hx.trans' hx7 (fun _ h => h.elim) (fun k _ hF => by rcases hF with hF | ⟨h2, -⟩ <;> omega)
  have hDw := hD.only2 hOw (fun k hk h => by omega)
  obtain ⟨tb, to_, tc, hdv, htc⟩ := hDw.at hil
  have htd : tyD D i = D[i].ty := tyD_at hil
  have hty := hDw.tys i hil
  rw [htd] at hty
  rw [show D.getD i df0 = D[i] by simp [List.getD_eq_getElem?_getD, hil]] at htc
  have hdr : D.drop i = D[i] :: D.drop (i + 1) := (List.getElem_cons_drop hil).symm
  rw [hdr, List.map_cons] at hmp
  obtain ⟨⟨nm, t⟩, rest, rfl⟩ : ∃ q r2, rest = q :: r2 := by
   cases rest with
   | nil => simp at hmp
   | cons q r2 => exact ⟨q, r2, rfl⟩
  rw [List.map_cons, List.cons.injEq, Prod.mk.injEq] at hmp
  obtain ⟨⟨hn1, hn2⟩, hmp⟩ := hmp
  replace hn1 : D[i].name = nm := hn1
  replace hn2 : D[i].ty = t.flat := hn2
  obtain ⟨hnb, htw⟩ := hwr _ (List.mem_cons_self ..)
  replace htw : t.wf 0 0 := htw
  have htp : 0 < t.flat.length := by obtain ⟨F, hF⟩ := fm_top (t := t); rw [hF]; simp
  have hvl := hVlt i hil (by rw [hn2]; exact htp)
  rw [hn2] at hty
  simp only [shDefs, shDef, List.length_append, List.length_cons, List.length_nil] at hqb
  rw [hdv] at h20
  refine Wp (We (W.block (We (Wb (Wa rfl (Wt TI22 TI38 h20 h22 (by omega) (Wa rfl (o_ldA TI38 rfl rfl htc rfl (Wa rfl (o_alB TI38 ?_))))))))))
  intro wa hCa hxa hsa
  refine WL.u (o_stA TI38 rfl (show _ = Value.agg (dcell D[i] (V i)).toArray from rfl) rfl (by simp only [dcell, List.toArray, Array.toList, List.all_cons, List.all_nil, sl_one1 hty]; rfl) hCa rfl ?_)
  intro wb hB9 hob hsb
  have hxb := Ext.own hxa (Nat.le_refl _) hob
  obtain ⟨b9, hb9⟩ : ∃ b, b = w.heap.size := ⟨_, rfl⟩
  rw [← hb9] at hB9 ⊢
  have hb9p : b9 ≠ H := by have := hM.lt; omega
  clear hCa hxa hsa hob hsb
  replace hT := hT.ext hxb
  replace hM := hM.ext hxb
  replace hx7 := FP.ext hx7 hxb
  replace hB9 : wb.heap[b9]? = some (.cells #[st D[i].name, .int .i64 D[i].at_, V i] 38 (0, 0)) := hB9
  rw [hn1] at hB9
  replace hty : Sl wb 7 (V i) t.flat.length (exs t.flat) := hty.ext hxb
  refine Wc (We (Wb (Wa rfl (Wl 0 TI38 rfl TI9 rfl rfl (Wa rfl (Wk TI9 rfl rfl (Wh hB9 rfl) (Wa rfl (o_bsn (vs := [st ([116, 121, 112, 101, 32]), st (nm), st ([61])]) (xs := [(.const (.string (.mk #[116, 121, 112, 101, 32]))), (.tmp 27), (.const (.string (.mk #[61])))]) TI99 TI9 rfl (lc (show _ = Value.string _ from rfl) (lc (show _ = Value.string _ from rfl) (lc (show _ = Value.string _ from rfl) ln))) rfl rfl (by decide) (by decide) ?_))))))))
  have hB28 : (wb.alloc (Obj.cells [st ([116, 121, 112, 101, 32]), st (nm), st ([61])].toArray 9)).heap[wb.heap.size]? = some (.cells (List.map st [[116, 121, 112, 101, 32], nm, [61]]).toArray 9 (0, 0)) := heap_alloc_new _ _
  have hxl := Only.alloc wb (Obj.cells [st ([116, 121, 112, 101, 32]), st (nm), st ([61])].toArray 9)
  have hbp28 : wb.heap.size ≠ H := by have := hM.lt; omega
  generalize wb.alloc (Obj.cells [st ([116, 121, 112, 101, 32]), st (nm), st ([61])].toArray 9) = ws28 at hB28 hxl ⊢
  obtain ⟨b28, hb28⟩ : ∃ b, b = wb.heap.size := ⟨_, rfl⟩
  rw [← hb28] at hB28 hbp28 ⊢
  replace hT := hT.ext hxl
  replace hM := hM.ext hxl
  replace hx7 := FP.ext hx7 hxl
  replace hB9 := hxl.blk hB9 (fun h => h)
  replace hty := hty.ext hxl
  clear hxl
  refine Wa rfl (o_call Tryd.call16 (lc h7 (lc rfl ln)) ((text_spec H H _ _ _ _ b28 [[116, 121, 112, 101, 32], nm, [61]] _ hM hB28 hbp28 (by simp; omega) (by simp)).mono ?_))
  rintro v29 w29 ⟨ad29, vv29, hM2, ho29⟩
  replace hT := hT.only ho29 (FP.off (Nat.le_refl _) h1H)
  replace hB9 := FP.blk ho29 hB9 (by decide) hb9p
  replace hx7 := FP.tr hx7 ho29
  clear hM
  have hM := hM2
  clear hM2
  refine Wc (We ?_)
  have hcell := hM.cell
  have hS1 : Sl w29 7 (V i) (t.flat ++ []).length (exs (t.flat ++ [])) := by rw [List.append_nil]; exact hty.only ho29 (fun k hk => FP.off (Nat.le_refl _) (hvl k hk))
  refine Wb (Wa rfl (Wl 2 TI38 rfl TI36 rfl rfl (Wa rfl (Wk TI36 rfl rfl (Wh hB9 rfl) (Wa rfl (Wl 2 TI72 rfl TI36 rfl h7 (WL.u (o_stB TI36 rfl (show _ = V i from rfl) (sl_one1 hty) hcell (show 2 < 3 by decide) ?_))))))))
  intro w32 hB32 ho32 hs32
  have hM2 : PrM w32 H H ad29 vv29 (V i) _ := ⟨hB32, hM.adr, own_only hM.row ho32 (fun k hk he => by subst he; exact own_off hM.row hcell (by decide) hk), hM.hp⟩
  replace hS1 := hS1.only ho32 (fun k hk he => by have := hvl k hk; omega)
  replace hT := hT.only ho32 (fun he => by omega)
  replace hB9 := ho32.blk hB9 hb9p
  replace hx7 := FP.tr hx7 (ho32.mono (fun k _ h => .inl h))
  clear hM hcell
  have hM := hM2
  clear hM2
  refine Wc (We (Wb ?_))
  have hnd := node_all t.flat.length t 0 0 H H _ _ _ [] _ _ (Nat.le_refl _) htw hM hS1 hvl hT h1H (by simp; omega)
  refine Wa rfl (o_call Tryd.call17 (lc h7 ln) ((hnd).mono ?_))
  rintro v33 w33 ⟨ad33, vv33, lf33, hM2, hS2, hlf2, ho33⟩
  replace hT := hT.only ho33 (FP.off (Nat.le_refl _) h1H)
  replace hB9 := FP.blk ho33 hB9 (by decide) hb9p
  replace hx7 := FP.tr hx7 ho33
  clear hM
  have hM := hM2
  clear hM2
  refine Wc (Wb (Wa rfl (o_bs1 (v := st ([59])) TI99 TI9 (show _ = st ([59]) from rfl) (by decide) (by decide) rfl ?_)))
  have hB34 : (w33.alloc (Obj.cells (st ([59])).cells 9)).heap[w33.heap.size]? = some (.cells (List.map st [[59]]).toArray 9 (0, 0)) := heap_alloc_new _ _
  have hxl := Only.alloc w33 (Obj.cells (st ([59])).cells 9)
  have hbp34 : w33.heap.size ≠ H := by have := hM.lt; omega
  generalize w33.alloc (Obj.cells (st ([59])).cells 9) = ws34 at hB34 hxl ⊢
  obtain ⟨b34, hb34⟩ : ∃ b, b = w33.heap.size := ⟨_, rfl⟩
  rw [← hb34] at hB34 hbp34 ⊢
  replace hT := hT.ext hxl
  replace hM := hM.ext hxl
  replace hx7 := FP.ext hx7 hxl
  replace hB9 := hxl.blk hB9 (fun h => h)
  clear hxl
  refine Wa rfl (o_call Tryd.call16 (lc h7 (lc rfl ln)) ((text_spec H H _ _ _ _ b34 [[59]] _ hM hB34 hbp34 (by simp; omega) (by simp)).mono ?_))
  rintro v35 w35 ⟨ad35, vv35, hM2, ho35⟩
  replace hT := hT.only ho35 (FP.off (Nat.le_refl _) h1H)
  replace hB9 := FP.blk ho35 hB9 (by decide) hb9p
  replace hx7 := FP.tr hx7 ho35
  clear hM
  have hM := hM2
  clear hM2
  refine Wc (Wb (Wa rfl (o_addi h22 rfl (by omega) (Wa rfl (Wf vI (Wc (⟨⟨i + 1, rest, _, _, _, _, by omega, ?_, hmp, fun q hq => hwr q (List.mem_cons_of_mem _ hq), fun h => ?_, h7, h20.trans hdv.symm, h21, rfl, hM, hT, hx7, hx⟩, ?_⟩)))))))
  ·rw [hq]; simp [shDefs, shDef]
  ·simp at h
  show D.length - ((i : Int) + 1).toNat < _
  rw [hm22]; simp [intOf]; omega
 try simp only [cs8] at c23
 have hil : i = D.length := by omega
 rw [hil, List.drop_length] at hmp
 have hr0 : rest = [] := by cases rest with
  | nil => rfl
  | cons q r => simp at hmp
 subst hr0
 have hbq : b = shDefs l := by rw [hq]; simp [shDefs]
 refine W.exit (We (We (Wb (Wa rfl (Wl 0 TI72 rfl TI70 rfl h7 (Wa rfl (o_call Tryd.call18 (lc rfl ln) ((blen_spec H H ad v lf b _ hM).mono ?_))))))))
 rintro v38 w38 ⟨rfl, rfl⟩
 refine Wa rfl (o_gt rfl rfl (Wc (Wn rfl (fun c39 => ?_) (fun c39 => ?_))))
 ·try simp only [cs8] at c39
  have hO : Ext w0 _ := hx.trans' hx7 (fun _ h => h) (fun k hk hF => by rcases hF with hF | ⟨h2, -⟩ <;> omega)
  refine We (Wb (Wa rfl (Wg (show _ = Value.string _ from rfl) (Wa rfl (Wg vI (Wc (Wm (ret2v rfl (show _ = Value.string _ from rfl) vI ?_))))))))
  rw [if_pos (by rw [← hbq]; omega)]
  exact ⟨rfl, hO⟩
 try simp only [cs8] at c39
 refine Wp (We ?_)
 by_cases hb0 : b = []
 ·skip
  obtain ⟨hv0, hr0⟩ := hnil hb0
  subst hb0 hv0
  refine Wb (Wa rfl (Wl 0 TI72 rfl TI70 rfl h7 (Wa rfl (o_call Tryd.call19 (lc rfl ln) ((bstr_nil H H ad lf _ hM).mono ?_)))))
  rintro v41 w41 ⟨rfl, ho41⟩
  have hO : Ext w0 w41 := (hx.trans' hx7 (fun _ h => h) (fun k hk hF => by rcases hF with hF | ⟨h2, -⟩ <;> omega)).trans' ho41 (fun _ h => h) (fun k hk h => by omega)
  refine Wa rfl (Wg (show _ = Value.string _ from rfl) (Wa rfl (Wg vI (Wc (Wm (ret2v rfl (show _ = Value.string _ from rfl) vI ?_))))))
  rw [if_neg (by rw [← hbq]; first | omega | simp), ← hbq]
  exact ⟨rfl, hO⟩
 skip
 skip
 refine Wb (Wa rfl (Wl 0 TI72 rfl TI70 rfl h7 (Wa rfl (o_call Tryd.call19 (lc rfl ln) ((bstr_full H H ad v lf b _ hM hb0).mono ?_)))))
 rintro v41 w41 ⟨rfl, ho41⟩
 have hO : Ext w0 w41 := (hx.trans' hx7 (fun _ h => h) (fun k hk hF => by rcases hF with hF | ⟨h2, -⟩ <;> omega)).trans' ho41 (fun _ h => h) (fun k hk h => by omega)
 refine Wa rfl (Wg (show _ = Value.string _ from rfl) (Wa rfl (Wg vI (Wc (Wm (ret2v rfl (show _ = Value.string _ from rfl) vI ?_))))))
 rw [if_neg (by rw [← hbq]; first | omega | simp), ← hbq]
 exact ⟨rfl, hO⟩
end Go.Proofs.YtpbflfgigfdohaaDoor

namespace Go.Proofs.YtpbflfgigfdohaaDoor
open Go Go.Vc Go.RowKit Go.Proofs

theorem cell_lt {w : World} {b o : Nat} {v : Value} (hi : w.cell? ⟨b, o, none⟩ = some v) : b < w.heap.size := by
 unfold World.cell? at hi
 rcases Nat.lt_or_ge b w.heap.size with hl | hl
 ·exact hl
 simp [Array.getElem?_eq_none hl] at hi

end Go.Proofs.YtpbflfgigfdohaaDoor

namespace Go.Proofs.YtpbflfgigfdohaaDoor
open Go Go.Vc Go.RowKit Go.Proofs

mutual
theorem sh_tr : ∀ (t : Tr) (above : Int) (deep : Nat) (bs : List UInt8) (us : List Tk), t.wf above deep → Cut2 bs us true → ∃ vs, Cut2 (bs ++ t.sh) (us ++ vs) false ∧ vs.map tkey = t.keys
 | .node y ks, above, deep, bs, us, hw, hc => by
  obtain ⟨hd, hm, hr, hl, hks⟩ := hw
  obtain ⟨hok, hnm, -, -⟩ := rightB_iff hr
  rcases okB_cases hok with ⟨k1, hn, k0⟩ | ⟨k1, hn, k0⟩ | ⟨k1, hn, hn2, k0⟩ | ⟨k1, hn, k0⟩ | ⟨k1, hn, k0⟩
  ·have hnil := trs_nil (ts := ks) (by omega)
   subst hnil
   have hw8 : [117] ++ digL (8 * y.n).toNat = uWord y.n := by
    rcases hn with e | e | e | e <;> rw [e]
    ·show _ ++ digL 8 = _; rw [digL_lt (by decide)]; rfl
    ·show _ ++ digL 16 = _; rw [digL_ge (by decide), digL_lt (by decide)]; rfl
    ·show _ ++ digL 32 = _; rw [digL_ge (by decide), digL_lt (by decide)]; rfl
    show _ ++ digL 64 = _; rw [digL_ge (by decide), digL_lt (by decide)]; rfl
   have ho : Own (uWord y.n) (kN (uWord y.n)) := by rcases hn with e | e | e | e <;> (rw [e]; exact own_word (by decide))
   refine ⟨[tkP bs.length (uWord y.n) (kN (uWord y.n))], ?_, ?_⟩
   ·simp only [Tr.sh, if_pos k1, hw8]; exact hc.tok ho
   simp only [Tr.keys, if_pos k1]; rfl
  ·have hnil := trs_nil (ts := ks) (by omega)
   subst hnil
   rcases k1 with k1 | k1 | k1
   ·refine ⟨[tkP bs.length [98, 111, 111, 108] (kN [98, 111, 111, 108])], ?_, ?_⟩
    ·simp only [Tr.sh, if_neg (show ¬ y.kind = 1 by omega), if_pos k1]; exact hc.tok (own_word (by decide))
    simp only [Tr.keys, if_neg (show ¬ y.kind = 1 by omega), if_pos k1]; rfl
   ·refine ⟨[tkP bs.length [118, 97, 114, 105, 110, 116] (kN [118, 97, 114, 105, 110, 116])], ?_, ?_⟩
    ·simp only [Tr.sh, if_neg (show ¬ y.kind = 1 by omega), if_neg (show ¬ y.kind = 2 by omega), if_pos k1]; exact hc.tok (own_word (by decide))
    simp only [Tr.keys, if_neg (show ¬ y.kind = 1 by omega), if_neg (show ¬ y.kind = 2 by omega), if_pos k1]; rfl
   have hname : nameB y.name = true := by unfold namB at hnm; rw [if_pos k1] at hnm; exact hnm
   refine ⟨[tkP bs.length y.name (kN y.name)], ?_, ?_⟩
   ·simp only [Tr.sh, if_neg (show ¬ y.kind = 1 by omega), if_neg (show ¬ y.kind = 2 by omega), if_neg (show ¬ y.kind = 3 by omega), if_pos k1]; exact hc.tok (own_nameB hname)
   simp only [Tr.keys, if_neg (show ¬ y.kind = 1 by omega), if_neg (show ¬ y.kind = 2 by omega), if_neg (show ¬ y.kind = 3 by omega), if_pos k1]; rfl
  ·obtain ⟨t, rfl⟩ := trs_one (ts := ks) (by omega)
   obtain ⟨wd, hwd, hwd2, hwo⟩ : ∃ wd, (if y.kind = 4 then [118, 101, 99, 116, 111, 114, 60] else [108, 105, 115, 116, 60] : List UInt8) = wd ++ [60] ∧ (if y.kind = 5 then [108, 105, 115, 116] else [118, 101, 99, 116, 111, 114] : List UInt8) = wd ∧ Own wd (kN wd) := by
    rcases k1 with e | e
    ·exact ⟨[118, 101, 99, 116, 111, 114], by rw [if_pos e]; rfl, by rw [if_neg (by omega)], own_word (by decide)⟩
    exact ⟨[108, 105, 115, 116], by rw [if_neg (by omega)]; rfl, by rw [if_pos e], own_word (by decide)⟩
   have h1 := (hc.tok hwo).mark 60 (by decide)
   obtain ⟨vs, h2, hk2⟩ := sh_tr t y.kind (deep + 1) _ _ hks.1 h1
   have h3 := ((h2.mark 44 (by decide)).tok (own_num (n := y.n.toNat) (by omega))).mark 62 (by decide)
   refine ⟨tkP bs.length wd (kN wd) :: tkP (bs ++ wd).length [60] (kM [60]) :: (vs ++ [tkP (bs ++ wd ++ [60] ++ t.sh).length [44] (kM [44]), tkP (bs ++ wd ++ [60] ++ t.sh ++ [44]).length (digL y.n.toNat) (kD y.n.toNat), tkP (bs ++ wd ++ [60] ++ t.sh ++ [44] ++ digL y.n.toNat).length [62] (kM [62])]), ?_, ?_⟩
   ·have e1 : bs ++ (Tr.node y (.cons t .nil)).sh = bs ++ wd ++ [60] ++ t.sh ++ [44] ++ digL y.n.toNat ++ [62] := by
     simp only [Tr.sh, if_neg (show ¬ y.kind = 1 by omega), if_neg (show ¬ y.kind = 2 by omega), if_neg (show ¬ y.kind = 3 by omega), if_neg (show ¬ y.kind = 9 by omega), if_pos k1, hwd, Trs.shK]
     simp
    rw [e1]
    have h4 := h3.weak
    simp only [List.append_assoc, List.cons_append, List.nil_append] at h4 ⊢
    exact h4
   simp only [Tr.keys, if_neg (show ¬ y.kind = 1 by omega), if_neg (show ¬ y.kind = 2 by omega), if_neg (show ¬ y.kind = 3 by omega), if_neg (show ¬ y.kind = 9 by omega), if_pos k1, hwd2, Trs.keys, ← hk2]
   simp [tkP_key]
  ·obtain ⟨t, rfl⟩ := trs_one (ts := ks) (by omega)
   have h1 := (hc.tok (own_word (s := [111, 112, 116, 105, 111, 110]) (by decide))).mark 60 (by decide)
   obtain ⟨vs, h2, hk2⟩ := sh_tr t y.kind (deep + 1) _ _ hks.1 h1
   have h3 := h2.mark 62 (by decide)
   refine ⟨tkP bs.length [111, 112, 116, 105, 111, 110] (kN [111, 112, 116, 105, 111, 110]) :: tkP (bs ++ [111, 112, 116, 105, 111, 110]).length [60] (kM [60]) :: (vs ++ [tkP (bs ++ [111, 112, 116, 105, 111, 110] ++ [60] ++ t.sh).length [62] (kM [62])]), ?_, ?_⟩
   ·have e1 : bs ++ (Tr.node y (.cons t .nil)).sh = bs ++ [111, 112, 116, 105, 111, 110] ++ [60] ++ t.sh ++ [62] := by
     simp only [Tr.sh, if_neg (show ¬ y.kind = 1 by omega), if_neg (show ¬ y.kind = 2 by omega), if_neg (show ¬ y.kind = 3 by omega), if_neg (show ¬ y.kind = 9 by omega), if_neg (show ¬ (y.kind = 4 ∨ y.kind = 5) by omega), if_pos k1, Trs.shK]
     simp
    rw [e1]
    have h4 := h3.weak
    simp only [List.append_assoc, List.cons_append, List.nil_append] at h4 ⊢
    exact h4
   simp only [Tr.keys, if_neg (show ¬ y.kind = 1 by omega), if_neg (show ¬ y.kind = 2 by omega), if_neg (show ¬ y.kind = 3 by omega), if_neg (show ¬ y.kind = 9 by omega), if_neg (show ¬ (y.kind = 4 ∨ y.kind = 5) by omega), if_pos k1, Trs.keys, ← hk2]
   simp [tkP_key]
  obtain ⟨s, hs⟩ : ∃ s : Bool, s = decide (y.kind = 8) := ⟨_, rfl⟩
  have hu : decide (y.kind = 7) = !s := by rw [hs]; rcases k1 with e | e <;> simp [e]
  obtain ⟨wd, hwd, hwd2, hwo⟩ : ∃ wd, (if y.kind = 8 then [115, 116, 114, 117, 99, 116, 123] else [117, 110, 105, 111, 110, 123] : List UInt8) = wd ++ [123] ∧ (if y.kind = 7 then [117, 110, 105, 111, 110] else [115, 116, 114, 117, 99, 116] : List UInt8) = wd ∧ Own wd (kN wd) := by
   rcases k1 with e | e
   ·exact ⟨[117, 110, 105, 111, 110], by rw [if_neg (by omega)]; rfl, by rw [if_pos e], own_word (by decide)⟩
   exact ⟨[115, 116, 114, 117, 99, 116], by rw [if_pos e]; rfl, by rw [if_neg (by omega)], own_word (by decide)⟩
  have h1 := (hc.tok hwo).mark 123 (by decide)
  obtain ⟨vs, h2, hk2⟩ := sh_trs ks s true (deep + 1) _ _ true (by rw [hs]; rcases k1 with e | e <;> simpa [e] using hks) h1 (fun _ => rfl)
  have h3 := h2.mark 125 (by decide)
  refine ⟨tkP bs.length wd (kN wd) :: tkP (bs ++ wd).length [123] (kM [123]) :: (vs ++ [tkP (bs ++ wd ++ [123] ++ ks.shR s true).length [125] (kM [125])]), ?_, ?_⟩
  ·have e1 : bs ++ (Tr.node y ks).sh = bs ++ wd ++ [123] ++ ks.shR s true ++ [125] := by
    simp only [Tr.sh, if_neg (show ¬ y.kind = 1 by omega), if_neg (show ¬ y.kind = 2 by omega), if_neg (show ¬ y.kind = 3 by omega), if_neg (show ¬ y.kind = 9 by omega), if_neg (show ¬ (y.kind = 4 ∨ y.kind = 5) by omega), if_neg (show ¬ y.kind = 6 by omega), hwd, ← hs]
    simp
   rw [e1]
   have h4 := h3.weak
   simp only [List.append_assoc, List.cons_append, List.nil_append] at h4 ⊢
   exact h4
  simp only [Tr.keys, if_neg (show ¬ y.kind = 1 by omega), if_neg (show ¬ y.kind = 2 by omega), if_neg (show ¬ y.kind = 3 by omega), if_neg (show ¬ y.kind = 9 by omega), if_neg (show ¬ (y.kind = 4 ∨ y.kind = 5) by omega), if_neg (show ¬ y.kind = 6 by omega), hwd2, hu]
  rw [if_pos rfl] at hk2
  rw [← hk2]
  simp [tkP_key]
theorem sh_trs : ∀ (ts : Trs) (s first : Bool) (deep : Nat) (bs : List UInt8) (us : List Tk) (m : Bool), ts.wf (if s then 8 else 7) deep → Cut2 bs us m → (first = true → m = true) → ∃ vs, Cut2 (bs ++ ts.shR s first) (us ++ vs) false ∧ vs.map tkey = (if first then ts.rows (!s) else ts.more (!s))
 | .nil, s, first, deep, bs, us, m, _, hc, _ => ⟨[], by simp only [Trs.shR, List.append_nil]; exact hc.weak, by cases first <;> rfl⟩
 | .cons t ts, s, first, deep, bs, us, m, hw, hc, hf => by
  obtain ⟨-, -, g1, g2⟩ := rightB_iff (wf_top hw.1)
  obtain ⟨us1, h0, hk0⟩ : ∃ us1, Cut2 (bs ++ (if first then [] else [44])) (us ++ us1) true ∧ us1.map tkey = (if first then [] else [kM [44]]) := by
   cases first
   ·exact ⟨[tkP bs.length [44] (kM [44])], hc.mark 44 (by decide), rfl⟩
   have := hf rfl; subst this
   exact ⟨[], by simpa using hc, rfl⟩
  obtain ⟨hd, hdk, hho⟩ : ∃ hd, (if s then t.top.label else digL t.top.tag.toNat) = hd ∧ Own hd (if !s then kD t.top.tag.toNat else kN t.top.label) := by
   cases s
   ·refine ⟨_, rfl, own_num (n := t.top.tag.toNat) ?_⟩
    unfold tagB at g2
    simp only [Bool.or_eq_true, Bool.and_eq_true, decide_eq_true_eq] at g2
    omega
   refine ⟨_, rfl, own_nameB ?_⟩
   unfold labB at g1; simpa using g1
  have h1 := (h0.tok hho).mark 58 (by decide)
  obtain ⟨vs, h2, hk2⟩ := sh_tr t _ deep _ _ hw.1 h1
  obtain ⟨ws, h3, hk3⟩ := sh_trs ts s false deep _ _ false hw.2 h2 (fun h => by cases h)
  refine ⟨us1 ++ (tkP (bs ++ (if first then [] else [44])).length hd (if !s then kD t.top.tag.toNat else kN t.top.label) :: tkP (bs ++ (if first then [] else [44]) ++ hd).length [58] (kM [58]) :: (vs ++ ws)), ?_, ?_⟩
  ·have e1 : bs ++ (Trs.cons t ts).shR s first = bs ++ (if first then [] else [44]) ++ hd ++ [58] ++ t.sh ++ ts.shR s false := by
    simp only [Trs.shR, hdk]; simp
   rw [e1]
   simp only [List.append_assoc, List.cons_append, List.nil_append] at h3 ⊢
   exact h3
  rw [if_neg (by decide)] at hk3
  have e2 : (if first then (Trs.cons t ts).rows (!s) else (Trs.cons t ts).more (!s)) = (if first then [] else [kM [44]]) ++ (Trs.cons t ts).rows (!s) := by
   cases first <;> rfl
  rw [e2, List.map_append, hk0]
  congr 1
  simp only [List.map_cons, List.map_append, hk2, hk3, Trs.rows, hdK, tkP_key]
  simp
end
theorem sh_defs : ∀ (l : List DefT) (bs : List UInt8) (us : List Tk), (∀ p ∈ l, DefW p) → Cut2 bs us true → ∃ vs, Cut2 (bs ++ shDefs l) (us ++ vs) true ∧ vs.map tkey = defsK l
 | [], bs, us, _, hc => ⟨[], by simpa [shDefs] using hc, rfl⟩
 | p :: l, bs, us, hw, hc => by
  obtain ⟨hn, ht⟩ := hw p (List.mem_cons_self ..)
  have h1 := ((hc.tok (own_word (s := [116, 121, 112, 101]) (by decide))).gap (F := [32]) (by decide) ⟨_, _, rfl, by decide⟩).tok (own_nameB hn)
  have h2 := h1.mark 61 (by decide)
  obtain ⟨vs, h3, hk3⟩ := sh_tr p.2 0 0 _ _ ht h2
  have h4 := h3.mark 59 (by decide)
  obtain ⟨ws, h5, hk5⟩ := sh_defs l _ _ (fun q hq => hw q (List.mem_cons_of_mem _ hq)) h4
  refine ⟨tkP bs.length [116, 121, 112, 101] (kN [116, 121, 112, 101]) :: tkP (bs ++ [116, 121, 112, 101] ++ [32]).length p.1 (kN p.1) :: tkP (bs ++ [116, 121, 112, 101] ++ [32] ++ p.1).length [61] (kM [61]) :: (vs ++ tkP (bs ++ [116, 121, 112, 101] ++ [32] ++ p.1 ++ [61] ++ p.2.sh).length [59] (kM [59]) :: ws), ?_, ?_⟩
  ·have e1 : bs ++ shDefs (p :: l) = bs ++ [116, 121, 112, 101] ++ [32] ++ p.1 ++ [61] ++ p.2.sh ++ [59] ++ shDefs l := by simp [shDefs, shDef]
   rw [e1]
   simp only [List.append_assoc, List.cons_append, List.nil_append] at h5 ⊢
   exact h5
  simp only [defsK, defK, ← hk3, ← hk5]
  simp [tkP_key]
theorem parse_sh {l : List DefT} (hw : ∀ p ∈ l, DefW p) (hl : l.length ≤ 256) (hlen : (shDefs l).length ≤ 65536) : ∃ T, parseA (shDefs l) = ((defIdx 0 l).map (plD T), 0, 0) := by
 obtain ⟨vs, h1, h2⟩ := sh_defs l [] [] hw c2_nil
 rw [List.nil_append, List.nil_append] at h1
 have hd := h1.done
 have hc : cutA (shDefs l) = (vs, 0, 0) := by rw [ca_ok hlen (by rw [hd]), hd]
 exact ⟨vs, parse_keys hc h2 hw hl⟩


theorem bare_plE (T : List Tk) (x : Ex) : bareE (plE T x) = bareE x := by unfold plE; split <;> rfl
mutual
theorem idx_bare {T : List Tk} : ∀ (t : Tr) (i a : Nat), ((t.idx i a).map (plE T)).map bareE = t.flat.map bareE
 | .node y ks, i, a => by
  simp only [Tr.idx, Tr.flat, List.map_cons, bare_plE]
  congr 1
  split
  ·exact idxR_bare ks _
  exact idxK_bare ks _
theorem idxK_bare {T : List Tk} : ∀ (ts : Trs) (i : Nat), ((ts.idxK i).map (plE T)).map bareE = ts.flat.map bareE
 | .nil, _ => rfl
 | .cons t ts, i => by simp only [Trs.idxK, Trs.flat, List.map_append]; rw [idx_bare t, idxK_bare ts]
theorem idxR_bare {T : List Tk} : ∀ (ts : Trs) (i : Nat), ((ts.idxR i).map (plE T)).map bareE = ts.flat.map bareE
 | .nil, _ => rfl
 | .cons t ts, i => by simp only [Trs.idxR, Trs.flat, List.map_append]; rw [idx_bare t, idxR_bare ts]
end
theorem defIdx_bare {T : List Tk} : ∀ (l : List DefT) (i : Nat), ((defIdx i l).map (plD T)).map bareD = l.map (fun p => (⟨p.1, 0, p.2.flat.map bareE⟩ : Df))
 | [], _ => rfl
 | p :: l, i => by
  simp only [defIdx, List.map_cons, defIdx_bare l]
  congr 1
  simp only [plD, bareD, Df.mk.injEq, true_and]
  exact idx_bare p.2 _ _
theorem trees_bare {D : List Df} {l : List DefT} (h : D.map (fun d => (d.name, d.ty)) = l.map (fun q => (q.1, q.2.flat))) : D.map bareD = l.map (fun p => (⟨p.1, 0, p.2.flat.map bareE⟩ : Df)) := by
 have h1 := congrArg (List.map (fun q : List UInt8 × List Ex => (⟨q.1, 0, q.2.map bareE⟩ : Df))) h
 simp only [List.map_map] at h1
 exact h1
theorem shDefs_len : ∀ (D : List Df) (l : List DefT), (∀ q ∈ l, DefW q) → D.map (fun d => (d.name, d.ty)) = l.map (fun q => (q.1, q.2.flat)) → (∀ d ∈ D, d.ty.length ≤ 1048576) → (shDefs l).length ≤ D.length * 83887080
 | [], [], _, _, _ => by simp [shDefs]
 | [], q :: m, _, h, _ => by simp at h
 | d :: D, [], _, h, _ => by simp at h
 | d :: D, q :: l, hw, h, hs => by
  simp only [List.map_cons, List.cons.injEq, Prod.mk.injEq] at h
  have h1 := shDefs_len D l (fun x hx => hw x (List.mem_cons_of_mem _ hx)) h.2 (fun x hx => hs x (List.mem_cons_of_mem _ hx))
  have h2 := sh_len q.2 0 0 (hw q (List.mem_cons_self ..)).2
  have h3 := hs d (List.mem_cons_self ..)
  have h4 := (hw q (List.mem_cons_self ..)).1
  rw [h.1.2] at h3
  unfold nameB at h4; simp only [Bool.and_eq_true, decide_eq_true_eq] at h4
  have h6 : (shDefs (q :: l)).length = q.1.length + q.2.sh.length + 7 + (shDefs l).length := by simp [shDefs, shDef]; omega
  rw [h6, List.length_cons]
  omega

end Go.Proofs.YtpbflfgigfdohaaDoor

namespace Go.Proofs.YtpbflfgigfdohaaDoor
open Go Go.Vc Go.RowKit Go.Proofs

theorem exs_setA : ∀ (l : List Ex) (q : Nat) (hq : q < l.length) (a : Int), (exs l).set (q * 7 + 6) (.int .i64 a) = exs (l.set q { l[q] with at_ := a })
 | [], q, hq, _ => by simp at hq
 | x :: l, 0, _, a => rfl
 | x :: l, q + 1, hq, a => by
  have ih := exs_setA l q (by simpa using hq) a
  have e : exs (x :: l) = exV x ++ exs l := rfl
  have hl : (exV x).length = 7 := rfl
  rw [e, List.set_append_right _ _ (by omega), hl, show (q + 1) * 7 + 6 - 7 = q * 7 + 6 by omega, ih]
  rfl
theorem fm_set2 {f g : Nat → List Value} {s c i : Nat} {v : Value} (hs : ∀ j, (f j).length = s) (hc : c < s) (hg : ∀ j, j ≠ i → g j = f j) (hi : g i = (f i).set c v) : ∀ n, i < n → ((List.range n).flatMap f).set (i * s + c) v = (List.range n).flatMap g := by
 have hlen : ∀ n, ((List.range n).flatMap f).length = n * s := by
  intro n
  induction n with
  | zero => simp
  | succ n ih => rw [List.range_succ, List.flatMap_append, List.length_append, ih, List.flatMap_singleton, hs, Nat.succ_mul]
 intro n
 induction n with
 | zero => intro h; omega
 | succ n ih =>
  intro h
  rw [List.range_succ, List.flatMap_append, List.flatMap_append, List.flatMap_singleton, List.flatMap_singleton]
  by_cases e : i < n
  ·have h1 : (i + 1) * s ≤ n * s := Nat.mul_le_mul_right s e
   rw [Nat.succ_mul] at h1
   rw [List.set_append_left _ _ (by rw [hlen]; omega), ih e, hg n (by omega)]
  have e : i = n := by omega
  subst e
  rw [List.set_append_right _ _ (by rw [hlen]; omega), hlen, Nat.add_sub_cancel_left, ← hi]
  congr 1
  exact dfm_congr fun j hj => (hg j (by have := List.mem_range.1 hj; omega)).symm
theorem getD_set {D : List Df} {i j : Nat} {d : Df} (hi : i < D.length) : (D.set i d).getD j df0 = if j = i then d else D.getD j df0 := by
 rw [List.getD_eq_getElem?_getD, List.getElem?_set, List.getD_eq_getElem?_getD]
 by_cases e : i = j
 ·subst e; rw [if_pos rfl, if_pos hi, if_pos rfl]; rfl
 rw [if_neg e, if_neg (fun h => e h.symm)]
theorem drows_set {D : List Df} {V : Nat → Value} {i : Nat} (hi : i < D.length) (a : Int) : (drows D V).set (i * 3 + 1) (.int .i64 a) = drows (D.set i ⟨D[i].name, a, D[i].ty⟩) V := by
 unfold drows
 rw [List.length_set]
 refine fm_set2 (s := 3) (c := 1) (fun _ => rfl) (by decide) (fun j hj => ?_) ?_ _ hi
 ·show dcell _ _ = dcell _ _
  rw [getD_set hi, if_neg hj]
 show dcell _ _ = _
 rw [getD_set hi, if_pos rfl, getD_at hi]
 rfl
theorem drows_ty {D : List Df} {V : Nat → Value} {i : Nat} (hi : i < D.length) (l : List Ex) : drows (D.set i ⟨D[i].name, D[i].at_, l⟩) V = drows D V := by
 unfold drows
 rw [List.length_set]
 refine dfm_congr fun j _ => ?_
 show dcell _ _ = dcell _ _
 rw [getD_set hi]
 split
 ·rename_i e; subst e; rw [getD_at hi]; rfl
 rfl
theorem tyD_set {D : List Df} {i : Nat} {d : Df} (hi : i < D.length) (j : Nat) : tyD (D.set i d) j = if j = i then d.ty else tyD D j := by
 show ((D.set i d).getD j df0).ty = _
 rw [getD_set hi]
 split <;> rfl
theorem drows_get {D : List Df} {V : Nat → Value} {i : Nat} (hi : i < D.length) : (drows D V)[i * 3 + 2]? = some (V i) := by
 have h := congrArg (fun l => l[2]?) (drows_at D V hi)
 simp only [List.getElem?_take, List.getElem?_drop] at h
 exact h
theorem Defs.put_d {w w' : World} {H : Nat} {D : List Df} {dv : Value} {V : Nat → Value} (h : Defs w H D dv V) {i : Nat} (hi : i < D.length) {a : Int} (ho : Only (fun k => dv.ownBlock = some k) w w') (hr : w'.ownsRow H 38 3 dv D.length ((drows D V).set (i * 3 + 1) (.int .i64 a))) :
  Defs w' H (D.set i ⟨D[i].name, a, D[i].ty⟩) dv V := by
 refine ⟨by rw [List.length_set, ← drows_set hi]; exact hr, ?_⟩
 rw [List.length_set]
 have ht : ∀ j, tyD (D.set i ⟨D[i].name, a, D[i].ty⟩) j = tyD D j := fun j => by
  rw [tyD_set hi]
  split
  ·rename_i e; subst e; rw [tyD_at hi]
  rfl
 exact (h.tys.other h.row (by decide) ho).congr (fun _ _ => rfl) (fun j hj => by rw [ht]) (fun j hj => by rw [ht])
theorem Defs.put_e {w w' : World} {H : Nat} {D : List Df} {dv : Value} {V : Nat → Value} (h : Defs w H D dv V) {i : Nat} (hi : i < D.length) {q : Nat} (hq : q < D[i].ty.length) {a : Int} (ho : Only (fun k => (V i).ownBlock = some k) w w')
  (hr : w'.ownsRow H 40 7 (V i) D[i].ty.length ((exs D[i].ty).set (q * 7 + 6) (.int .i64 a))) :
  Defs w' H (D.set i ⟨D[i].name, D[i].at_, D[i].ty.set q { D[i].ty[q] with at_ := a }⟩) dv V := by
 rw [exs_setA _ _ hq] at hr
 refine ⟨by rw [List.length_set, drows_ty hi]; exact own_only h.row ho (fun k hk hf => own_row_off (h.tys.row i hi) h.row (by decide) k hk hf), ?_⟩
 rw [List.length_set]
 exact (h.tys.set hi ho hr).congr (fun _ _ => rfl) (fun j hj => by rw [tyD_set hi]; by_cases e : j = i <;> simp [e]) (fun j hj => by rw [tyD_set hi]; by_cases e : j = i <;> simp [e])
theorem Like0.put {D M : List Df} (h : Like0 D M) {i : Nat} (hi : i < M.length) {a : Int} {l : List Ex} (hl : l.map bareE = M[i].ty.map bareE) : Like0 D (M.set i ⟨M[i].name, a, l⟩) := by
 show D.map bareD = (M.set i ⟨M[i].name, a, l⟩).map bareD
 have e : bareD ⟨M[i].name, a, l⟩ = bareD M[i] := bareD_if2.2 ⟨rfl, hl⟩
 rw [List.map_set, e, show D.map bareD = M.map bareD from h]
 have h1 := List.set_getElem_self (i := i) (show i < (M.map bareD).length by simpa using hi)
 rw [List.getElem_map] at h1
 exact h1.symm
theorem set_bare {l : List Ex} {q : Nat} (hq : q < l.length) (a : Int) : (l.set q { l[q] with at_ := a }).map bareE = l.map bareE := by
 apply List.ext_getElem?
 intro j
 rw [List.getElem?_map, List.getElem?_map, List.getElem?_set]
 split
 ·rename_i e
  subst e
  rw [List.getElem?_eq_getElem hq]
  rfl
 rfl
theorem l0_mem {D M : List Df} (h : Like0 D M) {d : Df} (hd : d ∈ M) : ∃ d' ∈ D, d'.name = d.name ∧ d'.ty.map bareE = d.ty.map bareE := by
 have h1 : bareD d ∈ D.map bareD := by rw [show D.map bareD = M.map bareD from h]; exact List.mem_map_of_mem hd
 obtain ⟨d', h2, h3⟩ := List.mem_map.1 h1
 exact ⟨d', h2, (bareD_if2.1 h3).1, (bareD_if2.1 h3).2⟩
theorem l0_ok {D M : List Df} (h : Like0 D M) (hlim : DOk D) : DOk M := by
 refine ⟨by rw [l0_len h]; exact hlim.len, fun d hd => ?_, fun d hd => ?_, fun d hd x hx => ?_⟩
 ·obtain ⟨d', h1, -, h3⟩ := l0_mem h hd
  have := congrArg List.length h3
  rw [List.length_map, List.length_map] at this
  rw [← this]; exact hlim.ty d' h1
 ·obtain ⟨d', h1, h2, -⟩ := l0_mem h hd
  rw [← h2]; exact hlim.nm d' h1
 obtain ⟨d', h1, -, h3⟩ := l0_mem h hd
 have hm : bareE x ∈ d'.ty.map bareE := by rw [h3]; exact List.mem_map_of_mem hx
 obtain ⟨y, hy, he⟩ := List.mem_map.1 hm
 obtain ⟨-, -, h6, h7, -, -⟩ := bareE_if2.1 he
 rw [← h6, ← h7]
 exact hlim.ex d' h1 y hy
theorem l0_nb {D M : List Df} (h : Like0 D M) {n : Nat} (hn : ∀ d ∈ D, d.ty.length ≤ n) : ∀ d ∈ M, d.ty.length ≤ n := fun d hd => by
 obtain ⟨d', h1, -, h3⟩ := l0_mem h hd
 have := congrArg List.length h3
 rw [List.length_map, List.length_map] at this
 rw [← this]; exact hn d' h1
theorem build_l (D M : List Df) (dv : Value) (V : Nat → Value) (w0 : World) (hD : DefR w0 M dv V) (hlim : DOk M) (hnb : ∀ d ∈ M, d.ty.length ≤ 11453246122) (hk : Like0 D M) (hb : bldF D = none) {L : List Tp} {R : List Ro} {er ea : Int} (hL : L = bldT D) (hR : R = bldR D) (he : er = (bldV D).1) (ha : ea = (bldV D).2) : Ca Tryd.prog 5 #[.agg #[dv]] w0 (fun v w' => ∃ tv rv U, v = .tuple #[.agg #[tv, rv], .agg #[.int .i64 er, .int .i64 ea]] ∧ Schs w' w0.heap.size L R tv rv U ∧ Ext w0 w') := by
 obtain ⟨h1, h2, h3⟩ := l0_bld hk hb
 exact build_x M dv V w0 hD hlim hnb (hL.trans h2.symm) (hR.trans h3.symm) (he.trans ((bldV_no hb).1.trans (bldV_no h1).1.symm)) (ha.trans ((bldV_no hb).2.trans (bldV_no h1).2.symm))

set_option maxHeartbeats 16000000 in
theorem tplaces_walk (w0 : World) (D : List Df) (dv : Value) (V : Nat → Value) (hD : DefR w0 D dv V) (hlim : DOk D) (hnb : ∀ d ∈ D, d.ty.length ≤ 1048576) (by_ : Int) (_hby : -9223372036854775808 ≤ by_ ∧ by_ ≤ 9223372036854775807) (hT : Tab w0) (h1H : 0 < w0.heap.size) : Ca Tryd.prog 3 #[.agg #[dv], .int .i64 by_] w0 (fun v w' => v = .bool true ∧ Ext w0 w') := by
 have hnb2 : ∀ d ∈ D, d.ty.length ≤ 11453246122 := fun d hd => by have := hnb d hd; omega
 obtain ⟨hlL, hlR⟩ := bld_lim hlim hnb2
 obtain ⟨L, hL⟩ : ∃ x, x = bldT D := ⟨_, rfl⟩
 obtain ⟨R, hR⟩ : ∃ x, x = bldR D := ⟨_, rfl⟩
 obtain ⟨er, her⟩ : ∃ x, x = (bldV D).1 := ⟨_, rfl⟩
 obtain ⟨ea, hea⟩ : ∃ x, x = (bldV D).2 := ⟨_, rfl⟩
 rw [← hL] at hlL
 rw [← hR] at hlR
 have hok := sok_of hlL hlR
 have hDn := hlim.len
 refine Ca.of Tryd.func3 Tryd.ntmps3 rfl rfl (We (Wb (Wa rfl (o_boxB rfl ?_))))
 intro w2 hC2 hx2 hs2
 obtain ⟨b2, hb2⟩ : ∃ b, b = w0.heap.size := ⟨_, rfl⟩
 rw [← hb2] at hC2 ⊢
 replace hC2 : w2.heap[b2]? = some (.cells ([dv]).toArray 24 (0, 0)) := hC2
 have hx := hx2
 refine Wa rfl (Wg vB (Wc (We (We (Wb (Wa rfl (o_call Tryd.call4 ln ((awake9_spec _).mono ?_))))))))
 rintro v17 w17 ⟨rfl, hx17⟩
 replace hx := hx.tr hx17
 replace hC2 := hx17.blk hC2 (fun h => h)
 refine Wa rfl (o_not' rfl (Wc (W.condF' rfl (by simp) (Wp (We (Wb (Wa rfl (o_ldA TI24 rfl rfl (show Cells _ b2 0 [dv] from Cells.of hC2 0 _ (by simp)) rfl (Wa rfl (o_call Tryd.call5 (lc rfl ln) ((build_x D dv V _ (hD.ext hx) hlim hnb2 hL hR her hea).mono ?_)))))))))))
 rintro v21 w21 ⟨tva, rva, Ua, rfl, hA, hx21⟩
 have h1ta := own_one hA.ty.row
 have h1ra := own_one hA.ro
 replace hA := hA.rd
 replace hx := hx.tr hx21
 replace hC2 := hx21.blk hC2 (fun h => h)
 refine Wa rfl (Wf (by first | exact (show _ = Value.tuple _ from rfl) | exact rfl) (Wa rfl (o_ext rfl rfl (Wa rfl (o_ext rfl rfl (Wa rfl (o_alB TI29 ?_)))))))
 intro wa hC5 hxa hsa
 obtain ⟨b5, hb5⟩ : ∃ b, b = w21.heap.size := ⟨_, rfl⟩
 rw [← hb5] at hC5 ⊢
 replace hC5 : wa.heap[b5]? = some (.cells #[.slice none 0 0, .slice none 0 0] 29 (0, 0)) := hC5
 have hE : Ext w21 wa := hxa
 refine Wa rfl (o_alB TI32 ?_)
 intro wb hC6 hxb hsb
 have hsE := hE.size
 obtain ⟨b6, hb6⟩ : ∃ b, b = wa.heap.size := ⟨_, rfl⟩
 rw [← hb6] at hC6 ⊢
 replace hC6 : wb.heap[b6]? = some (.cells #[.int .i64 0, .int .i64 0] 32 (0, 0)) := hC6
 replace hE := hE.tr hxb
 replace hC5 := hxb.blk hC5 (fun h => h)
 refine WL.u (o_stA TI29 rfl (show _ = Value.agg #[tva, rva] from rfl) rfl (by simp [h1ta, h1ra]) hC5 rfl ?_)
 intro wc hC5n ho hs
 replace hC6 := ho.blk hC6 (blk_ne3 hC6 hC5 (by decide))
 replace hE := hE.trans' ho (fun _ h => h) (fun b hb e => by omega)
 replace hC5 : wc.heap[b5]? = some (.cells #[tva, rva] 29 (0, 0)) := hC5n
 refine WL.u (o_stA TI32 rfl (show _ = Value.agg #[.int .i64 er, .int .i64 ea] from rfl) rfl rfl hC6 rfl ?_)
 intro wz6 hC6n ho hs
 replace hC5 := ho.blk hC5 (blk_ne3 hC5 hC6 (by decide))
 replace hE := hE.trans' ho (fun _ h => h) (fun b hb e => by omega)
 replace hC6 : wz6.heap[b6]? = some (.cells #[.int .i64 er, .int .i64 ea] 32 (0, 0)) := hC6n
 replace hx := hx.tr hE
 replace hC2 := hE.blk hC2 (fun h => h)
 replace hA := hA.ext hE
 clear hE
 refine Wc (We (We (Wb (Wa rfl (Wl 0 TI32 rfl TI30 rfl rfl (Wa rfl (Wk TI30 rfl rfl (Wh hC6 rfl) (Wa rfl (o_ne rfl rfl (Wc (Wn rfl (fun c26 => ?_) (fun c26 => ?_))))))))))))
 ·try simp only [cs8] at c26
  refine We (Wb (Wa rfl (Wg vB (Wc (Wm (Wu rfl vB ?_))))))
  exact ⟨rfl, hx⟩
 try simp only [cs8] at c26
 have he0 : er = 0 := by simpa using c26
 have hbl : bldF D = none := bldV_iff.1 (by rw [← her]; exact he0)
 have hck := (bldF_none.1 hbl).1
 obtain ⟨h256, l, hws, hmap⟩ := chkS_trees hck
 have hbl2 : (shDefs l).length ≤ 140737488355328 := by have h1 := shDefs_len D l hws hmap hnb; have h2 : D.length * 83887080 ≤ 256 * 83887080 := Nat.mul_le_mul_right _ h256; omega
 have hxk : Ext wz6 wz6 := Only.refl _ _
 clear hC6
 refine Wp (We (Wb (Wa rfl (o_ldA TI24 rfl rfl (show Cells _ b2 0 [dv] from Cells.of (hxk.blk hC2 (fun h => h)) 0 _ (by simp)) rfl (Wa rfl (o_call Tryd.call6 (lc rfl ln) ((copied9_spec D dv V _ (hD.ext (hx.tr hxk)) hlim).mono ?_)))))))
 rintro v28 w28 ⟨kv, KW, rfl, hM, hx28⟩
 have h1kv := own_one hM.row
 replace hxk := hxk.tr hx28
 have hwk := hxk.size
 refine Wa rfl (o_alB TI24 ?_)
 intro wa hCa hxa hsa
 refine WL.u (o_stA TI24 rfl (show _ = Value.agg ([kv]).toArray from rfl) rfl (by simp [h1kv]) hCa rfl ?_)
 intro wb7 hC7 hob hsb
 have hxb := Ext.own hxa (Nat.le_refl _) hob
 obtain ⟨b7, hb7⟩ : ∃ b, b = w28.heap.size := ⟨_, rfl⟩
 rw [← hb7] at hC7 ⊢
 clear hCa hxa hsa hob hsb
 replace hM := hM.ext hxb
 replace hxk := hxk.tr hxb
 clear hxb
 refine Wc (We (We (Wb (Wa rfl (Wg vI (Wc (W.block (W.loop (fun e w => ∃ (i : Nat) (M : List Df), i ≤ D.length ∧ Like0 D M ∧ e 1 = .int .i64 by_ ∧ e 2 = .pointer (some ⟨b2, 0, none⟩) ∧ e 5 = .pointer (some ⟨b5, 0, none⟩) ∧ e 7 = .pointer (some ⟨b7, 0, none⟩) ∧ e 8 = .int .i64 (i : Int) ∧ w.heap[b7]? = some (.cells #[kv] 24 (0, 0)) ∧ Defs w wz6.heap.size M kv KW ∧ Ext wz6 w) (fun e w => D.length - (intOf (e 8)).toNat) ?_ ?_))))))))
 ·exact ⟨0, D, Nat.zero_le _, rfl, rfl, rfl, rfl, rfl, rfl, hC7, hM, hxk⟩
 rintro e w ⟨i, M0, hi, hlk, h1, h2, h5, h7, h8, hC7, hM, hxk⟩
 have hm8 := h8
 have hMl := l0_len hlk
 refine We (We (Wb (Wa rfl (Wf h8 (Wa rfl (Wl 0 TI24 rfl TI22 rfl h7 (Wa rfl (Wk TI22 rfl rfl (Wh hC7 rfl) (Wa rfl (Ws TI22 rfl (Sl.own hM.row) (Wa rfl (o_lt rfl rfl (Wc (Wn rfl (fun c33 => ?_) (fun c33 => ?_)))))))))))))))
 ·try simp only [cs8] at c33
  have hi1 : i < D.length := by omega
  have hi2 : i < M0.length := by omega
  obtain ⟨ga, ca, hkv, hga⟩ := own_some hM.row (by omega)
  refine Wp (We (W.block (We (Wb (Wa rfl (Wl 0 TI24 rfl TI22 rfl h7 (Wa rfl (Wk TI22 rfl rfl (Wh hC7 rfl) (Wa rfl (Wf h8 (Wa rfl (Wf h1 (Wa rfl (Wt (i := i) TI22 TI38 (show _ = Value.slice (some ⟨ga, 0, none⟩) M0.length ca from hkv) (show _ = Value.int .i64 (i : Int) from by first | rfl | assumption) (by omega) (Wa rfl (Wl 1 TI38 rfl TI3 rfl rfl (WL.u (o_stRj TI3 rfl (show 0 + i * 3 + 1 = i * 3 + 1 by omega) (show _ = Value.int .i64 by_ from by first | rfl | assumption) rfl hM.row hga (by omega) ?_))))))))))))))))))
  intro w9 hr9 ho9 hs9
  replace hC7 := ho9.blk hC7 (fun h => own_off hM.row hC7 (by decide) h)
  replace hxk := hxk.trans' ho9 (fun _ h => h) (fun b hb h => by have := (World.ownsRow.lt hM.row b h).1; omega)
  replace hM := hM.put_d hi2 ho9 hr9
  replace hlk := hlk.put (a := by_) hi2 (l := M0[i].ty) rfl
  generalize M0.set i _ = M at hM hlk
  clear hr9 ho9 hs9 hkv hMl hi2
  have hMl := l0_len hlk
  refine Wc (We (Wb (Wa rfl (Wg vI (Wc (W.block (W.loop (fun e w => ∃ (q : Nat) (M : List Df), q ≤ (tyD M i).length ∧ Like0 D M ∧ e 1 = .int .i64 by_ ∧ e 2 = .pointer (some ⟨b2, 0, none⟩) ∧ e 5 = .pointer (some ⟨b5, 0, none⟩) ∧ e 7 = .pointer (some ⟨b7, 0, none⟩) ∧ e 8 = .int .i64 (i : Int) ∧ e 9 = .int .i64 (q : Int) ∧ w.heap[b7]? = some (.cells #[kv] 24 (0, 0)) ∧ Defs w wz6.heap.size M kv KW ∧ Ext wz6 w) (fun e w => (tyD D i).length - (intOf (e 9)).toNat) ?_ ?_)))))))
  ·exact ⟨0, M, Nat.zero_le _, hlk, h1, h2, h5, h7, h8, rfl, hC7, hM, hxk⟩
  rintro e w ⟨q, M1, hq, hlk, h1, h2, h5, h7, h8, h9, hC7, hM, hxk⟩
  have hm9 := h9
  have hMl := l0_len hlk
  have hi2 : i < M1.length := by omega
  obtain ⟨ga, ca, hkv, hga⟩ := own_some hM.row (by omega)
  have hte : (tyD M1 i).length = (tyD D i).length := by have := congrArg List.length (l0_ty hlk i); simpa using this
  have hMt := hlim.ty _ (List.getElem_mem hi1)
  rw [← tyD_at hi1, ← hte] at hMt
  refine We (We (Wb (Wa rfl (Wf h9 (Wa rfl (Wl 0 TI24 rfl TI22 rfl h7 (Wa rfl (Wk TI22 rfl rfl (Wh hC7 rfl) (Wa rfl (Wf h8 (Wa rfl (Wt (i := i) TI22 TI38 (show _ = Value.slice (some ⟨ga, 0, none⟩) M1.length ca from hkv) (show _ = Value.int .i64 (i : Int) from by first | rfl | assumption) (by omega) (Wa rfl (Wl 2 TI38 rfl TI36 rfl rfl (Wa rfl (Wk TI36 rfl rfl (own_cell (j := 0 + i * 3 + 2) (hkv ▸ hM.row) (by rw [Nat.zero_add]; exact drows_get hi2)) (Wa rfl (Ws TI36 (show _ = KW i from rfl) (Sl.own (hM.tys.row i hi2)) (Wa rfl (o_lt rfl rfl (Wc (Wn rfl (fun c50 => ?_) (fun c50 => ?_)))))))))))))))))))))))
  ·try simp only [cs8] at c50
   have hq1 : q < (tyD M1 i).length := by omega
   obtain ⟨gu, cu, hU, hgu⟩ := own_some (hM.tys.row i hi2) (by omega)
   refine Wp (We (W.block (Wb (Wa rfl (Wl 0 TI24 rfl TI22 rfl h7 (Wa rfl (Wk TI22 rfl rfl (Wh hC7 rfl) (Wa rfl (Wf h8 (Wa rfl (Wt (i := i) TI22 TI38 (show _ = Value.slice (some ⟨ga, 0, none⟩) M1.length ca from hkv) (show _ = Value.int .i64 (i : Int) from by first | rfl | assumption) (by omega) (Wa rfl (Wl 2 TI38 rfl TI36 rfl rfl (Wa rfl (Wk TI36 rfl rfl (own_cell (j := 0 + i * 3 + 2) (hkv ▸ hM.row) (by rw [Nat.zero_add]; exact drows_get hi2)) (Wa rfl (Wf h9 (Wa rfl (Wf h1 (Wa rfl (Wf h9 (Wa rfl (o_add (k := .i64) (a := by_) (b := (q : Int)) rfl rfl (Wa rfl (Wt (i := q) TI36 TI40 (show _ = Value.slice (some ⟨gu, 0, none⟩) (tyD M1 i).length cu from hU) (show _ = Value.int .i64 (q : Int) from by first | rfl | assumption) (by omega) (Wa rfl (Wl 6 TI40 rfl TI3 rfl rfl (WL.u (o_stRj TI3 rfl (show 0 + q * 7 + 6 = q * 7 + 6 by omega) (show _ = Value.int .i64 (IntKind.i64.wrap (by_ + (q : Int))) from by first | rfl | assumption) rfl (hM.tys.row i hi2) hgu (by omega) ?_)))))))))))))))))))))))))))))
   intro w9 hr9 ho9 hs9
   replace hC7 := ho9.blk hC7 (fun h => own_off (hM.tys.row i hi2) hC7 (by decide) h)
   replace hxk := hxk.trans' ho9 (fun _ h => h) (fun b hb h => by have := (World.ownsRow.lt (hM.tys.row i hi2) b h).1; omega)
   replace hM := hM.put_e hi2 (q := q) (by rw [← tyD_at hi2]; exact hq1) ho9 (by rw [← tyD_at hi2]; exact hr9)
   have hq2 : q < M1[i].ty.length := by rw [← tyD_at hi2]; exact hq1
   replace hlk := hlk.put (a := M1[i].at_) hi2 (set_bare hq2 (IntKind.i64.wrap (by_ + (q : Int))))
   have hq3 : q < (tyD D i).length := by omega
   have hq4 : q < 9223372036854775806 := by omega
   generalize M1.set i _ = M at hM hlk
   clear hr9 ho9 hs9 hkv hMl hi2 hU hgu hte hq hq2 hMt hq1
   have hMl := l0_len hlk
   have hte : (tyD M i).length = (tyD D i).length := by have := congrArg List.length (l0_ty hlk i); simpa using this
   refine Wc (Wb (Wa rfl (Wf h9 (Wa rfl (o_addi rfl rfl (by omega) (Wa rfl (Wg vI (Wc (⟨⟨q + 1, M, by omega, hlk, h1, h2, h5, h7, h8, rfl, hC7, hM, hxk⟩, ?_⟩)))))))))
   show (tyD D i).length - ((q : Int) + 1).toNat < _
   rw [hm9]; simp [intOf]; omega
  try simp only [cs8] at c50
  have hq1 : q = (tyD M1 i).length := by omega
  refine W.exit (Wb (Wa rfl (Wf h8 (Wa rfl (o_addi rfl rfl (by omega) (Wa rfl (Wg vI (Wc (⟨⟨i + 1, M1, by omega, hlk, h1, h2, h5, h7, rfl, hC7, hM, hxk⟩, ?_⟩)))))))))
  show D.length - ((i : Int) + 1).toNat < _
  rw [hm8]; simp [intOf]; omega
 try simp only [cs8] at c33
 have hi1 : i = D.length := by omega
 refine W.exit (We (Wb (Wa rfl (o_ldA TI24 rfl h7 (show Cells _ b7 0 [kv] from Cells.of hC7 0 _ (by simp)) rfl (Wa rfl (o_call Tryd.call5 (lc rfl ln) ((build_l D M0 kv KW _ hM.rd (l0_ok hlk hlim) (l0_nb hlk hnb2) hlk hbl hL hR her hea).mono ?_)))))))
 rintro v67 w67 ⟨tvb, rvb, Ub, rfl, hB, hx67⟩
 have h1tb := own_one hB.ty.row
 have h1rb := own_one hB.ro
 replace hB := hB.rd
 replace hxk := hxk.tr hx67
 clear hM hC7 hlk hMl
 refine Wa rfl (Wf (by first | exact (show _ = Value.tuple _ from rfl) | exact rfl) (Wa rfl (o_ext rfl rfl (Wa rfl (o_ext rfl rfl (Wa rfl (o_alB TI29 ?_)))))))
 intro wa hC10 hxa hsa
 obtain ⟨b10, hb10⟩ : ∃ b, b = w67.heap.size := ⟨_, rfl⟩
 rw [← hb10] at hC10 ⊢
 replace hC10 : wa.heap[b10]? = some (.cells #[.slice none 0 0, .slice none 0 0] 29 (0, 0)) := hC10
 have hE : Ext w67 wa := hxa
 refine Wa rfl (o_alB TI32 ?_)
 intro wb hC11 hxb hsb
 have hsE := hE.size
 obtain ⟨b11, hb11⟩ : ∃ b, b = wa.heap.size := ⟨_, rfl⟩
 rw [← hb11] at hC11 ⊢
 replace hC11 : wb.heap[b11]? = some (.cells #[.int .i64 0, .int .i64 0] 32 (0, 0)) := hC11
 replace hE := hE.tr hxb
 replace hC10 := hxb.blk hC10 (fun h => h)
 refine WL.u (o_stA TI29 rfl (show _ = Value.agg #[tvb, rvb] from rfl) rfl (by simp [h1tb, h1rb]) hC10 rfl ?_)
 intro wc hC10n ho hs
 replace hC11 := ho.blk hC11 (blk_ne3 hC11 hC10 (by decide))
 replace hE := hE.trans' ho (fun _ h => h) (fun b hb e => by omega)
 replace hC10 : wc.heap[b10]? = some (.cells #[tvb, rvb] 29 (0, 0)) := hC10n
 refine WL.u (o_stA TI32 rfl (show _ = Value.agg #[.int .i64 er, .int .i64 ea] from rfl) rfl rfl hC11 rfl ?_)
 intro wz11 hC11n ho hs
 replace hC10 := ho.blk hC10 (blk_ne3 hC10 hC11 (by decide))
 replace hE := hE.trans' ho (fun _ h => h) (fun b hb e => by omega)
 replace hC11 : wz11.heap[b11]? = some (.cells #[.int .i64 er, .int .i64 ea] 32 (0, 0)) := hC11n
 have hq67 := hxk.size
 have hwk11 : wz6.heap.size ≤ b11 := by omega
 replace hB := hB.ext hE
 replace hxk := hxk.tr hE
 clear hE
 refine Wc (We (We (Wb (Wa rfl (Wl 0 TI32 rfl TI30 rfl rfl (Wa rfl (Wk TI30 rfl rfl (Wh hC11 rfl) (Wa rfl (o_ne rfl rfl (Wa rfl (Wf vB (Wj rfl (by simp [he0]) rfl (o_ldA TI29 rfl h5 (show Cells _ b5 0 [tva, rva] from Cells.of (hxk.blk hC5 (fun h => h)) 0 _ (by simp)) rfl (Wj rfl (by simp [he0]) rfl (o_ldA TI29 rfl rfl (show Cells _ b10 0 [tvb, rvb] from Cells.of hC10 0 _ (by simp)) rfl (Wj rfl (by simp [he0]) rfl (o_call Tryd.call7 (lc rfl (lc rfl ln)) ((same_A9 L R _ _ _ L R _ _ _ _ (hA.ext hxk) hB hok hok ⟨rfl, rfl⟩).mono ?_))))))))))))))))))
 rintro v76 w76 ⟨rfl, hx76⟩
 replace hxk := hxk.tr hx76
 replace hC11 := hx76.blk hC11 (fun h => h)
 clear hB hC10
 refine Wj rfl (by simp [he0]) rfl (o_not' rfl (Wa rfl (o_pickO rfl rfl (Wc (W.condF' rfl (by simp [he0]) (Wp (We ?_)))))))
 by_cases h65 : 65536 < (shDefs l).length
 ·skip
  skip
  refine Wb (Wa rfl (o_ldA TI24 rfl h2 (show Cells _ b2 0 [dv] from Cells.of (hxk.blk hC2 (fun h => h)) 0 _ (by simp)) rfl (Wa rfl (o_call Tryd.call8 (lc rfl ln) ((print_spec D dv V _ (hD.ext (hx.tr hxk)) hlim.lim (hT.ext (hx.tr hxk)) (by have := (hx.tr hxk).size; omega) hck l hws hmap hbl2).mono ?_)))))
  rintro v81 w81 ⟨rfl, hx81⟩
  rw [if_pos h65]
  replace hxk := hxk.tr hx81
  refine Wa rfl (Wf (by first | exact (show _ = Value.tuple _ from rfl) | exact rfl) (Wa rfl (o_ext rfl rfl (Wa rfl (o_ext rfl rfl (Wa rfl (Wg (show _ = Value.string _ from rfl) (Wa rfl (Wg vI (Wc (We (We (Wb (Wa rfl (Wf vI (Wa rfl (o_ne rfl rfl (Wc (W.condT' rfl (by decide) (We (Wb (Wa rfl (Wg vB (Wc (Wm (Wu rfl vB ?_))))))))))))))))))))))))))
  exact ⟨rfl, hx.tr hxk⟩
 skip
 skip
 refine Wb (Wa rfl (o_ldA TI24 rfl h2 (show Cells _ b2 0 [dv] from Cells.of (hxk.blk hC2 (fun h => h)) 0 _ (by simp)) rfl (Wa rfl (o_call Tryd.call8 (lc rfl ln) ((print_spec D dv V _ (hD.ext (hx.tr hxk)) hlim.lim (hT.ext (hx.tr hxk)) (by have := (hx.tr hxk).size; omega) hck l hws hmap hbl2).mono ?_)))))
 rintro v81 w81 ⟨rfl, hx81⟩
 rw [if_neg h65]
 replace hxk := hxk.tr hx81
 replace hC11 := hx81.blk hC11 (fun h => h)
 refine Wa rfl (Wf (by first | exact (show _ = Value.tuple _ from rfl) | exact rfl) (Wa rfl (o_ext rfl rfl (Wa rfl (o_ext rfl rfl (Wa rfl (Wg (show _ = Value.string _ from rfl) (Wa rfl (Wg vI (Wc (We (We (Wb (Wa rfl (Wf vI (Wa rfl (o_ne rfl rfl (Wc (W.condF' rfl (by decide) (Wp (We ?_)))))))))))))))))))))
 skip
 skip
 have hl256 : l.length ≤ 256 := by have h1 := congrArg List.length hmap; simp at h1; omega
 obtain ⟨T, hpk⟩ := parse_sh hws hl256 (by omega)
 have hPok := parse_ok (shDefs l)
 have hPl := parse_len (shDefs l)
 have hPb : (parseA (shDefs l)).1.map bareD = D.map bareD := by rw [hpk, trees_bare hmap]; exact defIdx_bare l 0
 have hP1 : (parseA (shDefs l)).2.1 = 0 := by rw [hpk]
 have hP2 : (parseA (shDefs l)).2.2 = 0 := by rw [hpk]
 clear hpk
 obtain ⟨P, hP⟩ : ∃ P, P = (parseA (shDefs l)).1 := ⟨_, rfl⟩
 rw [← hP] at hPok hPl hPb
 have hlk : Like0 D P := hPb.symm
 have hPn : ∀ d ∈ P, d.ty.length ≤ 11453246122 := fun d hd => by have := hPl d hd; omega
 refine Wb (Wa rfl (Wf (show _ = Value.string _ from rfl) (Wa rfl (o_call Tryd.call9 (lc rfl ln) ((parse_spec (shDefs l) _ (by omega)).mono ?_)))))
 rintro v88 w88 ⟨pv, PV, rfl, hP0, hx88⟩
 rw [← hP] at hP0
 rw [hP1, hP2]
 have hPlt := hP0.lt
 have h1pv := own_one hP0.row
 replace hP0 := hP0.rd
 replace hxk := hxk.tr hx88
 have hl11 := blk_lt3 hC11
 replace hC11 := hx88.blk hC11 (fun h => h)
 refine Wa rfl (Wf (by first | exact (show _ = Value.tuple _ from rfl) | exact rfl) (Wa rfl (o_ext rfl rfl (Wa rfl (o_ext rfl rfl (Wa rfl (o_alB TI24 ?_)))))))
 intro wa hC14 hxa hsa
 obtain ⟨b14, hb14⟩ : ∃ b, b = w88.heap.size := ⟨_, rfl⟩
 rw [← hb14] at hC14 ⊢
 replace hC14 : wa.heap[b14]? = some (.cells #[.slice none 0 0] 24 (0, 0)) := hC14
 have hE : Ext w88 wa := hxa
 replace hC11 := hxa.blk hC11 (fun h => h)
 refine WL.u (o_stA TI24 rfl (show _ = Value.agg #[pv] from rfl) rfl (by simp [h1pv]) hC14 rfl ?_)
 intro wc hC14n ho hs
 replace hC11 := ho.blk hC11 (blk_ne3 hC11 hC14 (by decide))
 replace hE := hE.trans' ho (fun _ h => h) (fun b hb e => by omega)
 replace hC14 : wc.heap[b14]? = some (.cells #[pv] 24 (0, 0)) := hC14n
 refine WL.u (o_stA TI32 rfl (show _ = Value.agg #[.int .i64 ((0 : Nat) : Int), .int .i64 ((0 : Nat) : Int)] from rfl) rfl rfl hC11 rfl ?_)
 intro wd hC11n ho hs
 replace hC14 := ho.blk hC14 (blk_ne3 hC14 hC11 (by decide))
 replace hP0 := (hP0.ext hE).only ho (fun k hk => by have := (hPlt k hk).1; omega)
 replace hxk := (hxk.tr hE).trans' ho (fun _ h => h) (fun b hb e => by omega)
 replace hC11 : wd.heap[b11]? = some (.cells #[.int .i64 0, .int .i64 0] 32 (0, 0)) := hC11n
 clear hE
 refine Wc (We (Wb (Wa rfl (o_ldA TI24 rfl rfl (show Cells _ b14 0 [pv] from Cells.of hC14 0 _ (by simp)) rfl (Wa rfl (o_call Tryd.call5 (lc rfl ln) ((build_l D P pv PV _ hP0 hPok hPn hlk hbl hL hR her hea).mono ?_)))))))
 rintro v93 w93 ⟨tvc, rvc, Uc, rfl, hSc, hx93⟩
 have h1tc := own_one hSc.ty.row
 have h1rc := own_one hSc.ro
 replace hSc := hSc.rd
 replace hxk := hxk.tr hx93
 replace hC11 := hx93.blk hC11 (fun h => h)
 refine Wa rfl (Wf (by first | exact (show _ = Value.tuple _ from rfl) | exact rfl) (Wa rfl (o_ext rfl rfl (Wa rfl (o_ext rfl rfl (Wa rfl (o_alB TI29 ?_)))))))
 intro wa hC15 hxa hsa
 obtain ⟨b15, hb15⟩ : ∃ b, b = w93.heap.size := ⟨_, rfl⟩
 rw [← hb15] at hC15 ⊢
 replace hC15 : wa.heap[b15]? = some (.cells #[.slice none 0 0, .slice none 0 0] 29 (0, 0)) := hC15
 have hE : Ext w93 wa := hxa
 refine Wa rfl (o_alB TI32 ?_)
 intro wb hC16 hxb hsb
 have hsE := hE.size
 obtain ⟨b16, hb16⟩ : ∃ b, b = wa.heap.size := ⟨_, rfl⟩
 rw [← hb16] at hC16 ⊢
 replace hC16 : wb.heap[b16]? = some (.cells #[.int .i64 0, .int .i64 0] 32 (0, 0)) := hC16
 replace hE := hE.tr hxb
 replace hC15 := hxb.blk hC15 (fun h => h)
 refine WL.u (o_stA TI29 rfl (show _ = Value.agg #[tvc, rvc] from rfl) rfl (by simp [h1tc, h1rc]) hC15 rfl ?_)
 intro wc hC15n ho hs
 replace hC16 := ho.blk hC16 (blk_ne3 hC16 hC15 (by decide))
 replace hE := hE.trans' ho (fun _ h => h) (fun b hb e => by omega)
 replace hC15 : wc.heap[b15]? = some (.cells #[tvc, rvc] 29 (0, 0)) := hC15n
 refine WL.u (o_stA TI32 rfl (show _ = Value.agg #[.int .i64 er, .int .i64 ea] from rfl) rfl rfl hC16 rfl ?_)
 intro wz16 hC16n ho hs
 replace hC15 := ho.blk hC15 (blk_ne3 hC15 hC16 (by decide))
 replace hE := hE.trans' ho (fun _ h => h) (fun b hb e => by omega)
 replace hC16 : wz16.heap[b16]? = some (.cells #[.int .i64 er, .int .i64 ea] 32 (0, 0)) := hC16n
 replace hSc := hSc.ext hE
 replace hxk := hxk.tr hE
 replace hC11 := hE.blk hC11 (fun h => h)
 clear hE
 refine Wc (We (Wb (Wa rfl (Wl 0 TI32 rfl TI30 rfl rfl (Wa rfl (Wk TI30 rfl rfl (Wh hC11 rfl) (Wa rfl (o_eq rfl rfl (Wa rfl (Wf vB (Wj rfl (by simp) rfl (Wl 0 TI32 rfl TI30 rfl rfl (Wj rfl (by simp) rfl (Wk TI30 rfl rfl (Wh hC16 rfl) (Wj rfl (by simp) rfl (o_eq rfl rfl (Wa rfl (Ww rfl rfl (Wa rfl (Wf vB (Wj rfl (by simp [he0]) rfl (o_ldA TI29 rfl h5 (show Cells _ b5 0 [tva, rva] from Cells.of (hxk.blk hC5 (fun h => h)) 0 _ (by simp)) rfl (Wj rfl (by simp [he0]) rfl (o_ldA TI29 rfl rfl (show Cells _ b15 0 [tvc, rvc] from Cells.of hC15 0 _ (by simp)) rfl (Wj rfl (by simp [he0]) rfl (o_call Tryd.call7 (lc rfl (lc rfl ln)) ((same_A9 L R _ _ _ L R _ _ _ _ (hA.ext hxk) hSc hok hok ⟨rfl, rfl⟩).mono ?_)))))))))))))))))))))))))))
 rintro v107 w107 ⟨rfl, hx107⟩
 replace hxk := hxk.tr hx107
 refine Wa rfl (Ww rfl rfl (Wa rfl (Wg vB (Wc (Wm (Wu rfl vB ?_))))))
 exact ⟨congrArg Value.bool (by simp [he0]), hx.tr hxk⟩
end Go.Proofs.YtpbflfgigfdohaaDoor

namespace Go.Proofs.YtpbflfgigfdohaaDoor
open Go Go.Vc Go.RowKit Go.Proofs

/-- its bulk is bounded -/
def Blk {H : Type} (d : DataW H) : Prop := Rows.uptoBulk d ≤ 1048576
theorem bulk_mem {H : Type} : ∀ {l : List (DataW H)} {d : DataW H}, d ∈ l → Rows.uptoBulk d ≤ Rows.uptoBulkAll l
 | d0 :: l, d, h => by
  rw [Rows.uptoBulkAll]
  rcases List.mem_cons.1 h with rfl | h
  ·omega
  have := bulk_mem h; omega
theorem bulk_pos {H : Type} (d : DataW H) : 1 ≤ Rows.uptoBulk d := by
 cases d with
 | lit x => cases x <;> simp [Rows.uptoBulk]
 | _ => simp [Rows.uptoBulk]
theorem bulk_len {H : Type} : ∀ l : List (DataW H), l.length ≤ Rows.uptoBulkAll l
 | [] => Nat.zero_le _
 | d :: l => by rw [Rows.uptoBulkAll, List.length_cons]; have := bulk_len l; have := bulk_pos d; omega
theorem Blk.elem {H : Type} {elems spare : List (DataW H)} {d : DataW H} (h : Blk (.slice elems spare)) (hd : d ∈ elems) : Blk d := by
 have := bulk_mem hd; unfold Blk at h ⊢; rw [Rows.uptoBulk] at h; omega
theorem Blk.part {H : Type} {parts : List (DataW H)} {i : Nat} {d : DataW H} (h : Blk (.agg parts)) (hd : parts[i]? = some d) : Blk d := by
 have := bulk_mem (List.mem_of_getElem? hd); unfold Blk at h ⊢; rw [Rows.uptoBulk] at h; omega
theorem Blk.size {H : Type} {elems spare : List (DataW H)} (h : Blk (.slice elems spare)) : elems.length ≤ 1048576 := by
 have := bulk_len elems; unfold Blk at h; rw [Rows.uptoBulk] at h; omega
section
variable {H : Type} {enc : TypeId × Value → H} {P : Program} {W : World} {held : Bool}
/-- a slice of what is opened by 'hc' -/
theorem open_rowsQ {α : Type} {t e : TypeId} (s : Nat) (cells : α → List Value) (p : α → Prop) (hu : P.underlying t = some (.slice e)) (hs : P.cellsOf e = s) (hs0 : 0 < s) (hlen : ∀ o, (cells o).length = s)
  (hc : ∀ (n : Nat) (cs : List Value) (y : DataW H × List MemPlace), DataW.trod enc P W 0 (fun _ => true) held n e cs = some y → Blk y.1 → ∃ o, cs = cells o ∧ p o)
  {fuel : Nat} {v : Value} {x : DataW H × List MemPlace} (h : DataW.trod enc P W 0 (fun _ => true) held fuel t [v] = some x) (hz : Blk x.1) :
  ∃ os : List α, os.length ≤ maxLen ∧ Sl W s v os.length (os.flatMap cells) ∧ ∀ o ∈ os, p o := by
 rcases DataW.trod_slice hu h with ⟨hcs, hd⟩ | ⟨a, len, cap, elems, rest, n, -, hcs, hx, -, hl, hm, hle, hel, -, -⟩
 ·simp only [List.cons.injEq, and_true] at hcs
  subst hcs
  exact ⟨[], Nat.zero_le _, Sl.nil W s, fun o h => by cases h⟩
 simp only [List.cons.injEq, and_true] at hcs
 subst hcs
 subst hx
 have key : ∀ i, i < len → ∃ o : α, (∀ j v, (cells o)[j]? = some v → W.cell? (a.add (i * s + j)) = some v) ∧ p o := by
  intro i hi
  have he := hel i hi
  rw [List.getElem?_eq_getElem (by omega), hs, Option.bind_eq_some_iff] at he
  obtain ⟨cs, h1, h2⟩ := he
  obtain ⟨-, h4, h5⟩ := World.cells?_some h1
  obtain ⟨o, ho, hp⟩ := hc n cs _ h2 (hz.elem (List.mem_map.2 ⟨_, List.getElem_mem (by omega), rfl⟩))
  subst ho
  refine ⟨o, fun j v hj => ?_, hp⟩
  have hjs : j < s := by have := (List.getElem?_eq_some_iff.1 hj).1; rw [hlen] at this; exact this
  have := h5 j hjs
  rw [← hj, ← this, addr_add]
 obtain ⟨os, ho1, ho2⟩ := list_of _ len key
 refine ⟨os, by omega, ⟨?_, ?_⟩, fun o ho => ?_⟩
 ·clear ho2 ho1
  induction os with
  | nil => simp
  | cons o os ih => rw [List.flatMap_cons, List.length_append, hlen, ih, List.length_cons, Nat.add_mul]; omega
 ·by_cases h0 : len = 0
  ·subst h0; exact .inl ⟨ho1, _, _, rfl⟩
  obtain ⟨b, off, spot⟩ := a
  have h00 := (ho2 0 (by omega)).1 0 ((cells (os[0]'(by omega)))[0]'(by rw [hlen]; exact hs0)) (List.getElem?_eq_getElem _)
  have hsp : spot = none := by simpa [Addr.add] using World.cell?_spot h00
  subst hsp
  refine .inr ⟨b, off, cap, by rw [ho1], by omega, fun idx u hu => ?_⟩
  obtain ⟨i, j, hi, h1, h2⟩ := flatMap_get hlen os idx u hu
  have h3 := (ho2 i hi).1 j u h2
  rw [h1, ← h3, add_none]
 obtain ⟨i, hi, rfl⟩ := List.getElem_of_mem ho
 exact (ho2 i hi).2
/-- a struct's field -/
theorem open_fieldQ {t u : TypeId} {fs : Array Field} {f : Field} (i off s : Nat) (hu : P.underlying t = some (.struct fs)) (hf : fs[i]? = some f) (ht : f.type = u) (ho : f.offset = off) (hs : P.cellsOf u = s) {fuel : Nat} {cs : List Value} {x : DataW H × List MemPlace}
  (h : DataW.trod enc P W 0 (fun _ => true) held fuel t cs = some x) (hz : Blk x.1) : ∃ n y, DataW.trod enc P W 0 (fun _ => true) held n u ((cs.drop off).take s) = some y ∧ Blk y.1 := by
 subst ht ho hs
 obtain ⟨xs, n, -, hx, -, hl, hall⟩ := DataW.trod_struct hu h
 have hi : i < fs.size := (Array.getElem?_eq_some_iff.1 hf).1
 have h1 := hall i f hf
 rw [List.getElem?_eq_getElem (by omega)] at h1
 refine ⟨n, _, h1, ?_⟩
 subst hx
 refine hz.part (i := i) ?_
 rw [List.getElem?_map, List.getElem?_eq_getElem (by omega)]; rfl

theorem rows_lenQ {t e : TypeId} (hu : P.underlying t = some (.slice e)) {fuel : Nat} {a : Option Addr} {n c : Nat} {x : DataW H × List MemPlace}
  (h : DataW.trod enc P W 0 (fun _ => true) held fuel t [.slice a n c] = some x) (hz : Blk x.1) : n ≤ 1048576 := by
 rcases DataW.trod_slice hu h with ⟨hcs, hd⟩ | ⟨a', len, cap, elems, rest, k, -, hcs, hx, -, hl, hm, hle, hel, -, -⟩
 ·simp only [List.cons.injEq, and_true, Value.slice.injEq] at hcs
  omega
 simp only [List.cons.injEq, and_true, Value.slice.injEq] at hcs
 subst hx
 have h1 := hz.size
 simp only [List.length_map, List.length_take] at h1
 omega
theorem open_exprQ {n : Nat} {cs : List Value} {y : DataW H × List MemPlace} (h : DataW.trod enc Tryd.prog W 0 (fun _ => true) held n 40 cs = some y) (hz : Blk y.1) : ∃ x : Ex, cs = exV x ∧ ExOk x := by
 have hl := open_struct_len (s := 7) Tryd.underlying40 (by kernel_rfl) h
 obtain ⟨a, b, c, d, e, f, g, rfl⟩ := seven_cells hl
 obtain ⟨n0, y0, h0, -⟩ := open_fieldQ 0 0 1 Tryd.underlying40 rfl rfl rfl (by kernel_rfl) h hz
 obtain ⟨n1, y1, h1, -⟩ := open_fieldQ 1 1 1 Tryd.underlying40 rfl rfl rfl (by kernel_rfl) h hz
 obtain ⟨n2, y2, h2, -⟩ := open_fieldQ 2 2 1 Tryd.underlying40 rfl rfl rfl (by kernel_rfl) h hz
 obtain ⟨n3, y3, h3, -⟩ := open_fieldQ 3 3 1 Tryd.underlying40 rfl rfl rfl (by kernel_rfl) h hz
 obtain ⟨n4, y4, h4, -⟩ := open_fieldQ 4 4 1 Tryd.underlying40 rfl rfl rfl (by kernel_rfl) h hz
 obtain ⟨n5, y5, h5, -⟩ := open_fieldQ 5 5 1 Tryd.underlying40 rfl rfl rfl (by kernel_rfl) h hz
 obtain ⟨n6, y6, h6, -⟩ := open_fieldQ 6 6 1 Tryd.underlying40 rfl rfl rfl (by kernel_rfl) h hz
 obtain ⟨k0, e0, -, -⟩ := DataW.trod_int Tryd.underlying3 h0
 obtain ⟨k1, e1, -, -⟩ := DataW.trod_int Tryd.underlying3 h1
 obtain ⟨k2, e2, -, l2⟩ := DataW.trod_string Tryd.underlying9 h2
 obtain ⟨k3, e3, -, l3⟩ := DataW.trod_string Tryd.underlying9 h3
 obtain ⟨k4, e4, -, -⟩ := DataW.trod_int Tryd.underlying3 h4
 obtain ⟨k5, e5, -, -⟩ := DataW.trod_int Tryd.underlying3 h5
 obtain ⟨k6, e6, -, -⟩ := DataW.trod_int Tryd.underlying3 h6
 simp only [List.drop_zero, List.drop_succ_cons, List.take_succ_cons, List.take_zero, List.cons.injEq, and_true] at e0 e1 e2 e3 e4 e5 e6
 refine ⟨⟨k0, k1, k2.data.toList, k3.data.toList, k4, k5, k6⟩, ?_, size_list l2, size_list l3⟩
 rw [e0, e1, e2, e3, e4, e5, e6, str_list, str_list]
 rfl

theorem open_exprsQ {n : Nat} {v : Value} {y : DataW H × List MemPlace} (h : DataW.trod enc Tryd.prog W 0 (fun _ => true) held n 36 [v] = some y) (hz : Blk y.1) :
  ∃ l : List Ex, Sl W 7 v l.length (exs l) ∧ l.length ≤ 1048576 ∧ ∀ x ∈ l, ExOk x := by
 obtain ⟨l, -, h1, h2⟩ := open_rowsQ 7 exV ExOk Tryd.underlying36 (by kernel_rfl) (by decide) (fun _ => rfl) (fun n cs y hy hz => open_exprQ hy hz) (v := v) h hz
 refine ⟨l, h1, ?_, h2⟩
 obtain ⟨a, c, rfl⟩ := h1.isSlice
 exact rows_lenQ Tryd.underlying36 h hz
def DfOkQ (W : World) (o : DfV) : Prop := Sl W 7 o.2 o.1.ty.length (exs o.1.ty) ∧ o.1.name.length ≤ 9223372036854775807 ∧ o.1.ty.length ≤ 1048576 ∧ ∀ x ∈ o.1.ty, ExOk x
theorem open_defQ {n : Nat} {cs : List Value} {y : DataW H × List MemPlace} (h : DataW.trod enc Tryd.prog W 0 (fun _ => true) held n 38 cs = some y) (hz : Blk y.1) : ∃ o : DfV, cs = dfV o ∧ DfOkQ W o := by
 have hl := open_struct_len (s := 3) Tryd.underlying38 (by kernel_rfl) h
 obtain ⟨a, b, c, rfl⟩ := three_cells hl
 obtain ⟨n0, y0, h0, -⟩ := open_fieldQ 0 0 1 Tryd.underlying38 rfl rfl rfl (by kernel_rfl) h hz
 obtain ⟨n1, y1, h1, -⟩ := open_fieldQ 1 1 1 Tryd.underlying38 rfl rfl rfl (by kernel_rfl) h hz
 obtain ⟨n2, y2, h2, z2⟩ := open_fieldQ 2 2 1 Tryd.underlying38 rfl rfl rfl (by kernel_rfl) h hz
 obtain ⟨k0, e0, -, l0⟩ := DataW.trod_string Tryd.underlying9 h0
 obtain ⟨k1, e1, -, -⟩ := DataW.trod_int Tryd.underlying3 h1
 obtain ⟨l, hS, hb, hok⟩ := open_exprsQ h2 z2
 simp only [List.drop_zero, List.drop_succ_cons, List.take_succ_cons, List.take_zero, List.cons.injEq, and_true] at e0 e1
 refine ⟨(⟨k0.data.toList, k1, l⟩, c), ?_, hS, size_list l0, hb, hok⟩
 rw [e0, e1, str_list]
 rfl
theorem open_sourceQ {n : Nat} {cs : List Value} {y : DataW H × List MemPlace} (h : DataW.trod enc Tryd.prog W 0 (fun _ => true) held n 24 cs = some y) (hz : Blk y.1) : ∃ D dv V, cs = [dv] ∧ DefR W D dv V ∧ DOk D ∧ (∀ d ∈ D, d.ty.length ≤ 1048576) ∧ D.length ≤ 1048576 := by
 have hl := open_struct_len (s := 1) Tryd.underlying24 (by kernel_rfl) h
 obtain ⟨a, rfl⟩ := List.length_eq_one_iff.1 hl
 obtain ⟨n0, y0, h0, z0⟩ := open_fieldQ 0 0 1 Tryd.underlying24 rfl rfl rfl (by kernel_rfl) h hz
 simp only [List.drop_zero, List.take_succ_cons, List.take_zero] at h0
 obtain ⟨os, -, h1, h2⟩ := open_rowsQ 3 dfV (DfOkQ W) Tryd.underlying22 (by kernel_rfl) (by decide) (fun _ => rfl) (fun n cs y hy hz => open_defQ hy hz) (v := a) h0 z0
 have hb : os.length * 48 ≤ 140737488351232 := by
  obtain ⟨b, c, rfl⟩ := h1.isSlice
  have := rows_lenQ Tryd.underlying22 h0 z0
  omega
 have hb2 : os.length ≤ 1048576 := by
  obtain ⟨b, c, rfl⟩ := h1.isSlice
  exact rows_lenQ Tryd.underlying22 h0 z0
 have hg : ∀ j (hj : j < os.length), (os.map Prod.fst).getD j df0 = os[j].1 := fun j hj => by simp [List.getD_eq_getElem?_getD, hj]
 have hr : drows (os.map Prod.fst) (fun j => (os.getD j (df0, undef)).2) = os.flatMap dfV := by
  rw [drows, List.length_map]
  have : ∀ (n : Nat), n ≤ os.length → ((List.range n).flatMap fun j => dcell ((os.map Prod.fst).getD j df0) ((os.getD j (df0, undef)).2)) = (os.take n).flatMap dfV := by
   intro n
   induction n with
   | zero => intro _; rfl
   | succ n ih =>
    intro hn
    rw [List.range_succ, List.flatMap_append, ih (by omega), List.flatMap_singleton, hg n hn, List.take_add_one, List.flatMap_append]
    simp [List.getD_eq_getElem?_getD, List.getElem?_eq_getElem (show n < os.length by omega), dfV]
  rw [this _ (Nat.le_refl _), List.take_length]
 refine ⟨os.map Prod.fst, a, fun j => (os.getD j (df0, undef)).2, rfl, ⟨?_, fun j hj => ?_⟩, ⟨by rw [List.length_map]; exact hb, ?_, ?_, ?_⟩, ?_, by rw [List.length_map]; exact hb2⟩
 ·rw [hr, List.length_map]; exact h1
 ·have hj' : j < os.length := by simpa using hj
  have := h2 os[j] (List.getElem_mem hj')
  rw [tyD, hg j hj']
  have e : (os.getD j (df0, undef)) = os[j] := by simp [List.getD_eq_getElem?_getD, hj']
  rw [e]
  exact this.1
 all_goals
  intro d hd
  obtain ⟨o, ho, rfl⟩ := List.mem_map.1 hd
  obtain ⟨-, g1, g2, g3⟩ := h2 o ho
  first | omega | exact g1 | exact g3
end

end Go.Proofs.YtpbflfgigfdohaaDoor
