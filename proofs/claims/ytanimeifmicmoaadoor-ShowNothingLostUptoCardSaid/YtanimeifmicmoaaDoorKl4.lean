/-
  Walks and lemmas. Written by program out of specs of mine.
-/
import Derived.WalkKit
import Derived.WalkSpells
import Derived.WalkLawsBesides
import Derived.Deep.Quiet
import Derived.StillTail
import Derived.StringKeys
import Derived.Laws.StructEq
import Derived.Laws.Externs
import Derived.Laws.Tables
import Derived.Scope
import Derived.Test.YtanimeifmicmoaaDoorProg
import Derived.Laws.AppendOwn
import Derived.Maps.AppendAt
import Derived.Recover
import Derived.Lib.Bytealg
import Derived.SizedLaws
import Derived.ChangeArms
import Derived.ChangeSlices
import Derived.Lib.Builder
import Derived.Lib.UnsafeStr
import Derived.Shelf.Strconv.Itoa0
import Derived.Shelf.Strconv.Itoa1
import Derived.Shelf.LaysM
import Derived.Shelf.Strconv.Itoa2
import Derived.Shelf.Strconv.Itoa3
import Derived.Test.YtanimeifmicmoaaDoorRows
import Derived.ProofKit
import Derived.OpenShut
import Derived.ShutString
import Derived.ChangeOld
import Derived.Below
import Derived.JoinedCond
import Derived.SliceStrings
import Derived.Test.YtanimeifmicmoaaDoorCards
import Derived.Test.YtanimeifmicmoaaDoorTie
import Derived.Deep.DeepHandedRow
import Derived.Lib.LaidTab
import Derived.Test.YtanimeifmicmoaaDoorKl3
set_option linter.unusedSimpArgs false
set_option linter.unusedVariables false
set_option maxRecDepth 100000
set_option linter.unusedSimpArgs false
set_option linter.unusedVariables false
set_option maxRecDepth 100000
namespace Go.Proofs.YtanimeifmicmoaaDoor
open Go Go.Vc Go.RowKit Go.Proofs

def exMk : Ex := ⟨99, 7, [109, 97, 114, 107], [], 0, 0, 0⟩
def MarkW (w : World) : Prop := ∃ T fr, w.heap[0]? = some (.cells (exV exMk).toArray T fr)
theorem MarkW.only {w w' : World} {F : Nat → Prop} (h : MarkW w) (ho : Only F w w') (hn : ¬ F 0) : MarkW w' := by
  obtain ⟨T, fr, h⟩ := h
  exact ⟨T, fr, ho.blk h hn⟩
theorem MarkW.ext {w w' : World} (h : MarkW w) (ho : Ext w w') : MarkW w' := h.only ho (fun h => h)
theorem MarkW.lt {w : World} (h : MarkW w) : 0 < w.heap.size := by
  obtain ⟨T, fr, h⟩ := h
  exact (Array.getElem?_eq_some_iff.1 h).1
theorem MarkW.cells {w : World} (h : MarkW w) : Cells w 0 0 (exV exMk) := by
  obtain ⟨T, fr, h⟩ := h
  exact Cells.of h 0 _ (by simp)
abbrev rowQ (D : List Df) (j : Nat) : List Value := exs (tyD D j) ++ exV exMk
structure Lend (w : World) (H : Nat) (D : List Df) (gv : Value) (W : Nat → Value) : Prop where
  row : w.ownsRow H 34 3 gv D.length (drows D (fun j => shr (W j)))
  tys : Many w H 36 7 D.length W (lenM D) (rowQ D)
theorem Lend.only {w w' : World} {H : Nat} {D : List Df} {gv : Value} {W : Nat → Value} {F : Nat → Prop} (h : Lend w H D gv W) (ho : Only F w w') (hn : ∀ k, DF gv W D.length k → ¬ F k) : Lend w' H D gv W :=
  ⟨own_only h.row ho (fun k hk => hn k (.inl hk)), h.tys.only ho (fun j hj k hk => hn k (.inr ⟨j, hj, hk⟩))⟩
theorem Lend.ext {w w' : World} {H : Nat} {D : List Df} {gv : Value} {W : Nat → Value} (h : Lend w H D gv W) (ho : Ext w w') : Lend w' H D gv W := h.only ho (fun _ _ h => h)
theorem Lend.defs {w : World} {H : Nat} {D : List Df} {gv : Value} {W : Nat → Value} (h : Lend w H D gv W) : Defs w H D gv (fun j => shr (W j)) :=
  ⟨h.row, ⟨fun j hj => own_shr (h.tys.row j hj) (exs_len _), fun i j hi hj hij k hk => by rw [shr_blk] at hk ⊢; exact h.tys.off i j hi hj hij k hk⟩⟩
theorem own_new0 {w : World} {el s : Nat} : (w.alloc (.cells #[] el)).ownsRow w.heap.size el s (.slice (some ⟨w.heap.size, 0, none⟩) 0 0) 0 [] :=
  ⟨by simp, .inr ⟨w.heap.size, 0, #[], rfl, Nat.le_refl _, heap_alloc_new w _, Nat.le_refl _, by decide, by simp, by simp⟩⟩
theorem own_of0 {w : World} {el s b m : Nat} (h : w.heap[b]? = some (.cells #[] el (0, 0))) (hb : m ≤ b) : w.ownsRow m el s (.slice (some ⟨b, 0, none⟩) 0 0) 0 [] :=
  ⟨by simp, .inr ⟨b, 0, #[], rfl, hb, h, Nat.le_refl _, by decide, by simp, by simp⟩⟩
/-- a row without room, made longer: nothing that was is written -/
theorem ext_of0 {w w' : World} {el s b m : Nat} (hs : 0 < s) (h : w.heap[b]? = some (.cells #[] el (0, 0))) (ho : Only (fun k => (Value.slice (some ⟨b, 0, none⟩) 0 0).ownBlock = some k) w w') (hr : w'.ownsRow m el s (.slice (some ⟨b, 0, none⟩) 0 0) 0 []) : Ext w w' := by
  have hb : w'.heap[b]? = some (.cells #[] el (0, 0)) := by
    obtain ⟨cap, cur, hv, -, hB, -, -, hcs, -⟩ := own_blk hr (g := b) rfl
    cases hv
    have : cur = #[] := by rw [← Array.size_eq_zero_iff, hcs]; simp
    rw [this] at hB; exact hB
  refine ⟨ho.os, ho.tape, ho.output, ho.size, fun k hk _ => ?_⟩
  by_cases e : k = b
  · subst e; rw [h, hb]
  · exact ho.block k hk (fun he => e (by simpa [Value.ownBlock] using he.symm))
theorem drowsK_snoc (D : List Df) (V : Nat → Value) {k : Nat} (v : Value) (hk : k < D.length) : drowsK D (fun j => if j = k then v else V j) (k + 1) = drowsK D V k ++ dcell D[k] v := by
  rw [drowsK_succ, getD_at hk]
theorem lend_snoc {w : World} {H : Nat} {D : List Df} {k m : Nat} {W : Nat → Value} {v : Value} (h : Many w H 36 7 k W (lenM D) (rowQ D)) (hr : w.ownsRow m 36 7 v (lenM D k) (rowQ D k)) (hm : H ≤ m) (hlt : ∀ j, j < k → ∀ b, (W j).ownBlock = some b → b < m) : Many w H 36 7 (k + 1) (fun j => if j = k then v else W j) (lenM D) (rowQ D) := Many.snocG h hr hm hlt rfl rfl

set_option maxHeartbeats 4000000 in
theorem copied_spec (D : List Df) (dv : Value) (V : Nat → Value) (w0 : World) (hD0 : DefR w0 D dv V) (hlim : DOk D) (hMk : MarkW w0) : Ca Tryd.prog 8 #[.agg #[dv]] w0 (fun r w' => ∃ gv U kv W, r = .tuple #[.agg #[gv], .agg #[kv]] ∧ Lend w' w0.heap.size D gv U ∧ Defs w' w0.heap.size D kv W ∧ Ext w0 w') := by
  obtain ⟨BB, hBB⟩ : ∃ B, B = w0.heap.size := ⟨_, rfl⟩
  rw [← hBB]
  have hlen := hlim.len
  have hmk0 := hMk.lt
  refine Ca.of Tryd.func8 Tryd.ntmps8 rfl rfl ?_
  refine W.seq ?_
  refine W.region ?_
  refine WL.c rfl (o_boxB rfl ?_)
  intro w1 hC1 hx1 hs1
  have hx := hx1
  replace hC1 : w1.heap[w0.heap.size]? = some (.cells #[dv] 24 (0, 0)) := hC1
  obtain ⟨c1, hc1⟩ : ∃ c, c = w0.heap.size := ⟨_, rfl⟩
  rw [← hc1] at hC1 ⊢
  refine WL.c rfl (o_alB TI24 ?_)
  intro w2 hC2 hx2 hs2
  replace hC2 : w2.heap[w1.heap.size]? = some (.cells #[.slice none 0 0] 24 (0, 0)) := hC2
  obtain ⟨c2, hc2⟩ : ∃ c, c = w1.heap.size := ⟨_, rfl⟩
  rw [← hc2] at hC2 ⊢
  replace hx := hx.tr hx2
  replace hC1 := hx2.blk hC1 (fun h => h)
  refine WL.c rfl (o_alB TI24 ?_)
  intro w3 hC3 hx3 hs3
  replace hC3 : w3.heap[w2.heap.size]? = some (.cells #[.slice none 0 0] 24 (0, 0)) := hC3
  obtain ⟨c3, hc3⟩ : ∃ c, c = w2.heap.size := ⟨_, rfl⟩
  rw [← hc3] at hC3 ⊢
  replace hx := hx.tr hx3
  replace hC1 := hx3.blk hC1 (fun h => h)
  replace hC2 := hx3.blk hC2 (fun h => h)
  refine WL.nil ?_
  refine W.seq ?_
  refine W.region ?_
  refine WL.c rfl (o_alB TI24 ?_)
  intro w4 hC4 hx4 hs4
  replace hC4 : w4.heap[w3.heap.size]? = some (.cells #[.slice none 0 0] 24 (0, 0)) := hC4
  obtain ⟨c4, hc4⟩ : ∃ c, c = w3.heap.size := ⟨_, rfl⟩
  rw [← hc4] at hC4 ⊢
  replace hx := hx.tr hx4
  replace hC1 := hx4.blk hC1 (fun h => h)
  replace hC2 := hx4.blk hC2 (fun h => h)
  replace hC3 := hx4.blk hC3 (fun h => h)
  refine WL.c rfl (o_alB TI24 ?_)
  intro w5 hC5 hx5 hs5
  replace hC5 : w5.heap[w4.heap.size]? = some (.cells #[.slice none 0 0] 24 (0, 0)) := hC5
  obtain ⟨c5, hc5⟩ : ∃ c, c = w4.heap.size := ⟨_, rfl⟩
  rw [← hc5] at hC5 ⊢
  replace hx := hx.tr hx5
  replace hC1 := hx5.blk hC1 (fun h => h)
  replace hC2 := hx5.blk hC2 (fun h => h)
  replace hC3 := hx5.blk hC3 (fun h => h)
  replace hC4 := hx5.blk hC4 (fun h => h)
  have hb1 : BB ≤ c1 ∧ c1 < c2 ∧ c2 < c3 ∧ c3 < c4 ∧ c4 < c5 := by omega
  clear hs1 hs2 hs3 hs4 hs5 hc1 hc2 hc3 hc4 hc5 hx1 hx2 hx3 hx4 hx5
  refine WL.nil ?_
  refine W.seq ?_
  refine W.seq ?_
  refine W.region ?_
  refine WL.c rfl (o_ash (show _ = Value.int _ _ from rfl) ?_)
  refine WL.nil ?_
  refine W.block ?_
  refine W.loop (fun e w => ∃ (k : Nat) (gv : Value) (U : Nat → Value) (kv : Value) (KW : Nat → Value), k ≤ D.length ∧ e 1 = .pointer (some ⟨c1, 0, none⟩) ∧ e 2 = .pointer (some ⟨c2, 0, none⟩) ∧ e 3 = .pointer (some ⟨c3, 0, none⟩) ∧ e 4 = .pointer (some ⟨c4, 0, none⟩) ∧ e 5 = .pointer (some ⟨c5, 0, none⟩) ∧ e 6 = .int .i64 (k : Int) ∧ w.heap[c1]? = some (.cells #[dv] 24 (0, 0)) ∧ w.heap[c2]? = some (.cells #[.slice none 0 0] 24 (0, 0)) ∧ w.heap[c3]? = some (.cells #[.slice none 0 0] 24 (0, 0)) ∧ w.heap[c4]? = some (.cells #[gv] 24 (0, 0)) ∧ w.heap[c5]? = some (.cells #[kv] 24 (0, 0)) ∧ w.ownsRow BB 34 3 gv k (drowsK D (fun j => shr (U j)) k) ∧ Many w BB 36 7 k U (lenM D) (rowQ D) ∧ w.ownsRow BB 34 3 kv k (drowsK D KW k) ∧ Many w BB 36 7 k KW (fun j => (tyD D j).length) (fun j => exs (tyD D j)) ∧ Dj gv kv ∧ Ext w0 w) (fun e w => D.length - (intOf (e 6)).toNat) ?_ ?_
  · exact ⟨0, .slice none 0 0, fun _ => undef, .slice none 0 0, fun _ => undef, Nat.zero_le _, rfl, rfl, rfl, rfl, rfl, rfl, hC1, hC2, hC3, hC4, hC5, World.ownsRow_nil _ _ _ _, Many.zero, World.ownsRow_nil _ _ _ _, Many.zero, Dj.none, hx⟩
  rintro e w ⟨k, gv, U, kv, KW, hk, h1, h2, h3, h4, h5, h6, hC1, hC2, hC3, hC4, hC5, hrow, htys, krow, ktys, hDj, hx⟩
  have hm6 := h6
  refine W.seq ?_
  refine W.seq ?_
  refine W.region ?_
  refine WL.c rfl (o_mvh h6 ?_)
  refine WL.c rfl (o_fa 0 TI24 rfl TI22 rfl h1 ?_)
  refine WL.c rfl (o_ld TI22 rfl rfl (cell_of hC1 rfl) ?_)
  refine WL.c rfl (o_lenR TI22 rfl (hD0.ext hx).row ?_)
  refine WL.c rfl (o_lt rfl rfl ?_)
  refine WL.nil ?_
  refine W.cond rfl (fun c13 => ?_) (fun c13 => ?_)
  · try simp only [decide_eq_true_eq, decide_eq_false_iff_not, Bool.not_eq_true', Bool.not_eq_false', Bool.and_eq_true, Bool.or_eq_true, Bool.and_eq_false_iff, Bool.or_eq_false_iff] at c13
    have hk1 : k < D.length := by omega
    have hrlt7 : ∀ b, gv.ownBlock = some b → b < w.heap.size := fun b hb => (hrow.lt b hb).2
    obtain ⟨tb, to_, tc, rfl, htc, hty⟩ := (hD0.ext hx).atk hk1
    have htl := hlim.ty _ (List.getElem_mem hk1)
    refine W.skip ?_
    refine W.seq ?_
    refine W.block ?_
    refine W.seq ?_
    refine W.region ?_
    refine WL.c rfl (o_fa 0 TI24 rfl TI22 rfl h1 ?_)
    refine WL.c rfl (o_ld TI22 rfl rfl (cell_of hC1 rfl) ?_)
    refine WL.c rfl (o_mvh h6 ?_)
    refine WL.c rfl (o_ixB TI22 TI34 rfl rfl (by omega) ?_)
    refine WL.c rfl (o_ldA TI34 rfl rfl htc rfl ?_)
    refine WL.c rfl (o_alB TI34 ?_)
    intro wa hCa hxa hsa
    refine WL.u (o_stA TI34 rfl (show _ = Value.agg (dcell D[k] (V k)).toArray from rfl) rfl (by simp only [dcell, List.toArray, Array.toList, List.all_cons, List.all_nil, sl_one1 hty]; rfl) hCa rfl ?_)
    intro wb7 hC7 hob hsb
    have hxb := Ext.own hxa (Nat.le_refl _) hob
    obtain ⟨b7, hb7⟩ : ∃ b, b = w.heap.size := ⟨_, rfl⟩
    rw [← hb7] at hC7 ⊢
    clear hCa hxa hsa hob hsb
    replace hx := hx.tr hxb
    replace hC1 := hxb.blk hC1 (fun h => h)
    replace hC2 := hxb.blk hC2 (fun h => h)
    replace hC3 := hxb.blk hC3 (fun h => h)
    replace hC4 := hxb.blk hC4 (fun h => h)
    replace hC5 := hxb.blk hC5 (fun h => h)
    replace hrow := own_ext hrow hxb
    replace krow := own_ext krow hxb
    replace htys := htys.ext hxb
    replace ktys := ktys.ext hxb
    replace hty := hty.ext hxb
    clear hxb
    refine WL.nil ?_
    refine W.seq ?_
    refine W.region ?_
    refine WL.c rfl (o_bs0 TI32 TI36 ?_)
    have hown21 := own_new0 (w := wb7) (el := 36) (s := 7)
    have hB21 := heap_alloc_new wb7 (.cells #[] 36)
    have hxl := Only.alloc wb7 (.cells #[] 36)
    have hsl : (wb7.alloc (.cells #[] 36)).heap.size = wb7.heap.size + 1 := by show (Array.push _ _).size = _; simp
    generalize wb7.alloc (.cells #[] 36) = w21 at hown21 hB21 hxl hsl ⊢
    obtain ⟨m7, hm7⟩ : ∃ m, m = wb7.heap.size := ⟨_, rfl⟩
    rw [← hm7] at hown21 hB21 hsl ⊢
    have htl2 : ∀ j, j < k → ∀ b, (U j).ownBlock = some b → b < m7 := fun j hj b hb => by rw [hm7]; exact (htys.lt hj hb).2
    have ktl2 : ∀ j, j < k → ∀ b, (KW j).ownBlock = some b → b < m7 := fun j hj b hb => by rw [hm7]; exact (ktys.lt hj hb).2
    have hBm : BB ≤ m7 := by rw [hm7, hBB]; exact hx.size
    replace hx := hx.tr hxl
    replace hC1 := hxl.blk hC1 (fun h => h)
    replace hC2 := hxl.blk hC2 (fun h => h)
    replace hC3 := hxl.blk hC3 (fun h => h)
    replace hC4 := hxl.blk hC4 (fun h => h)
    replace hC5 := hxl.blk hC5 (fun h => h)
    replace hrow := own_ext hrow hxl
    replace krow := own_ext krow hxl
    replace htys := htys.ext hxl
    replace ktys := ktys.ext hxl
    replace hty := hty.ext hxl
    replace hC7 := hxl.blk hC7 (fun h => h)
    clear hxl
    refine WL.c rfl (o_fa 2 TI34 rfl TI32 rfl rfl ?_)
    refine WL.c rfl (o_ld TI32 rfl rfl (cell_of hC7 rfl) ?_)
    refine WL.c rfl (o_apO (m7) TI32 TI36 (show _ = Value.slice _ _ _ from rfl) rfl hown21 hty rfl (by decide) (one_exs _) (by rw [maxLen_eq]; omega) (by omega) (by omega) ?_)
    intro v24 w24 hown24 ho24 hb24 hk24
    rw [Nat.zero_add, List.nil_append] at hown24
    have hx24 : Ext w21 w24 := ext_of0 (by decide) hB21 ho24 hk24.1
    clear ho24 hb24 hk24 hown21 hB21
    replace hx := hx.tr hx24
    replace hC1 := hx24.blk hC1 (fun h => h)
    replace hC2 := hx24.blk hC2 (fun h => h)
    replace hC3 := hx24.blk hC3 (fun h => h)
    replace hC4 := hx24.blk hC4 (fun h => h)
    replace hC5 := hx24.blk hC5 (fun h => h)
    replace hrow := own_ext hrow hx24
    replace krow := own_ext krow hx24
    replace htys := htys.ext hx24
    replace ktys := ktys.ext hx24
    replace hty := hty.ext hx24
    replace hC7 := hx24.blk hC7 (fun h => h)
    have hz24 := hx24.size
    refine WL.c rfl (o_ash (by first | exact (show _ = Value.slice _ _ _ from rfl) | exact rfl) ?_)
    refine WL.nil ?_
    refine W.seq ?_
    refine W.region ?_
    refine WL.c rfl (o_mvh (by first | exact (show _ = Value.slice _ _ _ from rfl) | exact rfl) ?_)
    refine WL.c rfl (o_ldA TI36 rfl rfl (hMk.ext hx).cells rfl ?_)
    refine WL.apO (m7) rfl rfl TI32 TI36 (show _ = Value.agg (exV exMk).toArray from rfl) rfl hown24 (by decide) (by decide) rfl (fun a ha => List.all_eq_true.1 (show List.all _ (fun a => a.oneCell') = true from rfl) a ha) rfl (by rw [maxLen_eq]; omega) (by omega) (by omega) ?_
    intro v28 w28 hown28 ho28 hb28 _
    replace hown28 : w28.ownsRow m7 36 7 v28 (D[k].ty.length + 1) (exs D[k].ty ++ exV exMk) := hown28
    replace ho28 : Only (fun k => v24.ownBlock = some k) w24 w28 := ho28
    have hlt24 : ∀ b, v24.ownBlock = some b → m7 ≤ b := fun b hb => (hown24.lt b hb).1
    replace hC1 := ho28.blk hC1 (fun he => own_off hown24 hC1 (by decide) he)
    replace hC2 := ho28.blk hC2 (fun he => own_off hown24 hC2 (by decide) he)
    replace hC3 := ho28.blk hC3 (fun he => own_off hown24 hC3 (by decide) he)
    replace hC4 := ho28.blk hC4 (fun he => own_off hown24 hC4 (by decide) he)
    replace hC5 := ho28.blk hC5 (fun he => own_off hown24 hC5 (by decide) he)
    replace hC7 := ho28.blk hC7 (fun he => own_off hown24 hC7 (by decide) he)
    replace hrow := own_only hrow ho28 (own_row_off hown24 hrow (by decide))
    replace krow := own_only krow ho28 (own_row_off hown24 krow (by decide))
    replace htys := htys.only ho28 (fun j hj b hb hF => by have := hlt24 b hF; have := htl2 j hj b hb; omega)
    replace ktys := ktys.only ho28 (fun j hj b hb hF => by have := hlt24 b hF; have := ktl2 j hj b hb; omega)
    replace hty := (hD0.ext (hx.trans' ho28 (fun _ h => h) (fun b hb he => by have := hlt24 b he; omega))).tys k hk1
    rw [tyD_at hk1] at hty
    replace hx := hx.trans' ho28 (fun _ h => h) (fun b hb he => by have := hlt24 b he; omega)
    have hz28 := ho28.size
    clear ho28 hb28 hown24 hx24
    obtain ⟨g, cap, rfl, hgb⟩ := own_some hown28 (by omega)
    refine WL.c rfl (o_ash (by first | exact (show _ = Value.slice _ _ _ from rfl) | exact rfl) ?_)
    refine WL.nil ?_
    refine W.seq ?_
    obtain ⟨wd, hwd⟩ : ∃ wd, wd = w28.drew := ⟨_, rfl⟩
    have hxd : Ext w28 wd := hwd ▸ Only.drew w28
    replace hx := hx.tr hxd
    replace hC1 := hxd.blk hC1 (fun h => h)
    replace hC2 := hxd.blk hC2 (fun h => h)
    replace hC3 := hxd.blk hC3 (fun h => h)
    replace hC4 := hxd.blk hC4 (fun h => h)
    replace hC5 := hxd.blk hC5 (fun h => h)
    replace hrow := own_ext hrow hxd
    replace krow := own_ext krow hxd
    replace htys := htys.ext hxd
    replace ktys := ktys.ext hxd
    replace hty := hty.ext hxd
    replace hC7 := hxd.blk hC7 (fun h => h)
    replace hown28 := own_ext hown28 hxd
    have hzd := hxd.size
    refine W.drawT 13 (Ext) [(1, fun v _ => v = _), (2, fun v _ => v = _), (3, fun v _ => v = _), (4, fun v _ => v = _), (5, fun v _ => v = _), (6, fun v _ => v = _), (7, fun v _ => v = _), (8, fun v _ => v = _)] rfl (by kernel_rfl) (Only.refl No) (fun _ _ _ h k => h.trans k) ⟨Mono.eq, Mono.eq, Mono.eq, Mono.eq, Mono.eq, Mono.eq, Mono.eq, Mono.eq, trivial⟩ ⟨h1, h2, h3, h4, h5, h6, rfl, rfl, trivial⟩ ?_
    refine WD.p rfl (fun e w hR hh => by obtain ⟨h4, -⟩ := hh; exact SG.n (o_fa 0 TI24 rfl TI22 rfl h4 ⟨rfl, Only.refl No _⟩)) ?_
    refine WD.p rfl (fun e w hR hh => by obtain ⟨h29, -⟩ := hh; rw [← hwd] at hR; exact SG.n (o_ld TI22 rfl h29 (cell_of (hR.blk hC4 (fun h => h)) rfl) ⟨rfl, Only.refl No _⟩)) ?_
    refine WD.p rfl (fun e w hR hh => by obtain ⟨h7, -⟩ := hh; exact SG.n (o_fa 0 TI34 rfl TI9 rfl h7 ⟨rfl, Only.refl No _⟩)) ?_
    refine WD.p rfl (fun e w hR hh => by obtain ⟨h31, -⟩ := hh; rw [← hwd] at hR; exact SG.n (o_ld TI9 rfl h31 (cell_of (hR.blk hC7 (fun h => h)) rfl) ⟨rfl, Only.refl No _⟩)) ?_
    refine WD.p rfl (fun e w hR hh => by obtain ⟨h7, -⟩ := hh; exact SG.n (o_fa 1 TI34 rfl TI3 rfl h7 ⟨rfl, Only.refl No _⟩)) ?_
    refine WD.p rfl (fun e w hR hh => by obtain ⟨h33, -⟩ := hh; rw [← hwd] at hR; exact SG.n (o_ld TI3 rfl h33 (cell_of (hR.blk hC7 (fun h => h)) rfl) ⟨rfl, Only.refl No _⟩)) ?_
    refine WD.p rfl (fun e w hR hh => by obtain ⟨h8, -⟩ := hh; exact SG.n (o_mvh h8 ⟨rfl, Only.refl No _⟩)) ?_
    refine WD.p rfl (fun e w hR hh => by obtain ⟨h7, -⟩ := hh; exact SG.n (o_fa 2 TI34 rfl TI32 rfl h7 ⟨rfl, Only.refl No _⟩)) ?_
    refine WD.p rfl (fun e w hR hh => by obtain ⟨h36, -⟩ := hh; rw [← hwd] at hR; exact SG.n (o_ld TI32 rfl h36 (cell_of (hR.blk hC7 (fun h => h)) rfl) ⟨rfl, Only.refl No _⟩)) ?_
    refine WD.p rfl (fun e w hR hh => by obtain ⟨h37, -⟩ := hh; rw [← hwd] at hR; exact SG.n (o_lenR TI32 h37 (hty.ext hR) ⟨rfl, Only.refl No _⟩)) ?_
    refine WD.p rfl (fun e w hR hh => by obtain ⟨h38, h35, -⟩ := hh; exact SG.n (o_slv (h := D[k].ty.length) TI32 TI36 h35 Lo.n (Hi.s h38) (Nat.zero_le _) (by obtain ⟨_, _, hv, hh⟩ := own_form hown28; cases hv; omega) ⟨sliced0 _ _ _ _, Only.refl No _⟩)) ?_
    refine WD.p rfl (fun e w hR hh => by obtain ⟨h39, h34, h32, -⟩ := hh; exact SG.n (o_bldC (cs := [_, _, _]) TI34 (Sizes.cons TI9 (Sizes.cons TI3 (Sizes.cons TI32 Sizes.nil))) rfl (lcp h32 (lcp h34 (lcp h39 lnp))) rfl rfl ⟨rfl, Only.refl No _⟩)) ?_
    refine WD.q (fun u w => w.ownsRow wd.heap.size 34 3 u 1 (dcell D[k] (.slice (some ⟨g, 0, none⟩) D[k].ty.length cap))) (fun u w w2 hR hh => own_ext hh hR) rfl (fun e w hR hh => by obtain ⟨h40, -⟩ := hh; rw [← hwd] at hR; exact SG.n (o_bs1 TI22 TI34 h40 (by decide) (by decide) rfl ⟨own_mono (own_new1 rfl) hR.size, Only.alloc w _⟩)) ?_
    rintro e w hR ⟨h41, h40, h39, h38, h37, h36, h35, h34, h33, h32, h31, h30, h29, h1, h2, h3, h4, h5, h6, h7, h8, -⟩
    rw [← hwd] at hR
    replace hx := hx.tr hR
    replace hC1 := hR.blk hC1 (fun h => h)
    replace hC2 := hR.blk hC2 (fun h => h)
    replace hC3 := hR.blk hC3 (fun h => h)
    replace hC4 := hR.blk hC4 (fun h => h)
    replace hC5 := hR.blk hC5 (fun h => h)
    replace hrow := own_ext hrow hR
    replace krow := own_ext krow hR
    replace htys := htys.ext hR
    replace ktys := ktys.ext hR
    replace hty := hty.ext hR
    replace hC7 := hR.blk hC7 (fun h => h)
    replace hown28 := own_ext hown28 hR
    have hzR8 := hR.size
    refine WL.c rfl (o_apO (BB) TI22 TI34 h30 rfl hrow (Sl.own h41) rfl (by decide) (by simp [dcell, Value.oneCell', st]) (by rw [maxLen_eq]; omega) (by omega) (by rw [hBB]; exact hx.size) ?_)
    intro v42 w42 hrow42 ho42 hb42 _
    have hrl : ∀ b, gv.ownBlock = some b → BB ≤ b := fun b hb => (hrow.lt b hb).1
    have hkl : ∀ b, kv.ownBlock = some b → b < w.heap.size := fun b hb => (krow.lt b hb).2
    replace hC1 := ho42.blk hC1 (fun he => own_off hrow hC1 (by decide) he)
    replace hC2 := ho42.blk hC2 (fun he => own_off hrow hC2 (by decide) he)
    replace hC3 := ho42.blk hC3 (fun he => own_off hrow hC3 (by decide) he)
    replace hC4 := ho42.blk hC4 (fun he => own_off hrow hC4 (by decide) he)
    replace hC5 := ho42.blk hC5 (fun he => own_off hrow hC5 (by decide) he)
    replace hC7 := ho42.blk hC7 (fun he => by have := hrlt7 _ he; omega)
    replace htys := htys.other hrow (by decide) ho42
    replace ktys := ktys.other hrow (by decide) ho42
    replace hown28 := own_only hown28 ho42 (fun b hb hF => own_row_off hrow hown28 (by decide) b hb hF)
    replace krow := own_only krow ho42 hDj.symm
    have hDj1 : Dj v42 kv := hDj.step hb42 hkl
    replace hx := hx.trans' ho42 (fun _ h => h) (fun b hb he => by have := hrl b he; omega)
    have hz42 := ho42.size
    clear hrow ho42 hb42
    refine WL.c rfl (o_fa 0 TI24 rfl TI22 rfl h4 ?_)
    refine WL.u (o_stB TI22 rfl (show _ = v42 from rfl) (own_one hrow42) hC4 (show 0 < 1 by decide) ?_)
    intro w43 hC4n ho43 hs43
    replace hrow42 := own_only hrow42 ho43 (fun b hb he => by subst he; exact own_off hrow42 hC4 (by decide) hb)
    replace krow := own_only krow ho43 (fun b hb he => by subst he; exact own_off krow hC4 (by decide) hb)
    replace htys := htys.only ho43 (fun j hj b hb he => by subst he; exact own_off (htys.row j hj) hC4 (by decide) hb)
    replace ktys := ktys.only ho43 (fun j hj b hb he => by subst he; exact own_off (ktys.row j hj) hC4 (by decide) hb)
    replace hown28 := own_only hown28 ho43 (fun b hb he => by subst he; exact own_off hown28 hC4 (by decide) hb)
    replace hC1 := ho43.blk hC1 (by omega)
    replace hC2 := ho43.blk hC2 (by omega)
    replace hC3 := ho43.blk hC3 (by omega)
    replace hC5 := ho43.blk hC5 (by omega)
    have h47 : c4 ≠ b7 := fun he => by rw [← he] at hC7; rw [hC4] at hC7; simp only [Option.some.injEq, Obj.cells.injEq] at hC7; exact absurd hC7.2.1 (by decide)
    replace hC7 := ho43.blk hC7 (fun he => h47 he.symm)
    replace hC4 : w43.heap[c4]? = some (.cells #[v42] 24 (0, 0)) := hC4n
    replace hx := hx.trans' ho43 (fun _ h => h) (fun b hb he => by omega)
    have hty43 := (hD0.ext hx).tys k hk1
    rw [tyD_at hk1] at hty43
    have htys3 := lend_snoc (D := D) htys (by rw [lenM, rowQ, tyD_at hk1]; exact hown28) hBm htl2
    clear htys hown28 ho43 hC4n hty
    have htys := htys3
    have hrow := hrow42
    have hty := hty43
    clear htys3 hrow42 hty43
    refine WL.nil ?_
    obtain ⟨we, hwe⟩ : ∃ we, we = w43.drew := ⟨_, rfl⟩
    have hxe : Ext w43 we := hwe ▸ Only.drew w43
    replace hx := hx.tr hxe
    replace hC1 := hxe.blk hC1 (fun h => h)
    replace hC2 := hxe.blk hC2 (fun h => h)
    replace hC3 := hxe.blk hC3 (fun h => h)
    replace hC4 := hxe.blk hC4 (fun h => h)
    replace hC5 := hxe.blk hC5 (fun h => h)
    replace hrow := own_ext hrow hxe
    replace krow := own_ext krow hxe
    replace htys := htys.ext hxe
    replace ktys := ktys.ext hxe
    replace hty := hty.ext hxe
    replace hC7 := hxe.blk hC7 (fun h => h)
    have hze := hxe.size
    have hDj := hDj1
    refine W.drawT 12 (Ext) [(1, fun v _ => v = _), (2, fun v _ => v = _), (3, fun v _ => v = _), (4, fun v _ => v = _), (5, fun v _ => v = _), (6, fun v _ => v = _), (7, fun v _ => v = _)] rfl (by kernel_rfl) (Only.refl No) (fun _ _ _ h k => h.trans k) ⟨Mono.eq, Mono.eq, Mono.eq, Mono.eq, Mono.eq, Mono.eq, Mono.eq, trivial⟩ ⟨h1, h2, h3, h4, h5, h6, h7, trivial⟩ ?_
    refine WD.p rfl (fun e w hR hh => by obtain ⟨h5, -⟩ := hh; exact SG.n (o_fa 0 TI24 rfl TI22 rfl h5 ⟨rfl, Only.refl No _⟩)) ?_
    refine WD.p rfl (fun e w hR hh => by obtain ⟨h44, -⟩ := hh; rw [← hwe] at hR; exact SG.n (o_ld TI22 rfl h44 (cell_of (hR.blk hC5 (fun h => h)) rfl) ⟨rfl, Only.refl No _⟩)) ?_
    refine WD.p rfl (fun e w hR hh => by obtain ⟨h7, -⟩ := hh; exact SG.n (o_fa 0 TI34 rfl TI9 rfl h7 ⟨rfl, Only.refl No _⟩)) ?_
    refine WD.p rfl (fun e w hR hh => by obtain ⟨h46, -⟩ := hh; rw [← hwe] at hR; exact SG.n (o_ld TI9 rfl h46 (cell_of (hR.blk hC7 (fun h => h)) rfl) ⟨rfl, Only.refl No _⟩)) ?_
    refine WD.p rfl (fun e w hR hh => by obtain ⟨h7, -⟩ := hh; exact SG.n (o_fa 1 TI34 rfl TI3 rfl h7 ⟨rfl, Only.refl No _⟩)) ?_
    refine WD.p rfl (fun e w hR hh => by obtain ⟨h48, -⟩ := hh; rw [← hwe] at hR; exact SG.n (o_ld TI3 rfl h48 (cell_of (hR.blk hC7 (fun h => h)) rfl) ⟨rfl, Only.refl No _⟩)) ?_
    refine WD.q (fun u w => ∃ b, we.heap.size ≤ b ∧ u = .slice (some ⟨b, 0, none⟩) 0 0 ∧ w.heap[b]? = some (.cells #[] 36 (0, 0))) (fun u w w2 hR hh => by obtain ⟨b, a1, a2, a3⟩ := hh; exact ⟨b, a1, a2, hR.blk a3 (fun h => h)⟩) rfl (fun e w hR hh => by skip; rw [← hwe] at hR; exact SG.n (o_bs0 TI32 TI36 ⟨⟨_, hR.size, rfl, heap_alloc_new _ _⟩, Only.alloc _ _⟩)) ?_
    refine WD.p rfl (fun e w hR hh => by obtain ⟨h7, -⟩ := hh; exact SG.n (o_fa 2 TI34 rfl TI32 rfl h7 ⟨rfl, Only.refl No _⟩)) ?_
    refine WD.p rfl (fun e w hR hh => by obtain ⟨h51, -⟩ := hh; rw [← hwe] at hR; exact SG.n (o_ld TI32 rfl h51 (cell_of (hR.blk hC7 (fun h => h)) rfl) ⟨rfl, Only.refl No _⟩)) ?_
    refine WD.q (fun u w => w.ownsRow we.heap.size 36 7 u D[k].ty.length (exs D[k].ty)) (fun u w w2 hR hh => own_ext hh hR) rfl (fun e w hR hh => by obtain ⟨h52, h50, -⟩ := hh; rw [← hwe] at hR; obtain ⟨b5, q1, q2, q3⟩ := h50; exact SG.n (o_apO (we.heap.size) TI32 TI36 q2 h52 (own_of0 q3 q1) (hty.ext hR) rfl (by decide) (one_exs _) (by rw [maxLen_eq]; omega) (by omega) hR.size (fun v1 w1 a1 a2 a3 a4 => ⟨by rw [Nat.zero_add, List.nil_append] at a1; exact a1, ext_of0 (by decide) q3 a2 a4.1⟩))) ?_
    refine WD.q (fun u w => ∃ kk, u = .agg (dcell D[k] kk).toArray ∧ w.ownsRow we.heap.size 36 7 kk D[k].ty.length (exs D[k].ty)) (fun u w w2 hR hh => by obtain ⟨kk, a1, a2⟩ := hh; exact ⟨kk, a1, own_ext a2 hR⟩) rfl (fun e w hR hh => by obtain ⟨h53, h49, h47, -⟩ := hh; exact SG.n (o_bldC (cs := [_, _, _]) TI34 (Sizes.cons TI9 (Sizes.cons TI3 (Sizes.cons TI32 Sizes.nil))) rfl (lcp h47 (lcp h49 (lcp rfl lnp))) (by simp only [List.all_cons, List.all_nil]; rw [show ev e (.tmp 53) = e 53 from rfl, own_one h53]; rfl) rfl ⟨⟨_, rfl, h53⟩, Only.refl No _⟩)) ?_
    refine WD.q (fun u w => ∃ kk, w.ownsRow we.heap.size 34 3 u 1 (dcell D[k] kk) ∧ w.ownsRow we.heap.size 36 7 kk D[k].ty.length (exs D[k].ty)) (fun u w w2 hR hh => by obtain ⟨kk, a1, a2⟩ := hh; exact ⟨kk, own_ext a1 hR, own_ext a2 hR⟩) rfl (fun e w hR hh => by obtain ⟨h54, -⟩ := hh; rw [← hwe] at hR; obtain ⟨kk, q1, q2⟩ := h54; exact SG.n (o_bs1 TI22 TI34 q1 (by decide) (by decide) rfl ⟨⟨kk, own_mono (own_new1 rfl) hR.size, own_ext q2 (Only.alloc _ _)⟩, Only.alloc w _⟩)) ?_
    rintro e w hR ⟨h55, h54, h53, h52, h51, h50, h49, h48, h47, h46, h45, h44, h1, h2, h3, h4, h5, h6, h7, -⟩
    rw [← hwe] at hR
    replace hx := hx.tr hR
    replace hC1 := hR.blk hC1 (fun h => h)
    replace hC2 := hR.blk hC2 (fun h => h)
    replace hC3 := hR.blk hC3 (fun h => h)
    replace hC4 := hR.blk hC4 (fun h => h)
    replace hC5 := hR.blk hC5 (fun h => h)
    replace hrow := own_ext hrow hR
    replace krow := own_ext krow hR
    replace htys := htys.ext hR
    replace ktys := ktys.ext hR
    replace hty := hty.ext hR
    replace hC7 := hR.blk hC7 (fun h => h)
    obtain ⟨kk, hr55, hkk⟩ := h55
    have hkl5 : ∀ b, v42.ownBlock = some b → b < w.heap.size := fun b hb => (hrow.lt b hb).2
    have hzR := hR.size
    refine WL.c rfl (o_apO (BB) TI22 TI34 h45 rfl krow (Sl.own hr55) rfl (by decide) (by intro a ha; simp only [dcell, List.mem_cons, List.not_mem_nil, or_false] at ha; rcases ha with rfl | rfl | rfl; rfl; rfl; exact own_one hkk) (by rw [maxLen_eq]; omega) (by omega) (by rw [hBB]; exact hx.size) ?_)
    intro v56 w56 krow56 ho56 hb56 _
    have hrl : ∀ b, kv.ownBlock = some b → BB ≤ b := fun b hb => (krow.lt b hb).1
    replace hC1 := ho56.blk hC1 (fun he => own_off krow hC1 (by decide) he)
    replace hC2 := ho56.blk hC2 (fun he => own_off krow hC2 (by decide) he)
    replace hC3 := ho56.blk hC3 (fun he => own_off krow hC3 (by decide) he)
    replace hC4 := ho56.blk hC4 (fun he => own_off krow hC4 (by decide) he)
    replace hC5 := ho56.blk hC5 (fun he => own_off krow hC5 (by decide) he)
    replace htys := htys.other krow (by decide) ho56
    replace ktys := ktys.other krow (by decide) ho56
    replace hkk := own_only hkk ho56 (fun b hb hF => own_row_off krow hkk (by decide) b hb hF)
    replace hrow := own_only hrow ho56 hDj
    have hDj2 : Dj v42 v56 := (hDj.symm.step hb56 hkl5).symm
    replace hx := hx.trans' ho56 (fun _ h => h) (fun b hb he => by have := hrl b he; omega)
    clear krow ho56 hb56
    refine WL.c rfl (o_fa 0 TI24 rfl TI22 rfl h5 ?_)
    refine WL.u (o_stB TI22 rfl (show _ = v56 from rfl) (own_one krow56) hC5 (show 0 < 1 by decide) ?_)
    intro w57 hC5n ho57 hs57
    replace krow56 := own_only krow56 ho57 (fun b hb he => by subst he; exact own_off krow56 hC5 (by decide) hb)
    replace hrow := own_only hrow ho57 (fun b hb he => by subst he; exact own_off hrow hC5 (by decide) hb)
    replace htys := htys.only ho57 (fun j hj b hb he => by subst he; exact own_off (htys.row j hj) hC5 (by decide) hb)
    replace ktys := ktys.only ho57 (fun j hj b hb he => by subst he; exact own_off (ktys.row j hj) hC5 (by decide) hb)
    replace hkk := own_only hkk ho57 (fun b hb he => by subst he; exact own_off hkk hC5 (by decide) hb)
    replace hC1 := ho57.blk hC1 (by omega)
    replace hC2 := ho57.blk hC2 (by omega)
    replace hC3 := ho57.blk hC3 (by omega)
    replace hC4 := ho57.blk hC4 (by omega)
    replace hC5 : w57.heap[c5]? = some (.cells #[v56] 24 (0, 0)) := hC5n
    replace hx := hx.trans' ho57 (fun _ h => h) (fun b hb he => by omega)
    have ktys3 := Many.snocG (X := fun j => exs (tyD D j)) (n := fun j => (tyD D j).length) ktys hkk (by omega) (fun j hj b hb => by have := ktl2 j hj b hb; omega) (by simp only [tyD_at hk1]) (by simp only [tyD_at hk1])
    clear ktys
    have ktys := ktys3
    have krow := krow56
    clear ktys3 krow56
    refine WL.nil ?_
    refine W.region ?_
    refine WL.c rfl (o_mvh h6 ?_)
    refine WL.c rfl (o_addi rfl rfl (by omega) ?_)
    refine WL.c rfl (o_ash (show _ = Value.int _ _ from rfl) ?_)
    refine WL.nil ?_
    refine ⟨⟨k + 1, v42, fun j => if j = k then (.slice (some ⟨g, 0, none⟩) (D[k].ty.length + 1) cap) else U j, v56, fun j => if j = k then kk else KW j, by omega, h1, h2, h3, h4, h5, rfl, hC1, hC2, hC3, hC4, hC5, ?_, htys, ?_, ktys, hDj2, hx⟩, ?_⟩
    · rw [show (fun j => shr (if j = k then (.slice (some ⟨g, 0, none⟩) (D[k].ty.length + 1) cap) else U j)) = (fun j => if j = k then shr (.slice (some ⟨g, 0, none⟩) (D[k].ty.length + 1) cap) else (fun j => shr (U j)) j) from by funext j; split <;> rfl, drowsK_snoc _ _ _ hk1]
      exact hrow
    · rw [drowsK_snoc _ _ _ hk1]; exact krow
    · show D.length - ((k : Int) + 1).toNat < _
      rw [hm6]; simp [intOf]; omega
  · try simp only [decide_eq_true_eq, decide_eq_false_iff_not, Bool.not_eq_true', Bool.not_eq_false', Bool.and_eq_true, Bool.or_eq_true, Bool.and_eq_false_iff, Bool.or_eq_false_iff] at c13
    have hk1 : k = D.length := by omega
    subst hk1
    refine W.exit ?_
    refine W.seq ?_
    refine W.cut (fun e1 w1 => ∃ ww, Ext w0 ww ∧ w1.heap[c2]? = some (.cells #[gv] 24 (0, 0)) ∧ w1.heap[c3]? = some (.cells #[kv] 24 (0, 0)) ∧ e1 2 = .pointer (some ⟨c2, 0, none⟩) ∧ e1 3 = .pointer (some ⟨c3, 0, none⟩) ∧ Lend w1 BB D gv U ∧ Defs w1 BB D kv KW ∧ Ext w0 w1) ?_ ?_
    · -- region 10
      refine W.enum rfl ?_
      have hxd := Only.drew w
      have hLe : Lend w BB D gv U := ⟨hrow, htys⟩
      have hDe : Defs w BB D kv KW := ⟨krow, ktys⟩
      clear hrow htys krow ktys
      replace hC2 := hxd.blk hC2 (fun h => h)
      replace hC3 := hxd.blk hC3 (fun h => h)
      replace hC4 := hxd.blk hC4 (fun h => h)
      replace hC5 := hxd.blk hC5 (fun h => h)
      replace hLe := hLe.ext hxd
      replace hDe := hDe.ext hxd
      replace hx := hx.tr hxd
      clear hxd
      generalize w.drew = wf at *
      have hxf := hx
      have hLo : ∀ b (cs : Array Value), ∀ {w : World}, Lend w BB D gv U → w.heap[b]? = some (.cells cs 24 (0, 0)) → ∀ k, DF gv U D.length k → ¬ k = b := fun b cs {w} hL hB k hk he => by
        subst he
        rcases hk with hk | ⟨j, hj, hk⟩
        · exact own_off hL.row hB (by decide) hk
        · exact own_off (hL.tys.row j hj) hB (by decide) hk
      have hDo : ∀ b (cs : Array Value), ∀ {w : World}, Defs w BB D kv KW → w.heap[b]? = some (.cells cs 24 (0, 0)) → ∀ k, DF kv KW D.length k → ¬ k = b := fun b cs {w} hL hB k hk he => by
        subst he
        rcases hk with hk | ⟨j, hj, hk⟩
        · exact own_off hL.row hB (by decide) hk
        · exact own_off (hL.tys.row j hj) hB (by decide) hk
      refine WA.step (r := [0, 1]) (by kernel_rfl) (by decide) (all2 ?_ ?_)
      · skip
        refine WO.c rfl rfl (o_ldA TI24 rfl h4 (show Cells _ c4 0 [gv] from Cells.of hC4 0 _ (by simp)) rfl ?_)
        refine WA.step (r := [1, 2]) (by kernel_rfl) (by decide) (all2 ?_ ?_)
        · skip
          refine WO.c rfl rfl (o_ldA TI24 rfl h5 (show Cells _ c5 0 [kv] from Cells.of hC5 0 _ (by simp)) rfl ?_)
          refine WA.step (r := [2]) (by kernel_rfl) (by decide) (all1 ?_)
          refine WO.u rfl (o_stA TI24 h2 (show _ = Value.agg #[gv] from rfl) rfl (by simp [own_one hLe.row]) hC2 rfl ?_)
          intro wz hC2z ho hsz
          replace hLe := hLe.only ho (hLo _ _ hLe hC2)
          replace hDe := hDe.only ho (hDo _ _ hDe hC2)
          replace hC3 := ho.blk hC3 (by omega)
          replace hC4 := ho.blk hC4 (by omega)
          replace hC5 := ho.blk hC5 (by omega)
          replace hC2 : wz.heap[c2]? = some (.cells #[gv] 24 (0, 0)) := hC2z
          replace hx := hx.trans' ho (fun _ h => h) (fun b hb he => by omega)
          refine WA.step (r := [3]) (by kernel_rfl) (by decide) (all1 ?_)
          refine WO.u rfl (o_stA TI24 h3 (show _ = Value.agg #[kv] from rfl) rfl (by simp [own_one hDe.row]) hC3 rfl ?_)
          intro wy hC3z ho hsz3
          replace hLe := hLe.only ho (hLo _ _ hLe hC3)
          replace hDe := hDe.only ho (hDo _ _ hDe hC3)
          replace hC2 := ho.blk hC2 (by omega)
          replace hC4 := ho.blk hC4 (by omega)
          replace hC5 := ho.blk hC5 (by omega)
          replace hC3 : wy.heap[c3]? = some (.cells #[kv] 24 (0, 0)) := hC3z
          replace hx := hx.trans' ho (fun _ h => h) (fun b hb he => by omega)
          refine WA.done (by kernel_rfl) ?_
          exact ⟨wf, hxf, hC2, hC3, h2, h3, hLe, hDe, hx⟩
        · skip
          refine WO.u rfl (o_stA TI24 h2 (show _ = Value.agg #[gv] from rfl) rfl (by simp [own_one hLe.row]) hC2 rfl ?_)
          intro wz hC2z ho hsz
          replace hLe := hLe.only ho (hLo _ _ hLe hC2)
          replace hDe := hDe.only ho (hDo _ _ hDe hC2)
          replace hC3 := ho.blk hC3 (by omega)
          replace hC4 := ho.blk hC4 (by omega)
          replace hC5 := ho.blk hC5 (by omega)
          replace hC2 : wz.heap[c2]? = some (.cells #[gv] 24 (0, 0)) := hC2z
          replace hx := hx.trans' ho (fun _ h => h) (fun b hb he => by omega)
          refine WA.step (r := [1]) (by kernel_rfl) (by decide) (all1 ?_)
          refine WO.c rfl rfl (o_ldA TI24 rfl h5 (show Cells _ c5 0 [kv] from Cells.of hC5 0 _ (by simp)) rfl ?_)
          refine WA.step (r := [3]) (by kernel_rfl) (by decide) (all1 ?_)
          refine WO.u rfl (o_stA TI24 h3 (show _ = Value.agg #[kv] from rfl) rfl (by simp [own_one hDe.row]) hC3 rfl ?_)
          intro wy hC3z ho hsz3
          replace hLe := hLe.only ho (hLo _ _ hLe hC3)
          replace hDe := hDe.only ho (hDo _ _ hDe hC3)
          replace hC2 := ho.blk hC2 (by omega)
          replace hC4 := ho.blk hC4 (by omega)
          replace hC5 := ho.blk hC5 (by omega)
          replace hC3 : wy.heap[c3]? = some (.cells #[kv] 24 (0, 0)) := hC3z
          replace hx := hx.trans' ho (fun _ h => h) (fun b hb he => by omega)
          refine WA.done (by kernel_rfl) ?_
          exact ⟨wf, hxf, hC2, hC3, h2, h3, hLe, hDe, hx⟩
      · skip
        refine WO.c rfl rfl (o_ldA TI24 rfl h5 (show Cells _ c5 0 [kv] from Cells.of hC5 0 _ (by simp)) rfl ?_)
        refine WA.step (r := [0]) (by kernel_rfl) (by decide) (all1 ?_)
        refine WO.c rfl rfl (o_ldA TI24 rfl h4 (show Cells _ c4 0 [gv] from Cells.of hC4 0 _ (by simp)) rfl ?_)
        refine WA.step (r := [2]) (by kernel_rfl) (by decide) (all1 ?_)
        refine WO.u rfl (o_stA TI24 h2 (show _ = Value.agg #[gv] from rfl) rfl (by simp [own_one hLe.row]) hC2 rfl ?_)
        intro wz hC2z ho hsz
        replace hLe := hLe.only ho (hLo _ _ hLe hC2)
        replace hDe := hDe.only ho (hDo _ _ hDe hC2)
        replace hC3 := ho.blk hC3 (by omega)
        replace hC4 := ho.blk hC4 (by omega)
        replace hC5 := ho.blk hC5 (by omega)
        replace hC2 : wz.heap[c2]? = some (.cells #[gv] 24 (0, 0)) := hC2z
        replace hx := hx.trans' ho (fun _ h => h) (fun b hb he => by omega)
        refine WA.step (r := [3]) (by kernel_rfl) (by decide) (all1 ?_)
        refine WO.u rfl (o_stA TI24 h3 (show _ = Value.agg #[kv] from rfl) rfl (by simp [own_one hDe.row]) hC3 rfl ?_)
        intro wy hC3z ho hsz3
        replace hLe := hLe.only ho (hLo _ _ hLe hC3)
        replace hDe := hDe.only ho (hDo _ _ hDe hC3)
        replace hC2 := ho.blk hC2 (by omega)
        replace hC4 := ho.blk hC4 (by omega)
        replace hC5 := ho.blk hC5 (by omega)
        replace hC3 : wy.heap[c3]? = some (.cells #[kv] 24 (0, 0)) := hC3z
        replace hx := hx.trans' ho (fun _ h => h) (fun b hb he => by omega)
        refine WA.done (by kernel_rfl) ?_
        exact ⟨wf, hxf, hC2, hC3, h2, h3, hLe, hDe, hx⟩
    rintro e w ⟨ww, hxw, hC2, hC3, h2, h3, hLe, hDe, hx⟩
    refine W.ret ?_
    refine retAA rfl TI24 rfl TI24 rfl h2 h3 (show Cells _ c2 0 [gv] from Cells.of hC2 0 _ (by simp)) rfl (show Cells _ c3 0 [kv] from Cells.of hC3 0 _ (by simp)) rfl ?_
    exact ⟨gv, U, kv, KW, rfl, hLe, hDe, hx⟩
end Go.Proofs.YtanimeifmicmoaaDoor

set_option linter.unusedSimpArgs false
set_option linter.unusedVariables false
set_option maxRecDepth 100000
namespace Go.Proofs.YtanimeifmicmoaaDoor
open Go Go.Vc Go.RowKit Go.Proofs

structure LendR (w : World) (D : List Df) (gv : Value) (U : Nat → Value) : Prop where
  rd : DefR w D gv (fun j => shr (U j))
  full : ∀ j, j < D.length → ∃ g c, U j = .slice (some ⟨g, 0, none⟩) (lenM D j) c ∧ lenM D j ≤ c ∧ Cells w g 0 (rowQ D j)
theorem Lend.rd {w : World} {H : Nat} {D : List Df} {gv : Value} {U : Nat → Value} (h : Lend w H D gv U) : LendR w D gv U := by
  refine ⟨h.defs.rd, fun j hj => ?_⟩
  have hr := h.tys.row j hj
  obtain ⟨g, cap, hU, hgb⟩ := own_some hr (by rw [lenM]; omega)
  have hfm := own_form hr
  obtain ⟨bb, cc, hv, hh⟩ := hfm
  have hs := Sl.own hr
  rw [hU] at hv hs
  cases hv
  refine ⟨g, cap, hU, by omega, ?_⟩
  rcases hs.val with ⟨hz, h0⟩ | ⟨b, o, c, he, hnc, hc⟩
  · exact absurd hz (by rw [lenM]; omega)
  · cases he; exact hc
theorem LendR.ext {w w' : World} {D : List Df} {gv : Value} {U : Nat → Value} (h : LendR w D gv U) (ho : Ext w w') : LendR w' D gv U :=
  ⟨h.rd.ext ho, fun j hj => by obtain ⟨g, c, h1, h2, h3⟩ := h.full j hj; exact ⟨g, c, h1, h2, Cells.only h3 ho (fun h => h)⟩⟩

end Go.Proofs.YtanimeifmicmoaaDoor

set_option linter.unusedSimpArgs false
set_option linter.unusedVariables false
set_option maxRecDepth 100000
namespace Go.Proofs.YtanimeifmicmoaaDoor
open Go Go.Vc Go.RowKit Go.Proofs

theorem nameB_le {s : List UInt8} (h : nameB s = true) : s.length ≤ 32 := by
  simp only [nameB, Bool.and_eq_true, decide_eq_true_eq] at h
  exact h.1.1.1.2
mutual
theorem tr_right : ∀ (t : Tr) (a : Int) (deep : Nat), t.wf a deep → ∀ x ∈ t.flat, ∃ b, rightB x b = true
  | .node y ks, a, deep, h, x, hx => by
    obtain ⟨-, -, hr, -, hk⟩ := h
    rcases List.mem_cons.1 hx with rfl | hx
    · exact ⟨a, hr⟩
    · exact trs_right ks _ _ hk x hx
theorem trs_right : ∀ (ts : Trs) (a : Int) (deep : Nat), ts.wf a deep → ∀ x ∈ ts.flat, ∃ b, rightB x b = true
  | .nil, _, _, _, x, hx => by simp [Trs.flat] at hx
  | .cons t ts, a, deep, h, x, hx => by
    rcases List.mem_append.1 hx with hx | hx
    · exact tr_right t _ _ h.1 x hx
    · exact trs_right ts _ _ h.2 x hx
end
theorem lab_le {x : Ex} {b : Int} (h : rightB x b = true) : x.label.length ≤ 32 := by
  obtain ⟨-, -, hl, -⟩ := rightB_iff h
  unfold labB at hl
  split at hl
  · exact nameB_le hl
  · rw [of_decide_eq_true hl]; decide
theorem ok_facts {D : List Df} (hck : (chkS D).2.2 = 0) : ∀ d ∈ D, d.name.length ≤ 32 ∧ 0 < d.ty.length ∧ ∀ x ∈ d.ty, x.label.length ≤ 32 := by
  obtain ⟨-, l, hws, hmap⟩ := chkS_trees hck
  intro d hd
  have h1 : (d.name, d.ty) ∈ l.map (fun p => (p.1, p.2.flat)) := by rw [← hmap]; exact List.mem_map_of_mem hd
  obtain ⟨p, hp, he⟩ := List.mem_map.1 h1
  obtain ⟨nm, t⟩ := p
  simp only [Prod.mk.injEq] at he
  obtain ⟨e1, e2⟩ := he
  obtain ⟨hn, hw⟩ := hws _ hp
  refine ⟨by rw [← e1]; exact nameB_le hn, by rw [← e2]; cases t; exact Nat.succ_pos _, fun x hx => ?_⟩
  rw [← e2] at hx
  obtain ⟨b, hb⟩ := tr_right t 0 0 hw x hx
  exact lab_le hb
/-- what a good source prints -/
def Prn (D : List Df) (tx : List UInt8) : Prop := (chkS D).2.2 = 0 ∧ ∃ l : List DefT, (∀ q ∈ l, DefW q) ∧ D.map bareD = l.map (fun p => (⟨p.1, 0, p.2.flat.map bareE⟩ : Df)) ∧ l.length ≤ 256 ∧ tx = shDefs l ∧ tx.length ≤ 65536
theorem print_val (D : List Df) (hlim : DOk D) (hszD : ∀ d ∈ D, d.ty.length ≤ 1048576) : ∃ tx er, (∀ dv V w0, DefR w0 D dv V → Tab w0 → 1 < w0.heap.size → Ca Tryd.prog 9 #[.agg #[dv]] w0 (fun u w' => u = .tuple #[st tx, .int .i64 er] ∧ Ext w0 w')) ∧ (¬ er = 0 → tx = []) ∧ (er = 0 → Prn D tx) := by
  by_cases hck : (chkS D).2.2 = 0
  · obtain ⟨h256, l, hws, hmap⟩ := chkS_trees hck
    have hbl : (shDefs l).length ≤ 140737488355328 := by
      have h1 := shDefs_len D l hws hmap hszD
      have h2 : D.length * 83887080 ≤ 256 * 83887080 := Nat.mul_le_mul_right _ h256
      omega
    have hl : l.length ≤ 256 := by have h1 := congrArg List.length hmap; simp only [List.length_map] at h1; omega
    by_cases h65 : 65536 < (shDefs l).length
    · refine ⟨[], 4, fun dv V w0 hD hT h1 => (print_spec D dv V w0 hD hlim.lim hT h1 hck l hws hmap hbl).mono ?_, fun _ => rfl, fun h => absurd h (by decide)⟩
      rintro v w ⟨rfl, hx⟩
      rw [if_pos h65]
      exact ⟨rfl, hx⟩
    · refine ⟨shDefs l, 0, fun dv V w0 hD hT h1 => (print_spec D dv V w0 hD hlim.lim hT h1 hck l hws hmap hbl).mono ?_, fun h => absurd rfl h, fun _ => ⟨hck, l, hws, trees_bare hmap, hl, rfl, by omega⟩⟩
      rintro v w ⟨rfl, hx⟩
      rw [if_neg h65]
      exact ⟨rfl, hx⟩
  · exact ⟨[], ((chkS D).2.2 : Int), fun dv V w0 hD hT h1 => print_bad D dv V w0 hD hlim.lim hck, fun _ => rfl, fun h => absurd (by omega) hck⟩
theorem prn_inj {D E : List Df} {tx : List UInt8} (h : Prn D tx) (g : Prn E tx) : D.map bareD = E.map bareD := by
  obtain ⟨-, l, hw, hb, hl, ht, hn⟩ := h
  obtain ⟨-, m, gw, gb, gl, gt, gn⟩ := g
  obtain ⟨T, hp⟩ := parse_sh hw hl (by rw [← ht]; exact hn)
  obtain ⟨U, gp⟩ := parse_sh gw gl (by rw [← gt]; exact gn)
  rw [← ht] at hp
  rw [← gt] at gp
  have h1 := congrArg (fun r => r.1.map bareD) (hp.symm.trans gp)
  simp only [defIdx_bare] at h1
  rw [hb, gb, h1]
theorem exs_setc {c : Nat} {u : Value} {y : Ex} (hc : c < 7) : ∀ {L : List Ex} {j : Nat} (hj : j < L.length), exV y = (exV L[j]).set c u → (exs L).set (j * 7 + c) u = exs (L.set j y)
  | [], j, hj, _ => by simp at hj
  | a :: l, 0, hj, hy => by
    show (exV a ++ exs l).set (0 * 7 + c) u = exV y ++ exs l
    rw [List.set_append, if_pos (by show 0 * 7 + c < 7; omega), hy, Nat.zero_mul, Nat.zero_add]
    rfl
  | a :: l, j + 1, hj, hy => by
    show (exV a ++ exs l).set ((j + 1) * 7 + c) u = exV a ++ exs (l.set j y)
    rw [List.set_append, if_neg (by show ¬ (j + 1) * 7 + c < 7; omega), ← exs_setc hc (L := l) (j := j) (by simpa using hj) (by simpa using hy)]
    congr 2
    show (j + 1) * 7 + c - 7 = j * 7 + c
    omega
def setN (D : List Df) (k : Nat) (nm : List UInt8) : List Df := D.set k { D.getD k df0 with name := nm }
theorem setN_len (D : List Df) (k : Nat) (nm : List UInt8) : (setN D k nm).length = D.length := by rw [setN, List.length_set]
theorem setN_at {D : List Df} {k : Nat} {nm : List UInt8} (hk : k < D.length) (j : Nat) : (setN D k nm).getD j df0 = if j = k then { D.getD k df0 with name := nm } else D.getD j df0 := by
  rw [setN, List.getD_eq_getElem?_getD, List.getElem?_set]
  by_cases h : k = j
  · subst h; simp [hk]
  · rw [if_neg h, if_neg (fun hh => h hh.symm), List.getD_eq_getElem?_getD]
theorem fm_set {f g : Nat → List Value} {k c : Nat} {u : Value} (hf : ∀ j, (f j).length = 3) (hg : ∀ j, ¬ j = k → g j = f j) (hk : g k = (f k).set c u) (hc : c < 3) : ∀ n, k < n → ((List.range n).flatMap f).set (k * 3 + c) u = (List.range n).flatMap g
  | 0, h => by omega
  | n + 1, h => by
    have hl : ((List.range n).flatMap f).length = n * 3 := by
      have : ∀ l : List Nat, (l.flatMap f).length = l.length * 3 := by
        intro l
        induction l with
        | nil => rfl
        | cons a l ih => rw [List.flatMap_cons, List.length_append, ih, hf, List.length_cons]; omega
      rw [this, List.length_range]
    rw [List.range_succ, List.flatMap_append, List.flatMap_append, List.flatMap_singleton, List.flatMap_singleton, List.set_append, hl]
    by_cases e : k = n
    · subst e
      rw [if_neg (by omega), Nat.add_sub_cancel_left, hk]
      congr 1
      exact dfm_congr fun j hj => (hg j (by have := List.mem_range.1 hj; omega)).symm
    · rw [if_pos (by omega), fm_set hf hg hk hc n (by omega), hg n (fun h => e h.symm)]
theorem drows_setN {D : List Df} {V : Nat → Value} {k : Nat} {nm : List UInt8} (hk : k < D.length) : (drows D V).set (k * 3 + 0) (st nm) = drows (setN D k nm) V := by
  rw [drows, drows, setN_len]
  refine fm_set (fun _ => rfl) (fun j hj => ?_) ?_ (by decide) _ hk
  · rw [setN_at hk, if_neg hj]
  · rw [setN_at hk, if_pos rfl]; rfl
theorem Defs.setN {w w' : World} {H : Nat} {D : List Df} {lv : Value} {V : Nat → Value} (h : Defs w H D lv V) {k : Nat} {nm : List UInt8} (hk : k < D.length) (ho : Only (fun b => lv.ownBlock = some b) w w')
    (hr : w'.ownsRow H 34 3 lv D.length ((drows D V).set (k * 3 + 0) (st nm))) : Defs w' H (setN D k nm) lv V := by
  have ht : ∀ j, tyD (Go.Proofs.YtanimeifmicmoaaDoor.setN D k nm) j = tyD D j := fun j => by
    rw [tyD, setN_at hk]
    split
    · rename_i e; rw [e]; rfl
    · rfl
  refine ⟨by rw [setN_len, ← drows_setN hk]; exact hr, ?_⟩
  rw [setN_len]
  exact (h.tys.other h.row (by decide) ho).congr (fun _ _ => rfl) (fun j hj => by rw [ht]) (fun j hj => by rw [ht])
theorem setN_mem {D : List Df} {k : Nat} {nm : List UInt8} (hk : k < D.length) {e : Df} (he : e ∈ setN D k nm) : e ∈ D ∨ (D[k] ∈ D ∧ e = { D[k] with name := nm }) := by
  rcases List.mem_or_eq_of_mem_set he with h1 | h1
  · exact .inl h1
  · exact .inr ⟨List.getElem_mem hk, by rw [h1, getD_at hk]⟩
theorem DOk.setN {D : List Df} {k : Nat} {nm : List UInt8} (h : DOk D) (hk : k < D.length) (hn : nm.length ≤ 9223372036854775807) : DOk (setN D k nm) := by
  refine ⟨by rw [setN_len]; exact h.len, fun e he => ?_, fun e he => ?_, fun e he => ?_⟩ <;> rcases setN_mem hk he with h1 | ⟨h1, rfl⟩
  · exact h.ty e h1
  · exact h.ty D[k] h1
  · exact h.nm e h1
  · exact hn
  · exact h.ex e h1
  · exact h.ex D[k] h1
theorem setE_mem {D : List Df} {k n : Nat} {y : Ex} (hk : k < D.length) {e : Df} (he : e ∈ setE D k n y) : e ∈ D ∨ (D[k] ∈ D ∧ e = { D[k] with ty := D[k].ty.set n y }) := by
  rcases List.mem_or_eq_of_mem_set he with h1 | h1
  · exact .inl h1
  · exact .inr ⟨List.getElem_mem hk, by rw [h1, tyD, getD_at hk]⟩
theorem setN_ne {D : List Df} {k : Nat} {nm : List UInt8} (hk : k < D.length) (hne : ¬ D[k].name = nm) : ¬ D.map bareD = (setN D k nm).map bareD := by
  intro h
  have h1 := congrArg (fun l => l[k]?) h
  simp only [setN, List.getElem?_map, List.getElem?_set, if_pos hk, if_true, List.getElem?_eq_getElem hk, getD_at hk, Option.map_some, Option.some.injEq, bareD, Df.mk.injEq] at h1
  exact hne h1.1
theorem setE_ne {D : List Df} {k j : Nat} {y : Ex} (hk : k < D.length) (hj : j < D[k].ty.length) (hne : ¬ bareE D[k].ty[j] = bareE y) : ¬ D.map bareD = (setE D k j y).map bareD := by
  intro h
  have h1 := congrArg (fun l => l[k]?) h
  simp only [setE, List.getElem?_map, List.getElem?_set, if_pos hk, if_true, List.getElem?_eq_getElem hk, getD_at hk, tyD, Option.map_some, Option.some.injEq, bareD, Df.mk.injEq, true_and] at h1
  have h2 := congrArg (fun l => l[j]?) h1
  simp only [List.getElem?_map, List.getElem?_set, if_pos hj, if_true, List.getElem?_eq_getElem hj, Option.map_some, Option.some.injEq] at h2
  exact hne h2
theorem Defs.atO {w : World} {H : Nat} {D : List Df} {dv : Value} {V : Nat → Value} (h : Defs w H D dv V) {k : Nat} (hk : k < D.length) : ∃ g c, dv = .slice (some ⟨g, 0, none⟩) D.length c ∧ H ≤ g ∧ Cells w g (0 + k * 3) (dcell D[k] (V k)) ∧ w.ownsRow H 36 7 (V k) D[k].ty.length (exs D[k].ty) := by
  obtain ⟨g, cap, hv, hb⟩ := own_some h.row (by omega)
  obtain ⟨b, o, c, hv2, hc, -⟩ := h.rd.atk hk
  rw [hv] at hv2
  cases hv2
  have h3 := h.tys.row k hk
  rw [tyD_at hk] at h3
  exact ⟨g, cap, hv, (h.row.lt g hb).1, hc, h3⟩
theorem own_ex {w : World} {H : Nat} {v : Value} {L : List Ex} (h : w.ownsRow H 36 7 v L.length (exs L)) {j : Nat} (hj : j < L.length) : ∃ g c, v = .slice (some ⟨g, 0, none⟩) L.length c ∧ H ≤ g ∧ Cells w g (0 + j * 7) (exV L[j]) := by
  obtain ⟨g, cap, hv, hb⟩ := own_some h (by omega)
  obtain ⟨b, o, c, hv2, hc⟩ := Sl.exq (Sl.own h) hj
  rw [hv] at hv2
  cases hv2
  exact ⟨g, cap, hv, (h.lt g hb).1, hc⟩
section
open Go.Vc
theorem o_negI {P : Program} {e : Env} {w : World} {K : Value → World → Prop} {ty : TypeId} {x : Operand} {t : TypeId} {k : IntKind} {a : Int} (hx : ev e x = .int k a) (kk : K (.int k (k.wrap (-a))) w) : OP P e (.unOp .neg t x) ty w K :=
  OP.of (by simp [execOp, Op.unary, Op.intArith, hx]) kk
theorem o_maxI {P : Program} {e : Env} {w : World} {K : Value → World → Prop} {ty : TypeId} {x y : Operand} {t u : TypeId} {k : IntKind} {a b : Int} (hx : ev e x = .int k a) (hy : ev e y = .int k b) (kk : K (.int k (if a < b then b else a)) w) : OP P e (.call ⟨.builtin .max, #[x, y], #[t, u]⟩) ty w K := by
  refine OP.of ?_ kk
  simp [execOp, resolve, invoke, builtin, Builtin.max_, Builtin.max2, hx, hy]
end
theorem wrap_i64 (a : Int) : IntKind.wrap .i64 a = (a + 9223372036854775808) % 18446744073709551616 - 9223372036854775808 := by
  simp [IntKind.wrap, IntKind.signed, IntKind.bits]
  split <;> omega
theorem pick_ix {a : Int} (h : -9223372036854775808 ≤ a ∧ a ≤ 9223372036854775807) {n : Nat} (hn : 0 < n) : ∃ k : Nat, k < n ∧ (if a < IntKind.wrap .i64 (-(IntKind.wrap .i64 (a + 1))) then IntKind.wrap .i64 (-(IntKind.wrap .i64 (a + 1))) else a).tmod (n : Int) = (k : Int) := by
  obtain ⟨m, hm⟩ : ∃ m : Nat, (if a < IntKind.wrap .i64 (-(IntKind.wrap .i64 (a + 1))) then IntKind.wrap .i64 (-(IntKind.wrap .i64 (a + 1))) else a) = (m : Int) := by
    rw [wrap_i64, wrap_i64]
    refine ⟨Int.toNat _, (Int.toNat_of_nonneg ?_).symm⟩
    split <;> omega
  rw [hm]
  exact ⟨m % n, Nat.mod_lt _ hn, rfl⟩
theorem wrap_ne (n : Int) : ¬ n = IntKind.wrap .i64 (n + 1) := by rw [wrap_i64]; omega

end Go.Proofs.YtanimeifmicmoaaDoor

set_option linter.unusedSimpArgs false
set_option linter.unusedVariables false
set_option maxRecDepth 100000
namespace Go.Proofs.YtanimeifmicmoaaDoor
open Go Go.Vc Go.RowKit Go.Proofs
set_option maxHeartbeats 4000000 in
theorem slost_walk (w0 : World) (D : List Df) (dv : Value) (V : Nat → Value) (hD : DefR w0 D dv V) (hlim : DOk D) (hszD : ∀ d ∈ D, d.ty.length ≤ 1048576) (a1 : Int) (ha1 : -9223372036854775808 ≤ a1 ∧ a1 ≤ 9223372036854775807) (a2 : Int) (ha2 : -9223372036854775808 ≤ a2 ∧ a2 ≤ 9223372036854775807) (a3 : Int) (ha3 : -9223372036854775808 ≤ a3 ∧ a3 ≤ 9223372036854775807) (hT : Tab w0) (h1H : 1 < w0.heap.size) (hMk : MarkW w0) : Ca Tryd.prog 4 #[.agg #[dv], .int .i64 a1, .int .i64 a2, .int .i64 a3] w0 (fun v w' => v = .bool true ∧ Ext w0 w') := by
  have hn1 := hlim.len
  have htl : ∀ d ∈ D, d.ty.length ≤ 4611686018427387904 := fun d hd => by have := hszD d hd; omega
  obtain ⟨tx, er, hP, hPz, hPok⟩ := print_val D hlim hszD
  have hD0 := hD
  have hT0 := hT
  refine Ca.of Tryd.func4 Tryd.ntmps4 rfl rfl ?_
  refine W.seq ?_
  refine W.region ?_
  refine WL.c rfl (o_boxB rfl ?_)
  intro w4 hC4 hx4 hs4
  obtain ⟨b4, hb4⟩ : ∃ b, b = w0.heap.size := ⟨_, rfl⟩
  rw [← hb4] at hC4 ⊢
  replace hC4 : w4.heap[b4]? = some (.cells ([dv]).toArray 24 (0, 0)) := hC4
  have hx := hx4
  replace hD := hD.ext hx4
  replace hT := hT.ext hx4
  replace hMk := hMk.ext hx4
  refine WL.c rfl (o_ash (show _ = Value.bool _ from rfl) ?_)
  refine WL.nil ?_
  refine W.seq ?_
  refine W.seq ?_
  refine W.region ?_
  refine WL.c rfl (o_call Tryd.call7 ln ((awake_spec _ hT (by have := hx.size; omega)).mono ?_))
  rintro v18 w18 ⟨rfl, hx18⟩
  replace hx := hx.tr hx18
  replace hC4 := hx18.blk hC4 (fun h => h)
  replace hD := hD.ext hx18
  replace hT := hT.ext hx18
  replace hMk := hMk.ext hx18
  refine WL.c rfl (o_not' rfl ?_)
  refine WL.nil ?_
  refine W.condF' rfl (rfl) ?_
  refine W.skip ?_
  refine W.seq ?_
  refine W.region ?_
  refine WL.c rfl (o_ldA TI24 rfl rfl (show Cells _ b4 0 [dv] from Cells.of hC4 0 _ (by simp)) rfl ?_)
  refine WL.c rfl (o_call Tryd.call9 (lc rfl ln) ((hP _ _ _ hD hT (by have := hx.size; omega)).mono ?_))
  rintro v22 w22 ⟨rfl, hx22⟩
  replace hx := hx.tr hx22
  replace hC4 := hx22.blk hC4 (fun h => h)
  replace hD := hD.ext hx22
  replace hT := hT.ext hx22
  replace hMk := hMk.ext hx22
  refine WL.c rfl (o_mvh (by first | exact (show _ = Value.tuple _ from rfl) | exact rfl) ?_)
  refine WL.c rfl (o_ext rfl rfl ?_)
  refine WL.c rfl (o_ext rfl rfl ?_)
  refine WL.c rfl (o_ash (show _ = Value.string _ from rfl) ?_)
  refine WL.c rfl (o_ash (show _ = Value.int _ _ from rfl) ?_)
  refine WL.nil ?_
  refine W.seq ?_
  refine W.seq ?_
  by_cases her : er = 0
  by_cases hdl : D.length = 0
  · skip
    skip
    refine W.region ?_
    refine WL.c rfl (o_mvh (show _ = Value.int _ _ from rfl) ?_)
    refine WL.c rfl (o_ne rfl rfl ?_)
    refine WL.c rfl (o_mvh (show _ = Value.bool _ from rfl) ?_)
    refine WL.g rfl (by simp [her]) rfl (o_fa 0 TI24 rfl TI22 rfl rfl ?_)
    refine WL.g rfl (by simp [her]) rfl (o_ld TI22 rfl rfl (cell_of hC4 rfl) ?_)
    refine WL.g rfl (by simp [her]) rfl (o_lenR TI22 rfl hD.row ?_)
    refine WL.g rfl (by simp [her]) rfl (o_eq rfl rfl ?_)
    refine WL.c rfl (o_pickO rfl rfl ?_)
    refine WL.nil ?_
    refine W.condT' rfl (by simp [hdl]) ?_
    refine W.seq ?_
    refine W.region ?_
    refine WL.c rfl (o_ash (show _ = Value.bool _ from rfl) ?_)
    refine WL.nil ?_
    refine W.ret ?_
    refine ret1v rfl (show _ = Value.bool _ from rfl) ?_
    exact ⟨rfl, hx⟩
  · skip
    have hPok := hPok her
    refine W.region ?_
    refine WL.c rfl (o_mvh (show _ = Value.int _ _ from rfl) ?_)
    refine WL.c rfl (o_ne rfl rfl ?_)
    refine WL.c rfl (o_mvh (show _ = Value.bool _ from rfl) ?_)
    refine WL.g rfl (by simp [her]) rfl (o_fa 0 TI24 rfl TI22 rfl rfl ?_)
    refine WL.g rfl (by simp [her]) rfl (o_ld TI22 rfl rfl (cell_of hC4 rfl) ?_)
    refine WL.g rfl (by simp [her]) rfl (o_lenR TI22 rfl hD.row ?_)
    refine WL.g rfl (by simp [her]) rfl (o_eq rfl rfl ?_)
    refine WL.c rfl (o_pickO rfl rfl ?_)
    refine WL.nil ?_
    refine W.condF' rfl (by simp [hdl, her]) ?_
    refine W.skip ?_
    refine W.seq ?_
    refine W.region ?_
    refine WL.c rfl (o_ldA TI24 rfl rfl (show Cells _ b4 0 [dv] from Cells.of hC4 0 _ (by simp)) rfl ?_)
    refine WL.c rfl (o_call Tryd.call8 (lc rfl ln) ((copied_spec D dv V _ hD hlim hMk).mono ?_))
    rintro v35 w35 ⟨gv35, U35, kv35, KW35, rfl, hLe35, hK35, hxp35⟩
    have hHb := hx.size
    generalize w22.heap.size = HH at hLe35 hK35 hHb
    replace hx := hx.tr hxp35
    replace hC4 := hxp35.blk hC4 (fun h => h)
    replace hD := hD.ext hxp35
    replace hT := hT.ext hxp35
    replace hMk := hMk.ext hxp35
    have og35 := own_one hLe35.row
    have ok35 := own_one hK35.row
    clear hLe35 hxp35
    refine WL.c rfl (o_mvh (by first | exact (show _ = Value.tuple _ from rfl) | exact rfl) ?_)
    refine WL.c rfl (o_ext rfl rfl ?_)
    refine WL.c rfl (o_ext rfl rfl ?_)
    refine WL.c rfl (o_alB TI24 ?_)
    intro wa hCs hxs hss
    refine WL.c rfl (o_alB TI24 ?_)
    intro wb hCf hxf hsf
    replace hCs := hxf.blk hCs (fun h => h)
    refine WL.u (o_stA TI24 rfl (show _ = Value.agg #[gv35] from rfl) rfl (by simp [og35]) hCs rfl ?_)
    intro wc hB11 hos hsz
    replace hCf := hos.blk hCf (by omega)
    refine WL.u (o_stA TI24 rfl (show _ = Value.agg #[kv35] from rfl) rfl (by simp [ok35]) hCf rfl ?_)
    intro w12z hB12 hof hsz2
    replace hB11 := hof.blk hB11 (by omega)
    have hxn : Ext w35 w12z := ((hxs.tr hxf).trans' hos (fun _ h => h) (fun k hk he => by omega)).trans' hof (fun _ h => h) (fun k hk he => by omega)
    obtain ⟨b11, hb11⟩ : ∃ b, b = w35.heap.size := ⟨_, rfl⟩
    obtain ⟨b12, hb12⟩ : ∃ b, b = wa.heap.size := ⟨_, rfl⟩
    rw [← hb11] at hB11 ⊢
    rw [← hb12] at hB12 ⊢
    replace hB11 : w12z.heap[b11]? = some (.cells #[gv35] 24 (0, 0)) := hB11
    replace hB12 : w12z.heap[b12]? = some (.cells #[kv35] 24 (0, 0)) := hB12
    clear hCs hCf hos hof
    replace hx := hx.tr hxn
    replace hC4 := hxn.blk hC4 (fun h => h)
    replace hD := hD.ext hxn
    replace hT := hT.ext hxn
    replace hMk := hMk.ext hxn
    replace hK35 := hK35.ext hxn
    clear hxn
    refine WL.nil ?_
    refine W.seq ?_
    refine W.region ?_
    refine WL.c rfl (o_mvh (show _ = Value.int _ _ from rfl) ?_)
    refine WL.c rfl (o_mvh (show _ = Value.int _ _ from rfl) ?_)
    refine WL.c rfl (o_add rfl rfl ?_)
    refine WL.c rfl (o_negI rfl ?_)
    refine WL.c rfl (o_maxI rfl rfl ?_)
    refine WL.c rfl (o_fa 0 TI24 rfl TI22 rfl rfl ?_)
    refine WL.c rfl (o_ld TI22 rfl rfl (cell_of hB12 rfl) ?_)
    refine WL.c rfl (o_lenR TI22 rfl (Sl.own hK35.row) ?_)
    refine WL.c rfl (o_rem rfl rfl (by omega) ?_)
    obtain ⟨k, hk, hk46⟩ := pick_ix ha1 (n := D.length) (by omega)
    rw [hk46]
    clear hk46
    obtain ⟨gb, gc, rfl, hgb, hgc, htr⟩ := hK35.atO hk
    obtain ⟨hnm, htp, hlb⟩ := ok_facts hPok.1 _ (List.getElem_mem hk)
    refine WL.c rfl (o_ash (show _ = Value.int _ _ from rfl) ?_)
    refine WL.nil ?_
    refine W.seq ?_
    refine W.region ?_
    refine WL.c rfl (o_fa 0 TI24 rfl TI22 rfl rfl ?_)
    refine WL.c rfl (o_ld TI22 rfl rfl (cell_of hB12 rfl) ?_)
    refine WL.c rfl (o_mvh (show _ = Value.int _ _ from rfl) ?_)
    refine WL.c rfl (o_ixB (i := k) TI22 TI34 (show _ = Value.slice (some ⟨gb, 0, none⟩) D.length gc from rfl) rfl (by omega) ?_)
    refine WL.c rfl (o_fa 2 TI34 rfl TI32 rfl rfl ?_)
    refine WL.c rfl (o_ld TI32 rfl rfl (hgc 2 _ rfl) ?_)
    refine WL.c rfl (o_ash (by first | exact (show _ = Value.slice _ _ _ from rfl) | exact rfl) ?_)
    refine WL.nil ?_
    refine W.seq ?_
    refine W.region ?_
    refine WL.c rfl (o_mvh (show _ = Value.int _ _ from rfl) ?_)
    refine WL.c rfl (o_mvh (show _ = Value.int _ _ from rfl) ?_)
    refine WL.c rfl (o_add rfl rfl ?_)
    refine WL.c rfl (o_negI rfl ?_)
    refine WL.c rfl (o_maxI rfl rfl ?_)
    refine WL.c rfl (o_mvh (by first | exact (show _ = Value.slice _ _ _ from rfl) | exact rfl) ?_)
    refine WL.c rfl (o_lenR TI32 rfl (Sl.own htr) ?_)
    refine WL.c rfl (o_rem rfl rfl (by omega) ?_)
    obtain ⟨j, hj, hj60⟩ := pick_ix ha2 (n := D[k].ty.length) htp
    rw [hj60]
    clear hj60
    obtain ⟨tb, tc, hKk, htb, htcl⟩ := own_ex htr hj
    rw [hKk]
    refine WL.c rfl (o_ash (show _ = Value.int _ _ from rfl) ?_)
    refine WL.nil ?_
    refine W.seq ?_
    refine W.seq ?_
    refine W.region ?_
    refine WL.c rfl (o_mvh (show _ = Value.int _ _ from rfl) ?_)
    refine WL.c rfl (o_mvh (show _ = Value.int _ _ from rfl) ?_)
    refine WL.c rfl (o_add rfl rfl ?_)
    refine WL.c rfl (o_negI rfl ?_)
    refine WL.c rfl (o_maxI rfl rfl ?_)
    refine WL.c rfl (o_rem rfl rfl (by omega) ?_)
    obtain ⟨q, hq, hq66⟩ := pick_ix ha3 (n := 4) (by decide)
    rw [show ((4 : Int)) = ((4 : Nat) : Int) from rfl, hq66]
    clear hq66
    refine WL.nil ?_
    refine W.block ?_
    refine W.seq ?_
    rcases (show q = 0 ∨ q = 1 ∨ q = 2 ∨ q = 3 by omega) with rfl | rfl | rfl | rfl
    · skip
      skip
      refine W.region ?_
      refine WL.c rfl (o_eq rfl rfl ?_)
      refine WL.c rfl (o_ash (show _ = Value.bool _ from rfl) ?_)
      refine WL.nil ?_
      refine W.condT' rfl (by simp) ?_
      refine W.tail 12 rfl (by kernel_rfl) ?_
      refine WS.c rfl ((SO.o rfl (o_fa 0 TI24 rfl TI22 rfl rfl ⟨rfl, rfl⟩))) ?_
      refine WS.c rfl ((SO.o rfl (o_ld TI22 rfl rfl (cell_of hB12 rfl) ⟨rfl, rfl⟩))) ?_
      refine WS.c rfl ((SO.o rfl (o_mvh (show _ = Value.int _ _ from rfl) ⟨rfl, rfl⟩))) ?_
      refine WS.c rfl ((SO.o rfl (o_fa 0 TI24 rfl TI22 rfl rfl ⟨rfl, rfl⟩))) ?_
      refine WS.c rfl ((SO.o rfl (o_ld TI22 rfl rfl (cell_of hB12 rfl) ⟨rfl, rfl⟩))) ?_
      refine WS.c rfl ((SO.o rfl (o_mvh (show _ = Value.int _ _ from rfl) ⟨rfl, rfl⟩))) ?_
      refine WS.c rfl ((SO.o rfl (o_ixB (i := k) TI22 TI34 (show _ = Value.slice (some ⟨gb, 0, none⟩) D.length gc from rfl) rfl (by omega) ⟨rfl, rfl⟩))) ?_
      refine WS.c rfl ((SO.o rfl (o_fa 0 TI34 rfl TI9 rfl rfl ⟨rfl, rfl⟩))) ?_
      refine WS.c rfl ((SO.o rfl (o_ld TI9 rfl rfl (hgc 0 _ rfl) ⟨rfl, rfl⟩))) ?_
      refine WS.c rfl ((SO.o rfl (o_addT rfl rfl (by simp; omega) ⟨rfl, rfl⟩))) ?_
      refine WS.c rfl ((SO.o rfl (o_ixB (i := k) TI22 TI34 (show _ = Value.slice (some ⟨gb, 0, none⟩) D.length gc from rfl) rfl (by omega) ⟨rfl, rfl⟩))) ?_
      refine WS.c rfl ((SO.o rfl (o_fa 0 TI34 rfl TI9 rfl rfl ⟨rfl, rfl⟩))) ?_
      refine WS.nil ?_
      have hxd := Only.drew w12z
      replace hx := hx.tr hxd
      replace hC4 := hxd.blk hC4 (fun h => h)
      replace hB12 := hxd.blk hB12 (fun h => h)
      replace hK35 := hK35.ext hxd
      replace hgc := Cells.only hgc hxd (fun h => h)
      generalize w12z.drew = wd at *
      refine WL.u (o_stRj TI9 rfl (show 0 + k * 3 + 0 = k * 3 + 0 by omega) (show _ = st (D[k].name ++ [120]) from rfl) rfl hK35.row (show Value.ownBlock (Value.slice (some ⟨gb, 0, none⟩) D.length gc) = some gb from rfl) (by omega) ?_)
      intro w88 hr88 ho88 hsz88
      have ho := ho88
      have hK2 := hK35.setN hk ho hr88
      have hlo : ∀ b, (Value.slice (some ⟨gb, 0, none⟩) D.length gc).ownBlock = some b → HH ≤ b := fun b hb => (hK35.row.lt b hb).1
      replace hB12 := ho.blk hB12 (fun hb => own_off hK35.row hB12 (by decide) hb)
      replace hC4 := ho.blk hC4 (fun hb => own_off hK35.row hC4 (by decide) hb)
      have h1M := hMk.lt
      replace hx : Ext w0 w88 := hx.trans' ho (fun _ h => h) (fun b hb he => by have := hlo b he; omega)
      replace hT := hT0.ext hx
      replace hD := hD0.ext hx
      obtain ⟨D2, hD2⟩ : ∃ D2, D2 = (setN D k (D[k].name ++ [120])) := ⟨_, rfl⟩
      have hne : ¬ D.map bareD = D2.map bareD := by rw [hD2]; exact setN_ne hk (fun he => by have h1 := congrArg List.length he; simp at h1)
      have hlim2 : DOk D2 := by rw [hD2]; exact hlim.setN hk (by simp; omega)
      have hsz2 : ∀ d ∈ D2, d.ty.length ≤ 1048576 := by rw [hD2]; intro d hd; rcases setN_mem hk hd with h1 | ⟨h1, rfl⟩; exact hszD d h1; exact hszD D[k] h1
      rw [← hD2] at hK2
      obtain ⟨tx2, er2, hQ, hQz, hQok⟩ := print_val D2 hlim2 hsz2
      clear hD2
      refine WL.nil ?_
      refine W.seq ?_
      refine W.region ?_
      refine WL.c rfl (o_ldA TI24 rfl rfl (show Cells _ b12 0 [(Value.slice (some ⟨gb, 0, none⟩) D.length gc)] from Cells.of hB12 0 _ (by simp)) rfl ?_)
      refine WL.c rfl (o_call Tryd.call9 (lc rfl ln) ((hQ _ _ _ hK2.rd hT (by have := hx.size; omega)).mono ?_))
      rintro v113 w113 ⟨rfl, hx113⟩
      replace hx := hx.tr hx113
      replace hD := hD.ext hx113
      replace hK2 := hK2.ext hx113
      replace hC4 := hx113.blk hC4 (fun h => h)
      replace hB12 := hx113.blk hB12 (fun h => h)
      refine WL.c rfl (o_mvh (by first | exact (show _ = Value.tuple _ from rfl) | exact rfl) ?_)
      refine WL.c rfl (o_ext rfl rfl ?_)
      refine WL.c rfl (o_ext rfl rfl ?_)
      refine WL.c rfl (o_ash (show _ = Value.string _ from rfl) ?_)
      refine WL.c rfl (o_ash (show _ = Value.int _ _ from rfl) ?_)
      refine WL.nil ?_
      refine W.seq ?_
      refine W.seq ?_
      refine W.region ?_
      refine WL.c rfl (o_ldA TI24 rfl rfl (show Cells _ b4 0 [dv] from Cells.of hC4 0 _ (by simp)) rfl ?_)
      refine WL.c rfl (o_ldA TI24 rfl rfl (show Cells _ b12 0 [(Value.slice (some ⟨gb, 0, none⟩) D.length gc)] from Cells.of hB12 0 _ (by simp)) rfl ?_)
      refine WL.c rfl (o_call Tryd.call10 (lc rfl (lc rfl ln)) ((ssame_spec D D2 dv (Value.slice (some ⟨gb, 0, none⟩) D.length gc) _ _ _ hD hK2.rd (by omega) htl).mono ?_))
      rintro v118 w118 ⟨rfl, hx118⟩
      replace hx := hx.tr hx118
      refine WL.nil ?_
      refine W.condF' rfl (by simp [hne]) ?_
      refine W.skip ?_
      refine W.seq ?_
      by_cases her2 : er2 = 0
      · skip
        have hdt : ¬ tx2 = tx := fun he => hne (prn_inj hPok (he ▸ hQok her2))
        refine W.region ?_
        refine WL.c rfl (o_mvh (show _ = Value.int _ _ from rfl) ?_)
        refine WL.c rfl (o_ne rfl rfl ?_)
        refine WL.c rfl (o_mvh (show _ = Value.bool _ from rfl) ?_)
        refine WL.s rfl (by simp [her2]) rfl ?_
        refine WL.s rfl (by simp [her2]) rfl ?_
        refine WL.c rfl (o_pickF rfl (by simp [her2]) ?_)
        refine WL.c rfl (o_mvh (show _ = Value.bool _ from rfl) ?_)
        refine WL.g rfl (rfl) rfl (o_mvh (show _ = Value.int _ _ from rfl) ?_)
        refine WL.g rfl (rfl) rfl (o_eq rfl rfl ?_)
        refine WL.g rfl (rfl) rfl (o_mvh (show _ = Value.bool _ from rfl) ?_)
        refine WL.g rfl (by simp [her2]) rfl (o_mvh (show _ = Value.string _ from rfl) ?_)
        refine WL.g rfl (by simp [her2]) rfl (o_mvh (show _ = Value.string _ from rfl) ?_)
        refine WL.g rfl (by simp [her2]) rfl (o_neT rfl rfl ?_)
        refine WL.g rfl (rfl) rfl (o_pickA rfl rfl ?_)
        refine WL.c rfl (o_pickO rfl rfl ?_)
        refine WL.c rfl (o_ash (show _ = Value.bool _ from rfl) ?_)
        refine WL.nil ?_
        refine W.ret ?_
        refine ret1v rfl (show _ = Value.bool _ from rfl) ?_
        exact ⟨congrArg Value.bool (by simp [hdt, her2]), hx⟩
      · skip
        have hdt := hQz her2
        subst hdt
        refine W.region ?_
        refine WL.c rfl (o_mvh (show _ = Value.int _ _ from rfl) ?_)
        refine WL.c rfl (o_ne rfl rfl ?_)
        refine WL.c rfl (o_mvh (show _ = Value.bool _ from rfl) ?_)
        refine WL.g rfl (by simp [her2]) rfl (o_mvh (show _ = Value.string _ from rfl) ?_)
        refine WL.g rfl (by simp [her2]) rfl (o_eqT rfl rfl ?_)
        refine WL.c rfl (o_pickA rfl rfl ?_)
        refine WL.c rfl (o_mvh (show _ = Value.bool _ from rfl) ?_)
        refine WL.s rfl (by simp [her2]) rfl ?_
        refine WL.s rfl (by simp [her2]) rfl ?_
        refine WL.s rfl (by simp [her2]) rfl ?_
        refine WL.z rfl rfl ?_
        refine WL.z rfl rfl ?_
        refine WL.z rfl rfl ?_
        refine WL.s rfl (by simp [her2]) rfl ?_
        refine WL.c rfl (o_pickT rfl (by simp [her2]) ?_)
        refine WL.c rfl (o_ash (show _ = Value.bool _ from rfl) ?_)
        refine WL.nil ?_
        refine W.ret ?_
        refine ret1v rfl (show _ = Value.bool _ from rfl) ?_
        exact ⟨congrArg Value.bool (by simp [her2]), hx⟩
    · skip
      skip
      refine W.region ?_
      refine WL.c rfl (o_eq rfl rfl ?_)
      refine WL.c rfl (o_ash (show _ = Value.bool _ from rfl) ?_)
      refine WL.nil ?_
      refine W.condF' rfl (by simp) ?_
      refine W.seq ?_
      refine W.region ?_
      refine WL.c rfl (o_eq rfl rfl ?_)
      refine WL.c rfl (o_ash (show _ = Value.bool _ from rfl) ?_)
      refine WL.nil ?_
      refine W.condT' rfl (by simp) ?_
      refine W.region ?_
      refine WL.c rfl (o_mvh (by first | exact (show _ = Value.slice _ _ _ from rfl) | exact rfl) ?_)
      refine WL.c rfl (o_mvh (show _ = Value.int _ _ from rfl) ?_)
      refine WL.c rfl (o_ixB (i := j) TI32 TI36 (show _ = Value.slice (some ⟨tb, 0, none⟩) D[k].ty.length tc from rfl) rfl (by omega) ?_)
      refine WL.c rfl (o_fa 1 TI36 rfl TI3 rfl rfl ?_)
      refine WL.c rfl (o_ld TI3 rfl rfl (htcl 1 _ rfl) ?_)
      refine WL.c rfl (o_add rfl rfl ?_)
      refine WL.c rfl (o_ixB (i := j) TI32 TI36 (show _ = Value.slice (some ⟨tb, 0, none⟩) D[k].ty.length tc from rfl) rfl (by omega) ?_)
      refine WL.c rfl (o_fa 1 TI36 rfl TI3 rfl rfl ?_)
      refine WL.u (o_stRj TI3 rfl (show 0 + j * 7 + 1 = j * 7 + 1 by omega) (show _ = Value.int .i64 (IntKind.wrap .i64 (D[k].ty[j].n + 1)) from rfl) rfl (hKk ▸ htr) (show Value.ownBlock (Value.slice (some ⟨tb, 0, none⟩) D[k].ty.length tc) = some tb from rfl) (by omega) ?_)
      intro w98 hr98 ho98 hsz98
      have ho : Only (fun b => (KW35 k).ownBlock = some b) w12z w98 := by rw [hKk]; exact ho98
      have hK2 : Defs w98 HH (setE D k j { D[k].ty[j] with n := IntKind.wrap .i64 (D[k].ty[j].n + 1) }) (Value.slice (some ⟨gb, 0, none⟩) D.length gc) KW35 := hK35.setE hk ho (by rw [tyD_at hk, ← exs_setc (c := 1) (u := Value.int .i64 (IntKind.wrap .i64 (D[k].ty[j].n + 1))) (by decide) hj rfl, hKk]; exact hr98)
      have hlo : ∀ b, (KW35 k).ownBlock = some b → HH ≤ b := fun b hb => (htr.lt b hb).1
      replace hB12 := ho.blk hB12 (fun hb => own_off htr hB12 (by decide) hb)
      replace hC4 := ho.blk hC4 (fun hb => own_off htr hC4 (by decide) hb)
      have h1M := hMk.lt
      replace hx : Ext w0 w98 := hx.trans' ho (fun _ h => h) (fun b hb he => by have := hlo b he; omega)
      replace hT := hT0.ext hx
      replace hD := hD0.ext hx
      obtain ⟨D2, hD2⟩ : ∃ D2, D2 = (setE D k j { D[k].ty[j] with n := IntKind.wrap .i64 (D[k].ty[j].n + 1) }) := ⟨_, rfl⟩
      have hne : ¬ D.map bareD = D2.map bareD := by rw [hD2]; exact setE_ne hk hj (fun he => wrap_ne _ (bareE_iff.1 he).2.1)
      have hlim2 : DOk D2 := by rw [hD2]; exact hlim.setE (hlim.ex D[k] (List.getElem_mem hk) D[k].ty[j] (List.getElem_mem hj))
      have hsz2 : ∀ d ∈ D2, d.ty.length ≤ 1048576 := by rw [hD2]; intro d hd; rcases setE_mem hk hd with h1 | ⟨h1, rfl⟩; exact hszD d h1; show (List.set _ _ _).length ≤ _; rw [List.length_set]; exact hszD _ h1
      rw [← hD2] at hK2
      obtain ⟨tx2, er2, hQ, hQz, hQok⟩ := print_val D2 hlim2 hsz2
      clear hD2
      refine WL.nil ?_
      refine W.seq ?_
      refine W.region ?_
      refine WL.c rfl (o_ldA TI24 rfl rfl (show Cells _ b12 0 [(Value.slice (some ⟨gb, 0, none⟩) D.length gc)] from Cells.of hB12 0 _ (by simp)) rfl ?_)
      refine WL.c rfl (o_call Tryd.call9 (lc rfl ln) ((hQ _ _ _ hK2.rd hT (by have := hx.size; omega)).mono ?_))
      rintro v113 w113 ⟨rfl, hx113⟩
      replace hx := hx.tr hx113
      replace hD := hD.ext hx113
      replace hK2 := hK2.ext hx113
      replace hC4 := hx113.blk hC4 (fun h => h)
      replace hB12 := hx113.blk hB12 (fun h => h)
      refine WL.c rfl (o_mvh (by first | exact (show _ = Value.tuple _ from rfl) | exact rfl) ?_)
      refine WL.c rfl (o_ext rfl rfl ?_)
      refine WL.c rfl (o_ext rfl rfl ?_)
      refine WL.c rfl (o_ash (show _ = Value.string _ from rfl) ?_)
      refine WL.c rfl (o_ash (show _ = Value.int _ _ from rfl) ?_)
      refine WL.nil ?_
      refine W.seq ?_
      refine W.seq ?_
      refine W.region ?_
      refine WL.c rfl (o_ldA TI24 rfl rfl (show Cells _ b4 0 [dv] from Cells.of hC4 0 _ (by simp)) rfl ?_)
      refine WL.c rfl (o_ldA TI24 rfl rfl (show Cells _ b12 0 [(Value.slice (some ⟨gb, 0, none⟩) D.length gc)] from Cells.of hB12 0 _ (by simp)) rfl ?_)
      refine WL.c rfl (o_call Tryd.call10 (lc rfl (lc rfl ln)) ((ssame_spec D D2 dv (Value.slice (some ⟨gb, 0, none⟩) D.length gc) _ _ _ hD hK2.rd (by omega) htl).mono ?_))
      rintro v118 w118 ⟨rfl, hx118⟩
      replace hx := hx.tr hx118
      refine WL.nil ?_
      refine W.condF' rfl (by simp [hne]) ?_
      refine W.skip ?_
      refine W.seq ?_
      by_cases her2 : er2 = 0
      · skip
        have hdt : ¬ tx2 = tx := fun he => hne (prn_inj hPok (he ▸ hQok her2))
        refine W.region ?_
        refine WL.c rfl (o_mvh (show _ = Value.int _ _ from rfl) ?_)
        refine WL.c rfl (o_ne rfl rfl ?_)
        refine WL.c rfl (o_mvh (show _ = Value.bool _ from rfl) ?_)
        refine WL.s rfl (by simp [her2]) rfl ?_
        refine WL.s rfl (by simp [her2]) rfl ?_
        refine WL.c rfl (o_pickF rfl (by simp [her2]) ?_)
        refine WL.c rfl (o_mvh (show _ = Value.bool _ from rfl) ?_)
        refine WL.g rfl (rfl) rfl (o_mvh (show _ = Value.int _ _ from rfl) ?_)
        refine WL.g rfl (rfl) rfl (o_eq rfl rfl ?_)
        refine WL.g rfl (rfl) rfl (o_mvh (show _ = Value.bool _ from rfl) ?_)
        refine WL.g rfl (by simp [her2]) rfl (o_mvh (show _ = Value.string _ from rfl) ?_)
        refine WL.g rfl (by simp [her2]) rfl (o_mvh (show _ = Value.string _ from rfl) ?_)
        refine WL.g rfl (by simp [her2]) rfl (o_neT rfl rfl ?_)
        refine WL.g rfl (rfl) rfl (o_pickA rfl rfl ?_)
        refine WL.c rfl (o_pickO rfl rfl ?_)
        refine WL.c rfl (o_ash (show _ = Value.bool _ from rfl) ?_)
        refine WL.nil ?_
        refine W.ret ?_
        refine ret1v rfl (show _ = Value.bool _ from rfl) ?_
        exact ⟨congrArg Value.bool (by simp [hdt, her2]), hx⟩
      · skip
        have hdt := hQz her2
        subst hdt
        refine W.region ?_
        refine WL.c rfl (o_mvh (show _ = Value.int _ _ from rfl) ?_)
        refine WL.c rfl (o_ne rfl rfl ?_)
        refine WL.c rfl (o_mvh (show _ = Value.bool _ from rfl) ?_)
        refine WL.g rfl (by simp [her2]) rfl (o_mvh (show _ = Value.string _ from rfl) ?_)
        refine WL.g rfl (by simp [her2]) rfl (o_eqT rfl rfl ?_)
        refine WL.c rfl (o_pickA rfl rfl ?_)
        refine WL.c rfl (o_mvh (show _ = Value.bool _ from rfl) ?_)
        refine WL.s rfl (by simp [her2]) rfl ?_
        refine WL.s rfl (by simp [her2]) rfl ?_
        refine WL.s rfl (by simp [her2]) rfl ?_
        refine WL.z rfl rfl ?_
        refine WL.z rfl rfl ?_
        refine WL.z rfl rfl ?_
        refine WL.s rfl (by simp [her2]) rfl ?_
        refine WL.c rfl (o_pickT rfl (by simp [her2]) ?_)
        refine WL.c rfl (o_ash (show _ = Value.bool _ from rfl) ?_)
        refine WL.nil ?_
        refine W.ret ?_
        refine ret1v rfl (show _ = Value.bool _ from rfl) ?_
        exact ⟨congrArg Value.bool (by simp [her2]), hx⟩
    · skip
      skip
      refine W.region ?_
      refine WL.c rfl (o_eq rfl rfl ?_)
      refine WL.c rfl (o_ash (show _ = Value.bool _ from rfl) ?_)
      refine WL.nil ?_
      refine W.condF' rfl (by simp) ?_
      refine W.seq ?_
      refine W.region ?_
      refine WL.c rfl (o_eq rfl rfl ?_)
      refine WL.c rfl (o_ash (show _ = Value.bool _ from rfl) ?_)
      refine WL.nil ?_
      refine W.condF' rfl (by simp) ?_
      refine W.seq ?_
      refine W.region ?_
      refine WL.c rfl (o_eq rfl rfl ?_)
      refine WL.c rfl (o_ash (show _ = Value.bool _ from rfl) ?_)
      refine WL.nil ?_
      refine W.condT' rfl (by simp) ?_
      refine W.region ?_
      refine WL.c rfl (o_mvh (by first | exact (show _ = Value.slice _ _ _ from rfl) | exact rfl) ?_)
      refine WL.c rfl (o_mvh (show _ = Value.int _ _ from rfl) ?_)
      refine WL.c rfl (o_mvh (by first | exact (show _ = Value.slice _ _ _ from rfl) | exact rfl) ?_)
      refine WL.c rfl (o_mvh (show _ = Value.int _ _ from rfl) ?_)
      refine WL.c rfl (o_ixB (i := j) TI32 TI36 (show _ = Value.slice (some ⟨tb, 0, none⟩) D[k].ty.length tc from rfl) rfl (by omega) ?_)
      refine WL.c rfl (o_fa 3 TI36 rfl TI9 rfl rfl ?_)
      refine WL.c rfl (o_ld TI9 rfl rfl (htcl 3 _ rfl) ?_)
      refine WL.c rfl (o_addT rfl rfl (by have := hlb _ (List.getElem_mem hj); simp; omega) ?_)
      refine WL.c rfl (o_ixB (i := j) TI32 TI36 (show _ = Value.slice (some ⟨tb, 0, none⟩) D[k].ty.length tc from rfl) rfl (by omega) ?_)
      refine WL.c rfl (o_fa 3 TI36 rfl TI9 rfl rfl ?_)
      refine WL.u (o_stRj TI9 rfl (show 0 + j * 7 + 3 = j * 7 + 3 by omega) (show _ = st (D[k].ty[j].label ++ [121]) from rfl) rfl (hKk ▸ htr) (show Value.ownBlock (Value.slice (some ⟨tb, 0, none⟩) D[k].ty.length tc) = some tb from rfl) (by omega) ?_)
      intro w110 hr110 ho110 hsz110
      have ho : Only (fun b => (KW35 k).ownBlock = some b) w12z w110 := by rw [hKk]; exact ho110
      have hK2 : Defs w110 HH (setE D k j { D[k].ty[j] with label := D[k].ty[j].label ++ [121] }) (Value.slice (some ⟨gb, 0, none⟩) D.length gc) KW35 := hK35.setE hk ho (by rw [tyD_at hk, ← exs_setc (c := 3) (u := st (D[k].ty[j].label ++ [121])) (by decide) hj rfl, hKk]; exact hr110)
      have hlo : ∀ b, (KW35 k).ownBlock = some b → HH ≤ b := fun b hb => (htr.lt b hb).1
      replace hB12 := ho.blk hB12 (fun hb => own_off htr hB12 (by decide) hb)
      replace hC4 := ho.blk hC4 (fun hb => own_off htr hC4 (by decide) hb)
      have h1M := hMk.lt
      replace hx : Ext w0 w110 := hx.trans' ho (fun _ h => h) (fun b hb he => by have := hlo b he; omega)
      replace hT := hT0.ext hx
      replace hD := hD0.ext hx
      obtain ⟨D2, hD2⟩ : ∃ D2, D2 = (setE D k j { D[k].ty[j] with label := D[k].ty[j].label ++ [121] }) := ⟨_, rfl⟩
      have hne : ¬ D.map bareD = D2.map bareD := by rw [hD2]; exact setE_ne hk hj (fun he => by have h1 := congrArg List.length (bareE_iff.1 he).2.2.2.1; simp at h1)
      have hlim2 : DOk D2 := by rw [hD2]; exact hlim.setE ⟨(hlim.ex _ (List.getElem_mem hk) _ (List.getElem_mem hj)).1, by have := hlb _ (List.getElem_mem hj); simp; omega⟩
      have hsz2 : ∀ d ∈ D2, d.ty.length ≤ 1048576 := by rw [hD2]; intro d hd; rcases setE_mem hk hd with h1 | ⟨h1, rfl⟩; exact hszD d h1; show (List.set _ _ _).length ≤ _; rw [List.length_set]; exact hszD _ h1
      rw [← hD2] at hK2
      obtain ⟨tx2, er2, hQ, hQz, hQok⟩ := print_val D2 hlim2 hsz2
      clear hD2
      refine WL.nil ?_
      refine W.seq ?_
      refine W.region ?_
      refine WL.c rfl (o_ldA TI24 rfl rfl (show Cells _ b12 0 [(Value.slice (some ⟨gb, 0, none⟩) D.length gc)] from Cells.of hB12 0 _ (by simp)) rfl ?_)
      refine WL.c rfl (o_call Tryd.call9 (lc rfl ln) ((hQ _ _ _ hK2.rd hT (by have := hx.size; omega)).mono ?_))
      rintro v113 w113 ⟨rfl, hx113⟩
      replace hx := hx.tr hx113
      replace hD := hD.ext hx113
      replace hK2 := hK2.ext hx113
      replace hC4 := hx113.blk hC4 (fun h => h)
      replace hB12 := hx113.blk hB12 (fun h => h)
      refine WL.c rfl (o_mvh (by first | exact (show _ = Value.tuple _ from rfl) | exact rfl) ?_)
      refine WL.c rfl (o_ext rfl rfl ?_)
      refine WL.c rfl (o_ext rfl rfl ?_)
      refine WL.c rfl (o_ash (show _ = Value.string _ from rfl) ?_)
      refine WL.c rfl (o_ash (show _ = Value.int _ _ from rfl) ?_)
      refine WL.nil ?_
      refine W.seq ?_
      refine W.seq ?_
      refine W.region ?_
      refine WL.c rfl (o_ldA TI24 rfl rfl (show Cells _ b4 0 [dv] from Cells.of hC4 0 _ (by simp)) rfl ?_)
      refine WL.c rfl (o_ldA TI24 rfl rfl (show Cells _ b12 0 [(Value.slice (some ⟨gb, 0, none⟩) D.length gc)] from Cells.of hB12 0 _ (by simp)) rfl ?_)
      refine WL.c rfl (o_call Tryd.call10 (lc rfl (lc rfl ln)) ((ssame_spec D D2 dv (Value.slice (some ⟨gb, 0, none⟩) D.length gc) _ _ _ hD hK2.rd (by omega) htl).mono ?_))
      rintro v118 w118 ⟨rfl, hx118⟩
      replace hx := hx.tr hx118
      refine WL.nil ?_
      refine W.condF' rfl (by simp [hne]) ?_
      refine W.skip ?_
      refine W.seq ?_
      by_cases her2 : er2 = 0
      · skip
        have hdt : ¬ tx2 = tx := fun he => hne (prn_inj hPok (he ▸ hQok her2))
        refine W.region ?_
        refine WL.c rfl (o_mvh (show _ = Value.int _ _ from rfl) ?_)
        refine WL.c rfl (o_ne rfl rfl ?_)
        refine WL.c rfl (o_mvh (show _ = Value.bool _ from rfl) ?_)
        refine WL.s rfl (by simp [her2]) rfl ?_
        refine WL.s rfl (by simp [her2]) rfl ?_
        refine WL.c rfl (o_pickF rfl (by simp [her2]) ?_)
        refine WL.c rfl (o_mvh (show _ = Value.bool _ from rfl) ?_)
        refine WL.g rfl (rfl) rfl (o_mvh (show _ = Value.int _ _ from rfl) ?_)
        refine WL.g rfl (rfl) rfl (o_eq rfl rfl ?_)
        refine WL.g rfl (rfl) rfl (o_mvh (show _ = Value.bool _ from rfl) ?_)
        refine WL.g rfl (by simp [her2]) rfl (o_mvh (show _ = Value.string _ from rfl) ?_)
        refine WL.g rfl (by simp [her2]) rfl (o_mvh (show _ = Value.string _ from rfl) ?_)
        refine WL.g rfl (by simp [her2]) rfl (o_neT rfl rfl ?_)
        refine WL.g rfl (rfl) rfl (o_pickA rfl rfl ?_)
        refine WL.c rfl (o_pickO rfl rfl ?_)
        refine WL.c rfl (o_ash (show _ = Value.bool _ from rfl) ?_)
        refine WL.nil ?_
        refine W.ret ?_
        refine ret1v rfl (show _ = Value.bool _ from rfl) ?_
        exact ⟨congrArg Value.bool (by simp [hdt, her2]), hx⟩
      · skip
        have hdt := hQz her2
        subst hdt
        refine W.region ?_
        refine WL.c rfl (o_mvh (show _ = Value.int _ _ from rfl) ?_)
        refine WL.c rfl (o_ne rfl rfl ?_)
        refine WL.c rfl (o_mvh (show _ = Value.bool _ from rfl) ?_)
        refine WL.g rfl (by simp [her2]) rfl (o_mvh (show _ = Value.string _ from rfl) ?_)
        refine WL.g rfl (by simp [her2]) rfl (o_eqT rfl rfl ?_)
        refine WL.c rfl (o_pickA rfl rfl ?_)
        refine WL.c rfl (o_mvh (show _ = Value.bool _ from rfl) ?_)
        refine WL.s rfl (by simp [her2]) rfl ?_
        refine WL.s rfl (by simp [her2]) rfl ?_
        refine WL.s rfl (by simp [her2]) rfl ?_
        refine WL.z rfl rfl ?_
        refine WL.z rfl rfl ?_
        refine WL.z rfl rfl ?_
        refine WL.s rfl (by simp [her2]) rfl ?_
        refine WL.c rfl (o_pickT rfl (by simp [her2]) ?_)
        refine WL.c rfl (o_ash (show _ = Value.bool _ from rfl) ?_)
        refine WL.nil ?_
        refine W.ret ?_
        refine ret1v rfl (show _ = Value.bool _ from rfl) ?_
        exact ⟨congrArg Value.bool (by simp [her2]), hx⟩
    · skip
      skip
      refine W.region ?_
      refine WL.c rfl (o_eq rfl rfl ?_)
      refine WL.c rfl (o_ash (show _ = Value.bool _ from rfl) ?_)
      refine WL.nil ?_
      refine W.condF' rfl (by simp) ?_
      refine W.seq ?_
      refine W.region ?_
      refine WL.c rfl (o_eq rfl rfl ?_)
      refine WL.c rfl (o_ash (show _ = Value.bool _ from rfl) ?_)
      refine WL.nil ?_
      refine W.condF' rfl (by simp) ?_
      refine W.seq ?_
      refine W.region ?_
      refine WL.c rfl (o_eq rfl rfl ?_)
      refine WL.c rfl (o_ash (show _ = Value.bool _ from rfl) ?_)
      refine WL.nil ?_
      refine W.condF' rfl (by simp) ?_
      refine W.region ?_
      refine WL.c rfl (o_mvh (by first | exact (show _ = Value.slice _ _ _ from rfl) | exact rfl) ?_)
      refine WL.c rfl (o_mvh (show _ = Value.int _ _ from rfl) ?_)
      refine WL.c rfl (o_ixB (i := j) TI32 TI36 (show _ = Value.slice (some ⟨tb, 0, none⟩) D[k].ty.length tc from rfl) rfl (by omega) ?_)
      refine WL.c rfl (o_fa 4 TI36 rfl TI3 rfl rfl ?_)
      refine WL.c rfl (o_ld TI3 rfl rfl (htcl 4 _ rfl) ?_)
      refine WL.c rfl (o_add rfl rfl ?_)
      refine WL.c rfl (o_ixB (i := j) TI32 TI36 (show _ = Value.slice (some ⟨tb, 0, none⟩) D[k].ty.length tc from rfl) rfl (by omega) ?_)
      refine WL.c rfl (o_fa 4 TI36 rfl TI3 rfl rfl ?_)
      refine WL.u (o_stRj TI3 rfl (show 0 + j * 7 + 4 = j * 7 + 4 by omega) (show _ = Value.int .i64 (IntKind.wrap .i64 (D[k].ty[j].tag + 1)) from rfl) rfl (hKk ▸ htr) (show Value.ownBlock (Value.slice (some ⟨tb, 0, none⟩) D[k].ty.length tc) = some tb from rfl) (by omega) ?_)
      intro w74 hr74 ho74 hsz74
      have ho : Only (fun b => (KW35 k).ownBlock = some b) w12z w74 := by rw [hKk]; exact ho74
      have hK2 : Defs w74 HH (setE D k j { D[k].ty[j] with tag := IntKind.wrap .i64 (D[k].ty[j].tag + 1) }) (Value.slice (some ⟨gb, 0, none⟩) D.length gc) KW35 := hK35.setE hk ho (by rw [tyD_at hk, ← exs_setc (c := 4) (u := Value.int .i64 (IntKind.wrap .i64 (D[k].ty[j].tag + 1))) (by decide) hj rfl, hKk]; exact hr74)
      have hlo : ∀ b, (KW35 k).ownBlock = some b → HH ≤ b := fun b hb => (htr.lt b hb).1
      replace hB12 := ho.blk hB12 (fun hb => own_off htr hB12 (by decide) hb)
      replace hC4 := ho.blk hC4 (fun hb => own_off htr hC4 (by decide) hb)
      have h1M := hMk.lt
      replace hx : Ext w0 w74 := hx.trans' ho (fun _ h => h) (fun b hb he => by have := hlo b he; omega)
      replace hT := hT0.ext hx
      replace hD := hD0.ext hx
      obtain ⟨D2, hD2⟩ : ∃ D2, D2 = (setE D k j { D[k].ty[j] with tag := IntKind.wrap .i64 (D[k].ty[j].tag + 1) }) := ⟨_, rfl⟩
      have hne : ¬ D.map bareD = D2.map bareD := by rw [hD2]; exact setE_ne hk hj (fun he => wrap_ne _ (bareE_iff.1 he).2.2.2.2.1)
      have hlim2 : DOk D2 := by rw [hD2]; exact hlim.setE (hlim.ex D[k] (List.getElem_mem hk) D[k].ty[j] (List.getElem_mem hj))
      have hsz2 : ∀ d ∈ D2, d.ty.length ≤ 1048576 := by rw [hD2]; intro d hd; rcases setE_mem hk hd with h1 | ⟨h1, rfl⟩; exact hszD d h1; show (List.set _ _ _).length ≤ _; rw [List.length_set]; exact hszD _ h1
      rw [← hD2] at hK2
      obtain ⟨tx2, er2, hQ, hQz, hQok⟩ := print_val D2 hlim2 hsz2
      clear hD2
      refine WL.nil ?_
      refine W.seq ?_
      refine W.region ?_
      refine WL.c rfl (o_ldA TI24 rfl rfl (show Cells _ b12 0 [(Value.slice (some ⟨gb, 0, none⟩) D.length gc)] from Cells.of hB12 0 _ (by simp)) rfl ?_)
      refine WL.c rfl (o_call Tryd.call9 (lc rfl ln) ((hQ _ _ _ hK2.rd hT (by have := hx.size; omega)).mono ?_))
      rintro v113 w113 ⟨rfl, hx113⟩
      replace hx := hx.tr hx113
      replace hD := hD.ext hx113
      replace hK2 := hK2.ext hx113
      replace hC4 := hx113.blk hC4 (fun h => h)
      replace hB12 := hx113.blk hB12 (fun h => h)
      refine WL.c rfl (o_mvh (by first | exact (show _ = Value.tuple _ from rfl) | exact rfl) ?_)
      refine WL.c rfl (o_ext rfl rfl ?_)
      refine WL.c rfl (o_ext rfl rfl ?_)
      refine WL.c rfl (o_ash (show _ = Value.string _ from rfl) ?_)
      refine WL.c rfl (o_ash (show _ = Value.int _ _ from rfl) ?_)
      refine WL.nil ?_
      refine W.seq ?_
      refine W.seq ?_
      refine W.region ?_
      refine WL.c rfl (o_ldA TI24 rfl rfl (show Cells _ b4 0 [dv] from Cells.of hC4 0 _ (by simp)) rfl ?_)
      refine WL.c rfl (o_ldA TI24 rfl rfl (show Cells _ b12 0 [(Value.slice (some ⟨gb, 0, none⟩) D.length gc)] from Cells.of hB12 0 _ (by simp)) rfl ?_)
      refine WL.c rfl (o_call Tryd.call10 (lc rfl (lc rfl ln)) ((ssame_spec D D2 dv (Value.slice (some ⟨gb, 0, none⟩) D.length gc) _ _ _ hD hK2.rd (by omega) htl).mono ?_))
      rintro v118 w118 ⟨rfl, hx118⟩
      replace hx := hx.tr hx118
      refine WL.nil ?_
      refine W.condF' rfl (by simp [hne]) ?_
      refine W.skip ?_
      refine W.seq ?_
      by_cases her2 : er2 = 0
      · skip
        have hdt : ¬ tx2 = tx := fun he => hne (prn_inj hPok (he ▸ hQok her2))
        refine W.region ?_
        refine WL.c rfl (o_mvh (show _ = Value.int _ _ from rfl) ?_)
        refine WL.c rfl (o_ne rfl rfl ?_)
        refine WL.c rfl (o_mvh (show _ = Value.bool _ from rfl) ?_)
        refine WL.s rfl (by simp [her2]) rfl ?_
        refine WL.s rfl (by simp [her2]) rfl ?_
        refine WL.c rfl (o_pickF rfl (by simp [her2]) ?_)
        refine WL.c rfl (o_mvh (show _ = Value.bool _ from rfl) ?_)
        refine WL.g rfl (rfl) rfl (o_mvh (show _ = Value.int _ _ from rfl) ?_)
        refine WL.g rfl (rfl) rfl (o_eq rfl rfl ?_)
        refine WL.g rfl (rfl) rfl (o_mvh (show _ = Value.bool _ from rfl) ?_)
        refine WL.g rfl (by simp [her2]) rfl (o_mvh (show _ = Value.string _ from rfl) ?_)
        refine WL.g rfl (by simp [her2]) rfl (o_mvh (show _ = Value.string _ from rfl) ?_)
        refine WL.g rfl (by simp [her2]) rfl (o_neT rfl rfl ?_)
        refine WL.g rfl (rfl) rfl (o_pickA rfl rfl ?_)
        refine WL.c rfl (o_pickO rfl rfl ?_)
        refine WL.c rfl (o_ash (show _ = Value.bool _ from rfl) ?_)
        refine WL.nil ?_
        refine W.ret ?_
        refine ret1v rfl (show _ = Value.bool _ from rfl) ?_
        exact ⟨congrArg Value.bool (by simp [hdt, her2]), hx⟩
      · skip
        have hdt := hQz her2
        subst hdt
        refine W.region ?_
        refine WL.c rfl (o_mvh (show _ = Value.int _ _ from rfl) ?_)
        refine WL.c rfl (o_ne rfl rfl ?_)
        refine WL.c rfl (o_mvh (show _ = Value.bool _ from rfl) ?_)
        refine WL.g rfl (by simp [her2]) rfl (o_mvh (show _ = Value.string _ from rfl) ?_)
        refine WL.g rfl (by simp [her2]) rfl (o_eqT rfl rfl ?_)
        refine WL.c rfl (o_pickA rfl rfl ?_)
        refine WL.c rfl (o_mvh (show _ = Value.bool _ from rfl) ?_)
        refine WL.s rfl (by simp [her2]) rfl ?_
        refine WL.s rfl (by simp [her2]) rfl ?_
        refine WL.s rfl (by simp [her2]) rfl ?_
        refine WL.z rfl rfl ?_
        refine WL.z rfl rfl ?_
        refine WL.z rfl rfl ?_
        refine WL.s rfl (by simp [her2]) rfl ?_
        refine WL.c rfl (o_pickT rfl (by simp [her2]) ?_)
        refine WL.c rfl (o_ash (show _ = Value.bool _ from rfl) ?_)
        refine WL.nil ?_
        refine W.ret ?_
        refine ret1v rfl (show _ = Value.bool _ from rfl) ?_
        exact ⟨congrArg Value.bool (by simp [her2]), hx⟩
  · skip
    skip
    refine W.region ?_
    refine WL.c rfl (o_mvh (show _ = Value.int _ _ from rfl) ?_)
    refine WL.c rfl (o_ne rfl rfl ?_)
    refine WL.c rfl (o_mvh (show _ = Value.bool _ from rfl) ?_)
    refine WL.s rfl (by simp [her]) rfl ?_
    refine WL.s rfl (by simp [her]) rfl ?_
    refine WL.s rfl (by simp [her]) rfl ?_
    refine WL.s rfl (by simp [her]) rfl ?_
    refine WL.c rfl (o_pickT rfl (by simp [her]) ?_)
    refine WL.nil ?_
    refine W.condT' rfl (by simp) ?_
    refine W.seq ?_
    refine W.region ?_
    refine WL.c rfl (o_ash (show _ = Value.bool _ from rfl) ?_)
    refine WL.nil ?_
    refine W.ret ?_
    refine ret1v rfl (show _ = Value.bool _ from rfl) ?_
    exact ⟨rfl, hx⟩
end Go.Proofs.YtanimeifmicmoaaDoor

set_option linter.unusedSimpArgs false
set_option linter.unusedVariables false
set_option maxRecDepth 100000
namespace Go.Proofs.YtanimeifmicmoaaDoor
open Go Go.Vc Go.RowKit Go.Proofs

/-- its bulk is bounded -/
def Blk {H : Type} (d : DataW H) : Prop := Rows.uptoBulk d ≤ 1048576
theorem bulk_mem {H : Type} : ∀ {l : List (DataW H)} {d : DataW H}, d ∈ l → Rows.uptoBulk d ≤ Rows.uptoBulkAll l
  | d0 :: l, d, h => by
    rw [Rows.uptoBulkAll]
    rcases List.mem_cons.1 h with rfl | h
    · omega
    · have := bulk_mem h; omega
theorem bulk_pos {H : Type} (d : DataW H) : 1 ≤ Rows.uptoBulk d := by
  cases d with
  | lit x => cases x <;> simp [Rows.uptoBulk]
  | _ => simp [Rows.uptoBulk]
theorem bulk_len {H : Type} : ∀ l : List (DataW H), l.length ≤ Rows.uptoBulkAll l
  | [] => Nat.zero_le _
  | d :: l => by rw [Rows.uptoBulkAll, List.length_cons]; have := bulk_len l; have := bulk_pos d; omega
theorem Blk.elem {H : Type} {elems spare : List (DataW H)} {d : DataW H} (h : Blk (.slice elems spare)) (hd : d ∈ elems) : Blk d := by
  have := bulk_mem hd; unfold Blk at h ⊢; rw [Rows.uptoBulk] at h; omega
theorem Blk.part {H : Type} {parts : List (DataW H)} {i : Nat} {d : DataW H} (h : Blk (.agg parts)) (hd : parts[i]? = some d) : Blk d := by
  have := bulk_mem (List.mem_of_getElem? hd); unfold Blk at h ⊢; rw [Rows.uptoBulk] at h; omega
theorem Blk.size {H : Type} {elems spare : List (DataW H)} (h : Blk (.slice elems spare)) : elems.length ≤ 1048576 := by
  have := bulk_len elems; unfold Blk at h; rw [Rows.uptoBulk] at h; omega
section
variable {H : Type} {enc : TypeId × Value → H} {P : Program} {W : World} {held : Bool}
/-- a slice of what is opened by 'hc' -/
theorem open_rowsQ {α : Type} {t e : TypeId} (s : Nat) (cells : α → List Value) (p : α → Prop) (hu : P.underlying t = some (.slice e)) (hs : P.cellsOf e = s) (hs0 : 0 < s) (hlen : ∀ o, (cells o).length = s)
    (hc : ∀ (n : Nat) (cs : List Value) (y : DataW H × List MemPlace), DataW.trod enc P W 0 (fun _ => true) held n e cs = some y → Blk y.1 → ∃ o, cs = cells o ∧ p o)
    {fuel : Nat} {v : Value} {x : DataW H × List MemPlace} (h : DataW.trod enc P W 0 (fun _ => true) held fuel t [v] = some x) (hz : Blk x.1) :
    ∃ os : List α, os.length ≤ maxLen ∧ Sl W s v os.length (os.flatMap cells) ∧ ∀ o ∈ os, p o := by
  rcases DataW.trod_slice hu h with ⟨hcs, hd⟩ | ⟨a, len, cap, elems, rest, n, -, hcs, hx, -, hl, hm, hle, hel, -, -⟩
  · simp only [List.cons.injEq, and_true] at hcs
    subst hcs
    exact ⟨[], Nat.zero_le _, Sl.nil W s, fun o h => by cases h⟩
  · simp only [List.cons.injEq, and_true] at hcs
    subst hcs
    subst hx
    have key : ∀ i, i < len → ∃ o : α, (∀ j v, (cells o)[j]? = some v → W.cell? (a.add (i * s + j)) = some v) ∧ p o := by
      intro i hi
      have he := hel i hi
      rw [List.getElem?_eq_getElem (by omega), hs, Option.bind_eq_some_iff] at he
      obtain ⟨cs, h1, h2⟩ := he
      obtain ⟨-, h4, h5⟩ := World.cells?_some h1
      obtain ⟨o, ho, hp⟩ := hc n cs _ h2 (hz.elem (List.mem_map.2 ⟨_, List.getElem_mem (by omega), rfl⟩))
      subst ho
      refine ⟨o, fun j v hj => ?_, hp⟩
      have hjs : j < s := by have := (List.getElem?_eq_some_iff.1 hj).1; rw [hlen] at this; exact this
      have := h5 j hjs
      rw [← hj, ← this, addr_add]
    obtain ⟨os, ho1, ho2⟩ := list_of _ len key
    refine ⟨os, by omega, ⟨?_, ?_⟩, fun o ho => ?_⟩
    · clear ho2 ho1
      induction os with
      | nil => simp
      | cons o os ih => rw [List.flatMap_cons, List.length_append, hlen, ih, List.length_cons, Nat.add_mul]; omega
    · by_cases h0 : len = 0
      · subst h0; exact .inl ⟨ho1, _, _, rfl⟩
      · obtain ⟨b, off, spot⟩ := a
        have h00 := (ho2 0 (by omega)).1 0 ((cells (os[0]'(by omega)))[0]'(by rw [hlen]; exact hs0)) (List.getElem?_eq_getElem _)
        have hsp : spot = none := by simpa [Addr.add] using World.cell?_spot h00
        subst hsp
        refine .inr ⟨b, off, cap, by rw [ho1], by omega, fun idx u hu => ?_⟩
        obtain ⟨i, j, hi, h1, h2⟩ := flatMap_get hlen os idx u hu
        have h3 := (ho2 i hi).1 j u h2
        rw [h1, ← h3, add_none]
    · obtain ⟨i, hi, rfl⟩ := List.getElem_of_mem ho
      exact (ho2 i hi).2
/-- a struct's field -/
theorem open_fieldQ {t u : TypeId} {fs : Array Field} {f : Field} (i off s : Nat) (hu : P.underlying t = some (.struct fs)) (hf : fs[i]? = some f) (ht : f.type = u) (ho : f.offset = off) (hs : P.cellsOf u = s) {fuel : Nat} {cs : List Value} {x : DataW H × List MemPlace}
    (h : DataW.trod enc P W 0 (fun _ => true) held fuel t cs = some x) (hz : Blk x.1) : ∃ n y, DataW.trod enc P W 0 (fun _ => true) held n u ((cs.drop off).take s) = some y ∧ Blk y.1 := by
  subst ht ho hs
  obtain ⟨xs, n, -, hx, -, hl, hall⟩ := DataW.trod_struct hu h
  have hi : i < fs.size := (Array.getElem?_eq_some_iff.1 hf).1
  have h1 := hall i f hf
  rw [List.getElem?_eq_getElem (by omega)] at h1
  refine ⟨n, _, h1, ?_⟩
  subst hx
  refine hz.part (i := i) ?_
  · rw [List.getElem?_map, List.getElem?_eq_getElem (by omega)]; rfl

theorem rows_lenQ {t e : TypeId} (hu : P.underlying t = some (.slice e)) {fuel : Nat} {a : Option Addr} {n c : Nat} {x : DataW H × List MemPlace}
    (h : DataW.trod enc P W 0 (fun _ => true) held fuel t [.slice a n c] = some x) (hz : Blk x.1) : n ≤ 1048576 := by
  rcases DataW.trod_slice hu h with ⟨hcs, hd⟩ | ⟨a', len, cap, elems, rest, k, -, hcs, hx, -, hl, hm, hle, hel, -, -⟩
  · simp only [List.cons.injEq, and_true, Value.slice.injEq] at hcs
    omega
  · simp only [List.cons.injEq, and_true, Value.slice.injEq] at hcs
    subst hx
    have h1 := hz.size
    simp only [List.length_map, List.length_take] at h1
    omega
theorem open_exprQ {n : Nat} {cs : List Value} {y : DataW H × List MemPlace} (h : DataW.trod enc Tryd.prog W 0 (fun _ => true) held n 36 cs = some y) (hz : Blk y.1) : ∃ x : Ex, cs = exV x ∧ ExOk x := by
  have hl := open_struct_len (s := 7) Tryd.underlying36 (by kernel_rfl) h
  obtain ⟨a, b, c, d, e, f, g, rfl⟩ := seven_cells hl
  obtain ⟨n0, y0, h0, -⟩ := open_fieldQ 0 0 1 Tryd.underlying36 rfl rfl rfl (by kernel_rfl) h hz
  obtain ⟨n1, y1, h1, -⟩ := open_fieldQ 1 1 1 Tryd.underlying36 rfl rfl rfl (by kernel_rfl) h hz
  obtain ⟨n2, y2, h2, -⟩ := open_fieldQ 2 2 1 Tryd.underlying36 rfl rfl rfl (by kernel_rfl) h hz
  obtain ⟨n3, y3, h3, -⟩ := open_fieldQ 3 3 1 Tryd.underlying36 rfl rfl rfl (by kernel_rfl) h hz
  obtain ⟨n4, y4, h4, -⟩ := open_fieldQ 4 4 1 Tryd.underlying36 rfl rfl rfl (by kernel_rfl) h hz
  obtain ⟨n5, y5, h5, -⟩ := open_fieldQ 5 5 1 Tryd.underlying36 rfl rfl rfl (by kernel_rfl) h hz
  obtain ⟨n6, y6, h6, -⟩ := open_fieldQ 6 6 1 Tryd.underlying36 rfl rfl rfl (by kernel_rfl) h hz
  obtain ⟨k0, e0, -, -⟩ := DataW.trod_int Tryd.underlying3 h0
  obtain ⟨k1, e1, -, -⟩ := DataW.trod_int Tryd.underlying3 h1
  obtain ⟨k2, e2, -, l2⟩ := DataW.trod_string Tryd.underlying9 h2
  obtain ⟨k3, e3, -, l3⟩ := DataW.trod_string Tryd.underlying9 h3
  obtain ⟨k4, e4, -, -⟩ := DataW.trod_int Tryd.underlying3 h4
  obtain ⟨k5, e5, -, -⟩ := DataW.trod_int Tryd.underlying3 h5
  obtain ⟨k6, e6, -, -⟩ := DataW.trod_int Tryd.underlying3 h6
  simp only [List.drop_zero, List.drop_succ_cons, List.take_succ_cons, List.take_zero, List.cons.injEq, and_true] at e0 e1 e2 e3 e4 e5 e6
  refine ⟨⟨k0, k1, k2.data.toList, k3.data.toList, k4, k5, k6⟩, ?_, size_list l2, size_list l3⟩
  rw [e0, e1, e2, e3, e4, e5, e6, str_list, str_list]
  rfl

theorem open_exprsQ {n : Nat} {v : Value} {y : DataW H × List MemPlace} (h : DataW.trod enc Tryd.prog W 0 (fun _ => true) held n 32 [v] = some y) (hz : Blk y.1) :
    ∃ l : List Ex, Sl W 7 v l.length (exs l) ∧ l.length ≤ 1048576 ∧ ∀ x ∈ l, ExOk x := by
  obtain ⟨l, -, h1, h2⟩ := open_rowsQ 7 exV ExOk Tryd.underlying32 (by kernel_rfl) (by decide) (fun _ => rfl) (fun n cs y hy hz => open_exprQ hy hz) (v := v) h hz
  refine ⟨l, h1, ?_, h2⟩
  obtain ⟨a, c, rfl⟩ := h1.isSlice
  exact rows_lenQ Tryd.underlying32 h hz
def DfOkQ (W : World) (o : DfV) : Prop := Sl W 7 o.2 o.1.ty.length (exs o.1.ty) ∧ o.1.name.length ≤ 9223372036854775807 ∧ o.1.ty.length ≤ 1048576 ∧ ∀ x ∈ o.1.ty, ExOk x
theorem open_defQ {n : Nat} {cs : List Value} {y : DataW H × List MemPlace} (h : DataW.trod enc Tryd.prog W 0 (fun _ => true) held n 34 cs = some y) (hz : Blk y.1) : ∃ o : DfV, cs = dfV o ∧ DfOkQ W o := by
  have hl := open_struct_len (s := 3) Tryd.underlying34 (by kernel_rfl) h
  obtain ⟨a, b, c, rfl⟩ := three_cells hl
  obtain ⟨n0, y0, h0, -⟩ := open_fieldQ 0 0 1 Tryd.underlying34 rfl rfl rfl (by kernel_rfl) h hz
  obtain ⟨n1, y1, h1, -⟩ := open_fieldQ 1 1 1 Tryd.underlying34 rfl rfl rfl (by kernel_rfl) h hz
  obtain ⟨n2, y2, h2, z2⟩ := open_fieldQ 2 2 1 Tryd.underlying34 rfl rfl rfl (by kernel_rfl) h hz
  obtain ⟨k0, e0, -, l0⟩ := DataW.trod_string Tryd.underlying9 h0
  obtain ⟨k1, e1, -, -⟩ := DataW.trod_int Tryd.underlying3 h1
  obtain ⟨l, hS, hb, hok⟩ := open_exprsQ h2 z2
  simp only [List.drop_zero, List.drop_succ_cons, List.take_succ_cons, List.take_zero, List.cons.injEq, and_true] at e0 e1
  refine ⟨(⟨k0.data.toList, k1, l⟩, c), ?_, hS, size_list l0, hb, hok⟩
  rw [e0, e1, str_list]
  rfl
theorem open_sourceQ {n : Nat} {cs : List Value} {y : DataW H × List MemPlace} (h : DataW.trod enc Tryd.prog W 0 (fun _ => true) held n 24 cs = some y) (hz : Blk y.1) : ∃ D dv V, cs = [dv] ∧ DefR W D dv V ∧ DOk D ∧ ∀ d ∈ D, d.ty.length ≤ 1048576 := by
  have hl := open_struct_len (s := 1) Tryd.underlying24 (by kernel_rfl) h
  obtain ⟨a, rfl⟩ := List.length_eq_one_iff.1 hl
  obtain ⟨n0, y0, h0, z0⟩ := open_fieldQ 0 0 1 Tryd.underlying24 rfl rfl rfl (by kernel_rfl) h hz
  simp only [List.drop_zero, List.take_succ_cons, List.take_zero] at h0
  obtain ⟨os, -, h1, h2⟩ := open_rowsQ 3 dfV (DfOkQ W) Tryd.underlying22 (by kernel_rfl) (by decide) (fun _ => rfl) (fun n cs y hy hz => open_defQ hy hz) (v := a) h0 z0
  have hb : os.length * 48 ≤ 140737488351232 := by
    obtain ⟨b, c, rfl⟩ := h1.isSlice
    have := rows_lenQ Tryd.underlying22 h0 z0
    omega
  have hg : ∀ j (hj : j < os.length), (os.map Prod.fst).getD j df0 = os[j].1 := fun j hj => by simp [List.getD_eq_getElem?_getD, hj]
  have hr : drows (os.map Prod.fst) (fun j => (os.getD j (df0, undef)).2) = os.flatMap dfV := by
    rw [drows, List.length_map]
    have : ∀ (n : Nat), n ≤ os.length → ((List.range n).flatMap fun j => dcell ((os.map Prod.fst).getD j df0) ((os.getD j (df0, undef)).2)) = (os.take n).flatMap dfV := by
      intro n
      induction n with
      | zero => intro _; rfl
      | succ n ih =>
        intro hn
        rw [List.range_succ, List.flatMap_append, ih (by omega), List.flatMap_singleton, hg n hn, List.take_add_one, List.flatMap_append]
        simp [List.getD_eq_getElem?_getD, List.getElem?_eq_getElem (show n < os.length by omega), dfV]
    rw [this _ (Nat.le_refl _), List.take_length]
  refine ⟨os.map Prod.fst, a, fun j => (os.getD j (df0, undef)).2, rfl, ⟨?_, fun j hj => ?_⟩, ⟨by rw [List.length_map]; exact hb, ?_, ?_, ?_⟩, ?_⟩
  · rw [hr, List.length_map]; exact h1
  · have hj' : j < os.length := by simpa using hj
    have := h2 os[j] (List.getElem_mem hj')
    rw [tyD, hg j hj']
    have e : (os.getD j (df0, undef)) = os[j] := by simp [List.getD_eq_getElem?_getD, hj']
    rw [e]
    exact this.1
  all_goals
    intro d hd
    obtain ⟨o, ho, rfl⟩ := List.mem_map.1 hd
    obtain ⟨-, g1, g2, g3⟩ := h2 o ho
    first | omega | exact g1 | exact g3
end

end Go.Proofs.YtanimeifmicmoaaDoor
