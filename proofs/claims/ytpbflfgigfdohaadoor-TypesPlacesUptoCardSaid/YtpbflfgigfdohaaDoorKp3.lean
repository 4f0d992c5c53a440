/-
  Walks and lemmas. Written by program out of specs of mine.
-/
import Derived.WalkKit
import Derived.WalkSpells
import Derived.WalkLawsBesides
import Derived.Deep.Quiet
import Derived.StillTail
import Derived.StringKeys
import Derived.Laws.StructEq
import Derived.Laws.Externs
import Derived.Laws.Tables
import Derived.Scope
import Derived.Test.YtpbflfgigfdohaaDoorProg
import Derived.Laws.AppendOwn
import Derived.Maps.AppendAt
import Derived.Recover
import Derived.Lib.Bytealg
import Derived.SizedLaws
import Derived.ChangeArms
import Derived.ChangeSlices
import Derived.Maps.OwnSet
import Derived.Lib.Builder
import Derived.Lib.UnsafeStr
import Derived.Shelf.Strconv.Itoa0
import Derived.Shelf.Strconv.Itoa1
import Derived.Shelf.LaysM
import Derived.Shelf.Strconv.Itoa2
import Derived.Shelf.Strconv.Itoa3
import Derived.Test.YtpbflfgigfdohaaDoorRows
import Derived.ProofKit
import Derived.OpenShut
import Derived.ShutString
import Derived.ChangeOld
import Derived.Below
import Derived.JoinedCond
import Derived.SliceStrings
import Derived.Test.YtpbflfgigfdohaaDoorCards
import Derived.Test.YtpbflfgigfdohaaDoorTie
import Derived.Deep.DeepHandedRow
import Derived.Lib.LaidTab
import Derived.Test.YtpbflfgigfdohaaDoorKp2
set_option linter.unusedSimpArgs false
set_option linter.unusedVariables false
set_option maxRecDepth 100000
namespace Go.Proofs.YtpbflfgigfdohaaDoor
open Go Go.Vc Go.RowKit Go.Proofs

theorem defsT_s {T : List Tk} {g i k : Nat} : defsT T (g + 1) i k = (if T.length ≤ i then .ok [] i
  else if k = 256 ∧ isT (tkA T i) 1 [116, 121, 112, 101] = true then .bad 5 i
  else (wantT T i 1 [116, 121, 112, 101]).bind fun _ i => (nameT T i).bind fun s j => (wantT T j 3 [61]).bind fun _ j => (exprT T (T.length + 2) j exM 0).bind fun N j => (wantT T j 3 [59]).bind fun _ j =>
   (defsT T g j (k + 1)).bind fun D j => .ok (⟨s, i, N⟩ :: D) j) := rfl
theorem own_base {w : World} {base base' : Nat} {el : TypeId} {s n : Nat} {v : Value} {xs : List Value} (h : w.ownsRow base el s v n xs) (hb : ∀ k, v.ownBlock = some k → base' ≤ k) : w.ownsRow base' el s v n xs := by
 obtain ⟨hl, h⟩ := h
 rcases h with h | ⟨g, cap, cur, rfl, hb2, r⟩
 ·exact ⟨hl, .inl h⟩
 exact ⟨hl, .inr ⟨g, cap, cur, rfl, hb g rfl, r⟩⟩
theorem Psr.move2 {w w' : World} {B0 p fin at_ c : Nat} {lv : Value} {T : List Tk} (h : Psr w B0 p lv T fin at_) (ho : Only (fun k => k = c) w w') (h1 : ¬ p = c) (h2 : ∀ b, lv.ownBlock = some b → ¬ b = c) : Psr w' B0 p lv T fin at_ :=
 ⟨ho.blk h.cell h1, h.toks.only ho h2, h.off, h.hp, h.le, h.small, Nat.le_trans h.b0 ho.size⟩
theorem dcell_one {s : List UInt8} {a : Int} {v : Value} (h : v.oneCell' = true) : ∀ x ∈ (Value.agg #[st s, .int .i64 a, v]).cells.toList, x.oneCell' = true := by
 intro x hx
 simp [Value.cells] at hx
 rcases hx with rfl | rfl | rfl
 ·rfl
 ·rfl
 exact h
theorem cutL_ok : ∀ (xs : List UInt8) (k : Nat), (cutL xs k).2.1 = 0 → (cutL xs k).2.2 = 0 := by
 intro xs k
 induction hn : xs.length - k using Nat.strongRecOn generalizing k with
 | _ n ih =>
  rw [cutL_eq]
  split
  ·rename_i hk
   split
   ·have h1 := (runL_le (p := nnlB) (k := k + 1) (xs := xs) (by omega)).1
    exact ih (xs.length - runL nnlB xs (k + 1)) (by omega) _ rfl
   split
   ·exact ih (xs.length - (k + 1)) (by omega) _ rfl
   split
   ·rename_i he
    have h1 := oneL_fin xs k hk he
    exact ih (xs.length - (oneL xs k hk).2.fin) (by omega) _ rfl
   rename_i he
   exact fun h => absurd h he
  exact fun _ => rfl
theorem cutA_ok {xs : List UInt8} (h : (cutA xs).2.1 = 0) : (cutA xs).2.2 = 0 := by
 unfold cutA at h ⊢
 split at h
 ·cases h
 rename_i h1
 rw [if_neg h1]
 split at h
 ·rename_i h2; rw [if_pos h2]; exact cutL_ok _ _ h2
 rename_i h2; exact absurd h h2
/-- where Parse's body ends -/
def ParseQ (xs : List UInt8) (c2 c3 : Nat) (w0 : World) : Exit → Env → World → Prop
 | .ret, e, w => ∃ (dv : Value) (V : Nat → Value), e 2 = .pointer (some ⟨c2, 0, none⟩) ∧ e 3 = .pointer (some ⟨c3, 0, none⟩) ∧ (parseA xs).2 = (0, 0) ∧ w.heap[c2]? = some (.cells #[dv] 24 (0, 0)) ∧ w.heap[c3]? = some (.cells #[.int .i64 0, .int .i64 0] 32 (0, 0)) ∧ Defs w w0.heap.size (parseA xs).1 dv V ∧ Ext w0 w
 | .panic ch, e, w => ∃ (er j : Nat) (dv y1 y2 : Value), e 2 = .pointer (some ⟨c2, 0, none⟩) ∧ e 3 = .pointer (some ⟨c3, 0, none⟩) ∧ parseA xs = ([], er, plc (cutA xs).1 xs.length j) ∧ ch = [pan er (plc (cutA xs).1 xs.length j)] ∧ w.heap[c2]? = some (.cells #[dv] 24 (0, 0)) ∧ w.heap[c3]? = some (.cells #[y1, y2] 32 (0, 0)) ∧ Ext w0 w
 | _, _, _ => False

set_option maxHeartbeats 2000000 in
theorem parse_spec (xs : List UInt8) (w0 : World) (hlen : xs.length ≤ 9223372036854775807) : Ca Tryd.prog 9 #[st xs] w0 (fun v w' => ∃ dv V, v = .tuple #[.agg #[dv], .agg (faultV (parseA xs).2.1 (parseA xs).2.2)] ∧ Defs w' w0.heap.size (parseA xs).1 dv V ∧ Ext w0 w') := by
 obtain ⟨BB, hBB⟩ : ∃ B, B = w0.heap.size := ⟨_, rfl⟩
 rw [← hBB]
 refine calls_ofF (l := [st xs]) Tryd.func9 Tryd.ntmps9 rfl rfl (WF.seq (WF.of (Wb (Wa rfl (o_alB TI24 ?_)))))
 intro w2 hC2 hx2 hs2
 obtain ⟨c2, hc2⟩ : ∃ c, c = w0.heap.size := ⟨_, rfl⟩
 rw [← hc2] at hC2 hs2 ⊢
 refine Wa rfl (o_alB TI32 ?_)
 intro w3 hC3 hx3 hs3
 obtain ⟨c3, hc3⟩ : ∃ c, c = w2.heap.size := ⟨_, rfl⟩
 rw [← hc3] at hC3 hs3 ⊢
 replace hC2 := hx3.blk hC2 (fun h => h)
 have hx := hx2.tr hx3
 refine Wc (WF.seq (WF.of (Wb (Wa rfl (Wf (show _ = Value.string _ from rfl) (Wa rfl (o_call Tryd.call20 (lc rfl ln) ((cut_spec xs _ hlen).mono ?_))))))))
 rintro v9 w9 ⟨v1, rfl, hown, hx9⟩
 replace hC2 := hx9.blk hC2 (fun h => h)
 replace hC3 := hx9.blk hC3 (fun h => h)
 replace hx := hx.tr hx9
 have hs9 := hx9.size
 replace hown : w9.ownsRow w3.heap.size _ 5 v1 (cutA xs).1.length _ := hown
 have hTl := cutA_len xs
 obtain ⟨ta, tc, hv1⟩ : ∃ a c, v1 = .slice a (cutA xs).1.length c := (Sl.own hown).isSlice
 subst hv1
 have hTt := cut_texts xs
 have hPN : ¬ (cutA xs).2.1 = 0 → parseA xs = ([], (cutA xs).2) := fun h => by rw [parseA, if_neg h]
 have hPA : (cutA xs).2.1 = 0 → ∀ e i, defsT (cutA xs).1 ((cutA xs).1.length + 2) 0 0 = .bad e i → parseA xs = ([], e, plc (cutA xs).1 xs.length i) := fun h e i h2 => by rw [parseA, if_pos h, h2]
 have hPO : (cutA xs).2.1 = 0 → ∀ D i, defsT (cutA xs).1 ((cutA xs).1.length + 2) 0 0 = .ok D i → parseA xs = (D.map (plD (cutA xs).1), 0, 0) := fun h D i h2 => by rw [parseA, if_pos h, h2]
 refine Wa rfl (Wf (by first | exact (show _ = Value.tuple _ from rfl) | exact rfl) (Wa rfl (o_ext rfl rfl (Wa rfl (o_ext rfl rfl (Wa rfl (Wg (by first | exact vS | exact rfl) (WL.u (o_stA TI32 rfl (show _ = Value.agg (faultV (cutA xs).2.1 (cutA xs).2.2) from rfl) rfl rfl hC3 rfl ?_)))))))))
 intro w5 hC3' ho5 hs5
 replace hC2 := ho5.blk hC2 (show ¬ c2 = c3 by omega)
 replace hC3 : w5.heap[c3]? = some (.cells (faultV (cutA xs).2.1 (cutA xs).2.2) 32 (0, 0)) := hC3'
 replace hx := hx.trans' ho5 (fun _ h => h) (fun k hk he => by omega)
 replace hown := own_only hown ho5 (fun k hk he => by have := (hown.lt k hk).1; omega)
 clear hC3'
 refine Wc (WF.seq (WF.seq (WF.of (Wb (Wa rfl (Wl 0 TI32 rfl TI30 rfl rfl (Wa rfl (Wk TI30 rfl rfl (Wh hC3 rfl) (Wa rfl (o_ne rfl rfl (Wc (WF.cond rfl (fun c14 => ?_) (fun c14 => ?_)))))))))))))
 ·try simp only [cs8] at c14
  have hce : ¬ (cutA xs).2.1 = 0 := by omega
  refine WF.seq (WF.of (W.cut (fun e1 w1 => e1 2 = .pointer (some ⟨c2, 0, none⟩) ∧ e1 3 = .pointer (some ⟨c3, 0, none⟩) ∧ w1.heap[c2]? = some (.cells #[.slice none 0 0] 24 (0, 0)) ∧ w1.heap[c3]? = some (.cells (faultV (cutA xs).2.1 (cutA xs).2.2) 32 (0, 0)) ∧ Ext w0 w1) ?_ ?_))
  ·-- region 3
   refine W.enum rfl ?_
   have hdr := Only.drew w5
   replace hown := Wr hown hdr
   replace hC2 := hdr.blk hC2 (fun h => h)
   replace hC3 := hdr.blk hC3 (fun h => h)
   replace hx := hx.tr hdr
   clear hdr
   generalize w5.drew = wd at *
   refine WA.step (r := [0, 1]) (by kernel_rfl) (by decide) (all2 ?_ ?_)
   ·skip
    refine WO.c rfl rfl (o_bldC (cs := [(.slice none 0 0)]) TI24 (Sizes.cons TI22 Sizes.nil) rfl lnp rfl rfl (WA.step (r := [1, 2]) (by kernel_rfl) (by decide) (all2 ?_ ?_)))
    ·skip
     refine WO.c rfl rfl (o_ldA TI32 rfl rfl (cells_all hC3) rfl (WA.step (r := [2]) (by kernel_rfl) (by decide) (all1 (WO.u rfl (o_stA TI24 rfl (show _ = Value.agg #[.slice none 0 0] from rfl) rfl rfl hC2 rfl ?_)))))
     intro w6 hC2' ho6 hs6
     replace hown := own_only hown ho6 (fun k hk he => by have := (hown.lt k hk).1; omega)
     replace hC3 := ho6.blk hC3 (show ¬ c3 = c2 by omega)
     replace hC2 := hC2'
     replace hx := hx.trans' ho6 (fun _ h => h) (fun k hk he => by omega)
     refine WA.step (r := [3]) (by kernel_rfl) (by decide) (all1 (WO.u rfl (o_stA TI32 rfl (show _ = Value.agg (faultV (cutA xs).2.1 (cutA xs).2.2) from rfl) rfl rfl hC3 rfl ?_)))
     intro w5 hC3' ho5 hs5
     replace hC2 := ho5.blk hC2 (show ¬ c2 = c3 by omega)
     replace hC3 : w5.heap[c3]? = some (.cells (faultV (cutA xs).2.1 (cutA xs).2.2) 32 (0, 0)) := hC3'
     replace hx := hx.trans' ho5 (fun _ h => h) (fun k hk he => by omega)
     replace hown := own_only hown ho5 (fun k hk he => by have := (hown.lt k hk).1; omega)
     clear hC3'
     refine WA.done (by kernel_rfl) ?_
     exact ⟨rfl, rfl, hC2, hC3, hx⟩
    skip
    refine WO.u rfl (o_stA TI24 rfl (show _ = Value.agg #[.slice none 0 0] from rfl) rfl rfl hC2 rfl ?_)
    intro w6 hC2' ho6 hs6
    replace hown := own_only hown ho6 (fun k hk he => by have := (hown.lt k hk).1; omega)
    replace hC3 := ho6.blk hC3 (show ¬ c3 = c2 by omega)
    replace hC2 := hC2'
    replace hx := hx.trans' ho6 (fun _ h => h) (fun k hk he => by omega)
    refine WA.step (r := [1]) (by kernel_rfl) (by decide) (all1 (WO.c rfl rfl (o_ldA TI32 rfl rfl (cells_all hC3) rfl (WA.step (r := [3]) (by kernel_rfl) (by decide) (all1 (WO.u rfl (o_stA TI32 rfl (show _ = Value.agg (faultV (cutA xs).2.1 (cutA xs).2.2) from rfl) rfl rfl hC3 rfl ?_)))))))
    intro w5 hC3' ho5 hs5
    replace hC2 := ho5.blk hC2 (show ¬ c2 = c3 by omega)
    replace hC3 : w5.heap[c3]? = some (.cells (faultV (cutA xs).2.1 (cutA xs).2.2) 32 (0, 0)) := hC3'
    replace hx := hx.trans' ho5 (fun _ h => h) (fun k hk he => by omega)
    replace hown := own_only hown ho5 (fun k hk he => by have := (hown.lt k hk).1; omega)
    clear hC3'
    refine WA.done (by kernel_rfl) ?_
    exact ⟨rfl, rfl, hC2, hC3, hx⟩
   skip
   refine WO.c rfl rfl (o_ldA TI32 rfl rfl (cells_all hC3) rfl (WA.step (r := [0]) (by kernel_rfl) (by decide) (all1 (WO.c rfl rfl (o_bldC (cs := [(.slice none 0 0)]) TI24 (Sizes.cons TI22 Sizes.nil) rfl lnp rfl rfl (WA.step (r := [2]) (by kernel_rfl) (by decide) (all1 (WO.u rfl (o_stA TI24 rfl (show _ = Value.agg #[.slice none 0 0] from rfl) rfl rfl hC2 rfl ?_)))))))))
   intro w6 hC2' ho6 hs6
   replace hown := own_only hown ho6 (fun k hk he => by have := (hown.lt k hk).1; omega)
   replace hC3 := ho6.blk hC3 (show ¬ c3 = c2 by omega)
   replace hC2 := hC2'
   replace hx := hx.trans' ho6 (fun _ h => h) (fun k hk he => by omega)
   refine WA.step (r := [3]) (by kernel_rfl) (by decide) (all1 (WO.u rfl (o_stA TI32 rfl (show _ = Value.agg (faultV (cutA xs).2.1 (cutA xs).2.2) from rfl) rfl rfl hC3 rfl ?_)))
   intro w5 hC3' ho5 hs5
   replace hC2 := ho5.blk hC2 (show ¬ c2 = c3 by omega)
   replace hC3 : w5.heap[c3]? = some (.cells (faultV (cutA xs).2.1 (cutA xs).2.2) 32 (0, 0)) := hC3'
   replace hx := hx.trans' ho5 (fun _ h => h) (fun k hk he => by omega)
   replace hown := own_only hown ho5 (fun k hk he => by have := (hown.lt k hk).1; omega)
   clear hC3'
   refine WA.done (by kernel_rfl) ?_
   exact ⟨rfl, rfl, hC2, hC3, hx⟩
  rintro e w ⟨h2, h3, hC2, hC3, hx⟩
  refine WF.of (Wm (Lv.ret (R := fun v w' => v = .tuple #[.agg #[.slice none 0 0], .agg (faultV (cutA xs).2.1 (cutA xs).2.2)] ∧ w' = w) (retAA rfl TI24 rfl TI32 rfl h2 h3 (show Cells w c2 0 [.slice none 0 0] from Cells.of hC2 0 _ (by simp)) rfl (show Cells w c3 0 (faultV (cutA xs).2.1 (cutA xs).2.2).toList from Cells.of hC3 0 _ (by simp [faultV])) rfl ⟨rfl, rfl⟩) ?_))
  rintro v w' ⟨rfl, rfl⟩
  rw [hPN hce]
  exact ⟨.slice none 0 0, fun _ => undef, rfl, Defs.nil _ _ _, hx⟩
 try simp only [cs8] at c14
 have hce : (cutA xs).2.1 = 0 := by omega
 have hPC : (cutA xs).2.2 = 0 := cutA_ok hce
 have hC30 : w5.heap[c3]? = some (.cells #[.int .i64 0, .int .i64 0] 32 (0, 0)) := by rw [hce, hPC] at hC3; exact hC3
 clear hC3
 have hC3 := hC30
 refine WF.of (Wp (WF.seq (WF.region (WLF.c rfl (o_mkF (lc rfl (lc rfl ln)) (WLF.d rfl (WLF.nil (WF.of (W.mono (Q' := ParseQ xs c2 c3 w0) ?_ ?_)))))))))
 rotate_left
 ·rintro x e w hq
  cases x with
  | ret =>
   obtain ⟨dv, V, g2, g3, gA, gC2, gC3, gD, gx⟩ := hq
   refine Lv.one Tryd.call21 (by simp) (S := fun u2 w' => u2 = .returning ∧ w' = w) ((parse1_ret c2 c3 w).mono (fun en u w' h => by cases en <;> exact h)) ?_
   rintro u' w11 ⟨rfl, rfl⟩
   refine Lv.ret (R := fun v w' => v = .tuple #[.agg #[dv], .agg #[.int .i64 0, .int .i64 0]] ∧ w' = w11) (retAA rfl TI24 rfl TI32 rfl g2 g3 (show Cells w11 c2 0 [dv] from Cells.of gC2 0 _ (by simp)) rfl (show Cells w11 c3 0 [.int .i64 0, .int .i64 0] from Cells.of gC3 0 _ (by simp)) rfl ⟨rfl, rfl⟩) ?_
   rintro v w' ⟨rfl, rfl⟩
   exact ⟨dv, V, by rw [gA]; rfl, by rw [hBB]; exact gD, gx⟩
  | panic ch =>
   obtain ⟨er, j, dv, y1, y2, g2, g3, gA, rfl, gC2, gC3, gx⟩ := hq
   refine Lv.one Tryd.call21 (by simp) (S := fun u2 w' => u2 = .panicking [{ pan er (plc (cutA xs).1 xs.length j) with recovered := true }] ∧ (w'.heap[c2]? = some (.cells #[.slice none 0 0] 24 (0, 0)) ∧ w'.heap[c3]? = some (.cells #[.int .i64 (er : Int), .int .i64 (plc (cutA xs).1 xs.length j : Int)] 32 (0, 0)) ∧ Only (fun k => k = c2 ∨ k = c3) w w')) ((parse1_panic c2 c3 er (plc (cutA xs).1 xs.length j) _ _ _ w gC2 gC3).mono (fun en u w' h => by cases en <;> exact h)) ?_
   rintro u' w9 ⟨rfl, hB2, hB3, ho9⟩
   refine Lv.ret (R := fun v w' => v = .tuple #[.agg #[.slice none 0 0], .agg #[.int .i64 (er : Int), .int .i64 (plc (cutA xs).1 xs.length j : Int)]] ∧ w' = w9) (retAA rfl TI24 rfl TI32 rfl g2 g3 (show Cells w9 c2 0 [.slice none 0 0] from Cells.of hB2 0 _ (by simp)) rfl (show Cells w9 c3 0 [.int .i64 (er : Int), .int .i64 (plc (cutA xs).1 xs.length j : Int)] from Cells.of hB3 0 _ (by simp)) rfl ⟨rfl, rfl⟩) ?_
   rintro v w' ⟨rfl, rfl⟩
   rw [gA]
   exact ⟨.slice none 0 0, fun _ => undef, rfl, Defs.nil _ _ _, gx.trans' ho9 (fun _ h => h) (fun k hk hF => by omega)⟩
  | _ => exact hq.elim
 refine We (Wb (Wa rfl (Wf (by first | exact vS | exact rfl) (Wa rfl (Wf (show _ = Value.string _ from rfl) (Wa rfl (o_lenT TI9 rfl (Wa rfl (o_bldC (cs := [_, (.int .i64 0), _]) TI82 (Sizes.cons TI75 (Sizes.cons TI3 (Sizes.cons TI3 Sizes.nil))) rfl (lcp (show _ = Value.slice ta (cutA xs).1.length tc from rfl) (lcp vI lnp)) rfl rfl (Wa rfl (o_boxB rfl ?_)))))))))))
 intro w22 hC22 hx22 hs22
 obtain ⟨p, hp⟩ : ∃ c, c = w5.heap.size := ⟨_, rfl⟩
 rw [← hp] at hC22 hs22 ⊢
 replace hC22 : w22.heap[p]? = some (.cells #[.slice ta (cutA xs).1.length tc, .int .i64 ((0 : Nat) : Int), .int .i64 (xs.length : Int)] 82 (0, 0)) := hC22
 have h5s : w5.heap.size = w9.heap.size := hs5
 obtain ⟨B, hB⟩ : ∃ B, B = p + 1 := ⟨_, rfl⟩
 have h : Psr w22 B p (.slice ta (cutA xs).1.length tc) (cutA xs).1 xs.length 0 := ⟨hC22, Sl.ext (Sl.own hown) hx22, fun b hb => by have := (hown.lt b hb).2; omega, by omega, Nat.zero_le _, by omega, by omega⟩
 replace hC2 := hx22.blk hC2 (fun h => h)
 replace hC3 := hx22.blk hC3 (fun h => h)
 replace hx := hx.tr hx22
 have hc2p : ¬ c2 = p := by omega
 have hc3p : ¬ c3 = p := by omega
 have hfu : ∀ k, k < w9.heap.size → ¬ B ≤ k := fun k hk => by omega
 have hBw : w0.heap.size ≤ B := by omega
 refine Wa rfl (Wg (by first | exact (show _ = Value.pointer _ from rfl) | exact rfl) (Wc (We (W.block (W.loopN (fun g e w => ∃ (i : Nat) (D : List Df) (dv : Value) (V : Nat → Value), e 2 = .pointer (some ⟨c2, 0, none⟩) ∧ e 3 = .pointer (some ⟨c3, 0, none⟩) ∧ e 5 = .pointer (some ⟨p, 0, none⟩) ∧ Psr w B p (.slice ta (cutA xs).1.length tc) (cutA xs).1 xs.length i ∧ w.heap[c2]? = some (.cells #[dv] 24 (0, 0)) ∧ w.heap[c3]? = some (.cells #[.int .i64 0, .int .i64 0] 32 (0, 0)) ∧ Defs w B (D.map (plD (cutA xs).1)) dv V ∧ D.length ≤ i ∧ (cutA xs).1.length + 2 ≤ g + i ∧ defsT (cutA xs).1 ((cutA xs).1.length + 2) 0 0 = ((defsT (cutA xs).1 g i D.length).bind fun D' j => .ok (D ++ D') j) ∧ Ext w0 w) ?_ ?_)))))
 ·refine ⟨(cutA xs).1.length + 2, 0, [], .slice none 0 0, fun _ => undef, rfl, rfl, rfl, h, hC2, hC3, Defs.nil _ _ _, Nat.le_refl _, Nat.le_refl _, ?_, hx⟩
  cases defsT (cutA xs).1 ((cutA xs).1.length + 2) 0 0 <;> simp [Pr.bind]
 rintro g e w ⟨i, D, dv, V, h2, h3, h5, h, hC2, hC3, hD, hDi, hgi, hres, hx⟩
 refine We (We (W.quiet rfl (by kernel_rfl) (Wx rfl ((Wy rfl fun _ => Wf h5 ⟨rfl, rfl⟩)) (Wx rfl ((QO.r fun _ => r_nil rfl)) (Wx rfl ((Wy rfl fun _ => Wl 1 TI82 rfl TI3 rfl rfl ⟨rfl, rfl⟩)) (Wx rfl ((Wy rfl fun _ => Wk TI3 rfl rfl (Wh h.cell rfl) ⟨rfl, rfl⟩)) (Wx rfl ((Wy rfl fun _ => Wf h5 ⟨rfl, rfl⟩)) (Wx rfl ((QO.r fun _ => r_nil rfl)) (Wx rfl ((Wy rfl fun _ => Wl 0 TI82 rfl TI75 rfl rfl ⟨rfl, rfl⟩)) (Wx rfl ((Wy rfl fun _ => Wk TI75 rfl rfl (Wh h.cell rfl) ⟨rfl, rfl⟩)) (Wx rfl ((QO.r fun _ => r_lenR TI75 rfl h.toks)) (Wx rfl ((Wy rfl fun _ => o_lt rfl rfl ⟨rfl, rfl⟩)) (WQ.nil ?_)))))))))))))
 intro nq
 have hxq := Only.drewN w nq
 replace h := h.ext hxq
 replace hC2 := hxq.blk hC2 (fun h => h)
 replace hC3 := hxq.blk hC3 (fun h => h)
 replace hD := hD.ext hxq
 replace hx := hx.tr hxq
 clear hxq
 generalize w.drewN nq = wq at *
 refine Wn rfl (fun c32 => ?_) (fun c32 => ?_)
 ·try simp only [cs8] at c32
  have hil : i < (cutA xs).1.length := by omega
  obtain ⟨g, rfl⟩ : ∃ g', g = g' + 1 := ⟨g - 1, by omega⟩
  refine Wp (W.block (We (We (Wb (WL.cut (fun e1 w1 => e1 2 = .pointer (some ⟨c2, 0, none⟩) ∧ e1 3 = .pointer (some ⟨c3, 0, none⟩) ∧ e1 5 = .pointer (some ⟨p, 0, none⟩) ∧ e1 40 = .bool (decide (D.length = 256 ∧ isT (tkA (cutA xs).1 i) 1 [116, 121, 112, 101] = true)) ∧ Ext wq w1) ?_ ?_)))))
  ·-- region 7
   refine Wa rfl (Wl 0 TI24 rfl TI22 rfl h2 (Wa rfl (Wk TI22 rfl rfl (Wh hC2 rfl) (Wa rfl (Ws TI22 rfl (Sl.own hD.row) (Wa rfl (o_eq rfl rfl (Wa rfl (Wf vB (Wq 4 rfl (fun g37 => ?_) (fun g37 => ?_)))))))))))
   ·skip
    refine Wj rfl (g37) rfl (Wf h5 (Wj rfl (g37) rfl (o_call Tryd.call22 (lc rfl (lc rfl (lc rfl ln))) ((is_spec B p (.slice ta (cutA xs).1.length tc) (cutA xs).1 xs.length i _ h 1 [116, 121, 112, 101]).mono ?_))))
    rintro v39 w39 ⟨rfl, hx39⟩
    refine Wa rfl (Ww rfl rfl ?_)
    exact Wc (⟨h2, h3, h5, congrArg Value.bool (by rw [List.length_map] at g37; rw [Bool.eq_iff_iff]; simp_all <;> omega), by first | exact hx39 | exact Only.refl _ _⟩)
   skip
   refine Wi rfl (g37) rfl (Wi rfl (g37) rfl (Wa rfl (Wv rfl (g37) ?_)))
   exact Wc (⟨h2, h3, h5, congrArg Value.bool (by rw [List.length_map] at g37; rw [Bool.eq_iff_iff]; simp_all <;> omega), by first | exact hx39 | exact Only.refl _ _⟩)
  rintro e w ⟨h2, h3, h5, h40, hx7⟩
  replace h := h.ext hx7
  replace hC2 := hx7.blk hC2 (fun h => h)
  replace hC3 := hx7.blk hC3 (fun h => h)
  replace hD := hD.ext hx7
  replace hx := hx.tr hx7
  refine Wn h40 (fun c40 => ?_) (fun c40 => ?_)
  ·try simp only [cs8] at c40
   have hnm : D.length = 256 ∧ isT (tkA (cutA xs).1 i) 1 [116, 121, 112, 101] = true := by simpa using c40
   refine Wb (Wa rfl (Wf h5 (WL.cx rfl (ox_call Tryd.call23 (lc rfl (lc rfl ln)) ((fails_spec B p (.slice ta (cutA xs).1.length tc) (cutA xs).1 xs.length i _ h 5).mono ?_ (fun ch w' hh => by obtain ⟨g2, g3⟩ := hh; exact ⟨5, i, dv, _, _, h2, h3, hPA hce _ _ (by rw [hres, defsT_s, if_neg (by omega), if_pos hnm]; rfl), g2, g3.blk hC2 (fun h => h), g3.blk hC3 (fun h => h), hx.tr g3⟩))))))
   exact fun _ _ hf => hf.elim
  try simp only [cs8] at c40
  have hnm : ¬ (D.length = 256 ∧ isT (tkA (cutA xs).1 i) 1 [116, 121, 112, 101] = true) := by simpa using c40
  refine Wp (We (Wb (Wa rfl (Wf h5 (WL.cx rfl (ox_call Tryd.call24 (lc rfl (lc rfl (lc rfl ln))) ((want_spec B p (.slice ta (cutA xs).1.length tc) (cutA xs).1 xs.length i _ h 1 (by decide) [116, 121, 112, 101]).mono ?_ (fun ch w' hh => by obtain ⟨er, j, g1, g2, g3⟩ := hh; exact ⟨er, j, dv, _, _, h2, h3, hPA hce _ _ (by rw [hres, defsT_s, if_neg (by omega), if_neg hnm, g1]; rfl), g2, g3.blk hC2 (fun h => h), g3.blk hC3 (fun h => h), hx.tr g3⟩))))))))
  rintro v44 w44 ⟨hw1, h', ho⟩
  replace h := h'
  replace hC2 := ho.blk hC2 hc2p
  replace hC3 := ho.blk hC3 hc3p
  replace hD := hD.only ho (fun k hk he => by have := (hD.lt k hk).1; omega)
  replace hx := hx.trans' ho (fun _ h => h) (fun k hk he => by omega)
  refine Wc (We (Wb (Wa rfl (Wf h5 (Wa rfl (o_call Tryd.call25 (lc rfl ln) ((place_spec B p (.slice ta (cutA xs).1.length tc) (cutA xs).1 xs.length (i + 1) _ h).mono ?_)))))))
  rintro v46 w46 ⟨rfl, hx46⟩
  replace h := h.ext hx46
  replace hC2 := hx46.blk hC2 (fun h => h)
  replace hC3 := hx46.blk hC3 (fun h => h)
  replace hD := hD.ext hx46
  replace hx := hx.tr hx46
  have hp46 := (Array.getElem?_eq_some_iff.1 h.cell).1
  have hc246 := (Array.getElem?_eq_some_iff.1 hC2).1
  have hc346 := (Array.getElem?_eq_some_iff.1 hC3).1
  have hx46s := hx.size
  have hD46 := hD
  refine Wa rfl (o_bldC (cs := [(.string ⟨#[]⟩), _, (.slice none 0 0)]) TI38 (Sizes.cons TI9 (Sizes.cons TI3 (Sizes.cons TI36 Sizes.nil))) rfl (lcp vI lnp) rfl rfl (Wa rfl (o_alB TI38 ?_)))
  intro wa hCa hxa hsa
  refine WL.u (o_stA TI38 rfl (show _ = Value.agg #[st [], .int .i64 (plc (cutA xs).1 xs.length (i + 1) : Int), .slice none 0 0] from rfl) rfl rfl hCa rfl ?_)
  intro wb hC6 hob hsb
  have hxb := Ext.own hxa (Nat.le_refl _) hob
  clear hCa hxa hob
  replace h := h.ext hxb
  replace hC2 := hxb.blk hC2 (fun h => h)
  replace hC3 := hxb.blk hC3 (fun h => h)
  replace hD := hD.ext hxb
  replace hx := hx.tr hxb
  obtain ⟨c6, hc6⟩ : ∃ c, c = w46.heap.size := ⟨_, rfl⟩
  rw [← hc6] at hC6 ⊢
  have hc6p : ¬ c6 = p := by omega
  have hc26 : ¬ c2 = c6 := by omega
  have hc36 : ¬ c3 = c6 := by omega
  have hc6B : B ≤ c6 := by omega
  have hDc6 : ∀ k, DF dv V (D.map (plD (cutA xs).1)).length k → ¬ k = c6 := fun k hk he => by have := (hD46.lt k hk).2; omega
  refine Wc (We (Wb (Wa rfl (Wf h5 (WL.cx rfl (ox_call Tryd.call26 (lc rfl ln) ((namep_spec B p (.slice ta (cutA xs).1.length tc) (cutA xs).1 xs.length (i + 1) _ h (hTt _)).mono ?_ (fun ch w' hh => by obtain ⟨er, j, g1, g2, g3⟩ := hh; exact ⟨er, j, dv, _, _, h2, h3, hPA hce _ _ (by rw [hres, defsT_s, if_neg (by omega), if_neg hnm, hw1, Pr.bind_ok, g1]; rfl), g2, g3.blk hC2 (fun h => h), g3.blk hC3 (fun h => h), hx.tr g3⟩))))))))
  rintro v49 w49 ⟨sn, hw2, rfl, h', ho⟩
  replace h := h'
  replace hC2 := ho.blk hC2 hc2p
  replace hC3 := ho.blk hC3 hc3p
  replace hD := hD.only ho (fun k hk he => by have := (hD.lt k hk).1; omega)
  replace hC6 := ho.blk hC6 hc6p
  replace hx := hx.trans' ho (fun _ h => h) (fun k hk he => by omega)
  have hnl : i + 1 < (cutA xs).1.length := by have := h.le; omega
  refine Wa rfl (Wl 0 TI38 rfl TI9 rfl rfl (WL.u (o_stB TI9 rfl (show _ = Value.string _ from rfl) rfl hC6 (show 0 < 3 by decide) ?_)))
  intro w50 hC6' ho6 hs6
  replace hC6 : w50.heap[c6]? = some (.cells #[st sn, .int .i64 (plc (cutA xs).1 xs.length (i + 1) : Int), .slice none 0 0] 38 (0, 0)) := hC6'
  clear hC6'
  replace h := h.keep ho6 (fun k hk => by omega)
  replace hC2 := ho6.blk hC2 hc26
  replace hC3 := ho6.blk hC3 hc36
  replace hD := hD.only ho6 hDc6
  replace hx := hx.trans' ho6 (fun _ h => h) (fun k hk he => by omega)
  refine Wc (We (Wb (Wa rfl (Wf h5 (WL.cx rfl (ox_call Tryd.call27 (lc rfl (lc rfl ln)) ((mark_spec B p (.slice ta (cutA xs).1.length tc) (cutA xs).1 xs.length (i + 1 + 1) _ h [61]).mono ?_ (fun ch w' hh => by obtain ⟨er, j, g1, g2, g3⟩ := hh; exact ⟨er, j, dv, _, _, h2, h3, hPA hce _ _ (by rw [hres, defsT_s, if_neg (by omega), if_neg hnm, hw1, Pr.bind_ok, hw2, Pr.bind_ok, g1]; rfl), g2, g3.blk hC2 (fun h => h), g3.blk hC3 (fun h => h), hx.tr g3⟩))))))))
  rintro v52 w52 ⟨hw3, h', ho⟩
  replace h := h'
  replace hC2 := ho.blk hC2 hc2p
  replace hC3 := ho.blk hC3 hc3p
  replace hD := hD.only ho (fun k hk he => by have := (hD.lt k hk).1; omega)
  replace hC6 := ho.blk hC6 hc6p
  replace hx := hx.trans' ho (fun _ h => h) (fun k hk he => by omega)
  refine Wc (We (Wb (Wa rfl (Wf h5 (Wa rfl (o_bldC (cs := [(.int .i64 0), (.int .i64 0), (.string ⟨#[]⟩), (.string ⟨#[]⟩), (.int .i64 0), (.int .i64 0), (.int .i64 (-1))]) TI40 (Sizes.cons TI3 (Sizes.cons TI3 (Sizes.cons TI9 (Sizes.cons TI9 (Sizes.cons TI3 (Sizes.cons TI3 (Sizes.cons TI3 Sizes.nil))))))) rfl (lcp vI lnp) rfl rfl ?_))))))
  have hE2 := expr_spec (B0 := B) (p := p) (lv := .slice ta (cutA xs).1.length tc) (fin := xs.length) hTt ((cutA xs).1.length + 2) 0 0 (by omega) (by omega) (i + 1 + 1 + 1) exM [] (.slice none 0 0) _ (Nat.zero_le _) rfl h (World.ownsRow_nil _ _ _ _) (Nat.zero_le _)
  rw [plE_exM] at hE2
  have hs55 := hx.size
  have hD55 := hD
  have h55b := h.b0
  have hnil : True := trivial
  refine WL.cx rfl (ox_call Tryd.call28 (lc rfl (lc rfl (lc rfl (lc rfl ln)))) ((hE2).mono ?_ (fun ch w' hh => by obtain ⟨er, j, g1, g2, g3⟩ := hh; replace g1 : exprT (cutA xs).1 ((cutA xs).1.length + 2) (i + 1 + 1 + 1) exM 0 = .bad er j := g1; replace g3 : Only (fun k => k = p) _ w' := g3.mono (fun k _ hk => by rcases hk with hk | hk; exact hk; cases hk); exact ⟨er, j, dv, _, _, h2, h3, hPA hce _ _ (by rw [hres, defsT_s, if_neg (by omega), if_neg hnm, hw1, Pr.bind_ok, hw2, Pr.bind_ok, hw3, Pr.bind_ok, g1]; rfl), g2, g3.blk hC2 hc2p, g3.blk hC3 hc3p, hx.trans' g3 (fun _ h => h) (fun k hk he => by omega)⟩)))
  rintro v55 w55 ⟨N, j, hN, hty, hNl, hij, hvb, h', ho0⟩
  replace hN : exprT (cutA xs).1 ((cutA xs).1.length + 2) (i + 1 + 1 + 1) exM 0 = .ok N j := hN
  have ho : Only (fun k => k = p) _ w55 := ho0.mono (fun k _ hk => by rcases hk with hk | hk; exact hk; cases hk)
  clear ho0
  have hvb2 : ∀ k, v55.ownBlock = some k → w52.heap.size ≤ k := fun k hk => by rcases hvb k hk with h1 | h1; cases h1; exact h1
  replace hty := own_base hty hvb2
  have hc652 := (Array.getElem?_eq_some_iff.1 hC6).1
  replace h := h'
  replace hC2 := ho.blk hC2 hc2p
  replace hC3 := ho.blk hC3 hc3p
  replace hD := hD.only ho (fun k hk he => by have := (hD.lt k hk).1; omega)
  replace hC6 := ho.blk hC6 hc6p
  replace hx := hx.trans' ho (fun _ h => h) (fun k hk he => by omega)
  refine Wa rfl (Wl 2 TI38 rfl TI36 rfl rfl (WL.u (o_stB TI36 rfl (show _ = v55 from rfl) (own_one hty) hC6 (show 2 < 3 by decide) ?_)))
  intro w56 hC6' ho6 hs6
  replace hC6 : w56.heap[c6]? = some (.cells #[st sn, .int .i64 (plc (cutA xs).1 xs.length (i + 1) : Int), v55] 38 (0, 0)) := hC6'
  clear hC6'
  replace h := h.keep ho6 (fun k hk => by omega)
  replace hC2 := ho6.blk hC2 hc26
  replace hC3 := ho6.blk hC3 hc36
  replace hD := hD.only ho6 hDc6
  replace hx := hx.trans' ho6 (fun _ h => h) (fun k hk he => by omega)
  replace hty := own_only hty ho6 (fun k hk he => by have := hvb2 k hk; omega)
  refine Wc (We (Wb (Wa rfl (Wf h5 (WL.cx rfl (ox_call Tryd.call27 (lc rfl (lc rfl ln)) ((mark_spec B p (.slice ta (cutA xs).1.length tc) (cutA xs).1 xs.length j _ h [59]).mono ?_ (fun ch w' hh => by obtain ⟨er, j, g1, g2, g3⟩ := hh; exact ⟨er, j, dv, _, _, h2, h3, hPA hce _ _ (by rw [hres, defsT_s, if_neg (by omega), if_neg hnm, hw1, Pr.bind_ok, hw2, Pr.bind_ok, hw3, Pr.bind_ok, hN, Pr.bind_ok, g1]; rfl), g2, g3.blk hC2 (fun h => h), g3.blk hC3 (fun h => h), hx.tr g3⟩))))))))
  rintro v58 w58 ⟨hw4, h', ho⟩
  replace hty := own_only hty ho (fun k hk he => by have := hvb2 k hk; omega)
  replace h := h'
  replace hC2 := ho.blk hC2 hc2p
  replace hC3 := ho.blk hC3 hc3p
  replace hD := hD.only ho (fun k hk he => by have := (hD.lt k hk).1; omega)
  replace hC6 := ho.blk hC6 hc6p
  replace hx := hx.trans' ho (fun _ h => h) (fun k hk he => by omega)
  refine Wc (Wb (Wa rfl (Wl 0 TI24 rfl TI22 rfl h2 (Wa rfl (Wk TI22 rfl rfl (Wh hC2 rfl) (Wa rfl (o_ldA TI38 rfl rfl (show Cells _ c6 0 [st sn, .int .i64 (plc (cutA xs).1 xs.length (i + 1) : Int), v55] from Cells.of hC6 0 _ (by simp)) rfl ?_)))))))
  have hty1 := own_one hty
  refine WL.apO (B) rfl rfl TI22 TI38 rfl rfl hD.row (by decide) (by decide) rfl (dcell_one hty1) rfl (by rw [maxLen_eq, List.length_map]; omega) (by rw [List.length_map]; omega) (by have := h.b0; omega) ?_
  intro v63 w63 hown1 ho63 hob63 _
  replace hob63 : v63.ownBlock = dv.ownBlock ∨ _ := hob63
  replace ho63 : Only (fun k => dv.ownBlock = some k) _ _ := ho63
  have hdl : ∀ k, dv.ownBlock = some k → B ≤ k := fun k hk => (hD.row.lt k hk).1
  replace h := h.keep ho63 (fun k hk => by have := hdl k hk; omega)
  replace hC3 := ho63.blk hC3 (fun hk => by have := hdl _ hk; omega)
  have hC2o := hC2
  replace hC2 := ho63.blk hC2 (fun hk => by have := hdl _ hk; omega)
  have htys := hD.tys.only ho63 (fun j hj k hk hF => own_row_off hD.row (hD.tys.row j hj) (by decide) k hk hF)
  replace hty := own_only hty ho63 (fun k hk hF => own_row_off hD.row hty (by decide) k hk hF)
  replace hx := hx.trans' ho63 (fun _ h => h) (fun k hk hF => by have := hdl k hF; omega)
  have hV55 : ∀ j, j < (D.map (plD (cutA xs).1)).length → ∀ k, (V j).ownBlock = some k → k < w52.heap.size := fun j hj k hk => (hD55.tys.lt hj hk).2
  have hB52 : B ≤ w52.heap.size := by have := h55b; omega
  have hpd : dcell (plD (cutA xs).1 ⟨sn, ((i + 1 : Nat) : Int), N⟩) v55 = [st sn, .int .i64 (plc (cutA xs).1 xs.length (i + 1) : Int), v55] := by rw [plc_lt hnl]; rfl
  have hDn := Defs.snoc (d := plD (cutA xs).1 ⟨sn, ((i + 1 : Nat) : Int), N⟩) (by rw [hpd]; exact hown1) htys hty hB52 hV55
  have h63c : ¬ v63.ownBlock = some c2 := own_off hown1 hC2 (by decide)
  refine Wa rfl (Wl 0 TI24 rfl TI22 rfl h2 (WL.u (o_stB TI22 rfl (show _ = v63 from rfl) (own_one hown1) hC2 (show 0 < 1 by decide) ?_)))
  intro w64 hC2' ho64 hs64
  replace hC2 : w64.heap[c2]? = some (.cells #[v63] 24 (0, 0)) := hC2'
  replace hC3 := ho64.blk hC3 (show ¬ c3 = c2 by omega)
  replace h := h.move2 ho64 (show ¬ p = c2 by omega) (fun b hb => by have := (hown.lt b hb).1; omega)
  have hDm := hDn.only ho64 (fun k hk he => by have := (hDn.lt k hk).1; omega)
  replace hx := hx.trans' ho64 (fun _ h => h) (fun k hk he => by omega)
  refine Wc (⟨g, by omega, j + 1, D ++ [⟨sn, ((i + 1 : Nat) : Int), N⟩], v63, _, h2, h3, h5, h, hC2, hC3, (by rw [List.map_append, List.map_singleton]; exact hDm), by rw [List.length_append, List.length_singleton]; omega, by omega, ?_, hx⟩)
  rw [hres, defsT_s, if_neg (by omega), if_neg hnm, hw1, Pr.bind_ok, hw2, Pr.bind_ok, hw3, Pr.bind_ok, hN, Pr.bind_ok, hw4, Pr.bind_ok, List.length_append, List.length_singleton]
  cases defsT (cutA xs).1 g (j + 1) (D.length + 1) <;> simp [Pr.bind]
 try simp only [cs8] at c32
 have hil : (cutA xs).1.length ≤ i := by omega
 obtain ⟨g, rfl⟩ : ∃ g', g = g' + 1 := ⟨g - 1, by have := h.le; omega⟩
 have hfin := hPO hce _ _ (hres.trans (by rw [defsT_s, if_pos hil]; rfl))
 refine W.exit (We (Wb (Wa rfl (o_ldA TI24 rfl h2 (show Cells _ c2 0 [dv] from Cells.of hC2 0 _ (by simp)) rfl (Wa rfl (o_bldC (cs := [(.int .i64 0), (.int .i64 0)]) TI32 (Sizes.cons TI30 (Sizes.cons TI3 Sizes.nil)) rfl lnp rfl rfl (WL.u (o_stA TI24 h2 (show _ = Value.agg #[dv] from rfl) rfl (by simp [own_one hD.row]) hC2 rfl ?_))))))))
 intro wa hC2' hoa hsa
 replace hC3 := hoa.blk hC3 (show ¬ c3 = c2 by omega)
 replace hD := hD.only hoa (fun k hk he => by have := (hD.lt k hk).1; omega)
 replace hx := hx.trans' hoa (fun _ h => h) (fun k hk he => by omega)
 refine WL.u (o_stA TI32 h3 (show _ = Value.agg #[.int .i64 0, .int .i64 0] from rfl) rfl rfl hC3 rfl ?_)
 intro wb hC3' hob hsb
 replace hC2 := hob.blk hC2' (show ¬ c2 = c3 by omega)
 replace hD := hD.only hob (fun k hk he => by have := (hD.lt k hk).1; omega)
 replace hx := hx.trans' hob (fun _ h => h) (fun k hk he => by omega)
 refine Wc (Wm ?_)
 rw [List.append_nil] at hfin
 exact ⟨dv, V, h2, h3, by rw [hfin], hC2, hC3', by rw [hfin]; exact hD.mono hBw, hx⟩
end Go.Proofs.YtpbflfgigfdohaaDoor

namespace Go.Proofs.YtpbflfgigfdohaaDoor
open Go Go.Vc Go.RowKit Go.Proofs

def Asc (lo : Nat) : List Tk → Prop
 | [] => True
 | t :: ts => lo ≤ t.at_ ∧ t.at_ < t.fin ∧ Asc t.fin ts
theorem oneL_at {xs : List UInt8} {k : Nat} {h : k < xs.length} (he : (oneL xs k h).1 = 0) : (oneL xs k h).2.at_ = k := by
 unfold oneL at he ⊢
 repeat' split
 all_goals first | rfl | skip
theorem cutL_asc (xs : List UInt8) : ∀ k, Asc k (cutL xs k).1 ∧ ∀ t ∈ (cutL xs k).1, ∃ h : t.at_ < xs.length, oneL xs t.at_ h = (0, t) := by
 intro k
 induction hn : xs.length - k using Nat.strongRecOn generalizing k with
 | _ n ih =>
  have asc_le : ∀ {a b : Nat} {l : List Tk}, a ≤ b → Asc b l → Asc a l := fun {a b l} hab h => by
   cases l with
   | nil => trivial
   | cons t ts => exact ⟨Nat.le_trans hab h.1, h.2⟩
  rw [cutL_eq]
  split
  ·rename_i hk
   split
   ·have h1 := (runL_le (p := nnlB) (k := k + 1) (xs := xs) (by omega)).1
    have h2 := ih (xs.length - runL nnlB xs (k + 1)) (by omega) _ rfl
    exact ⟨asc_le (by omega) h2.1, h2.2⟩
   split
   ·have h2 := ih (xs.length - (k + 1)) (by omega) _ rfl
    exact ⟨asc_le (by omega) h2.1, h2.2⟩
   split
   ·rename_i he
    have h1 := oneL_fin xs k hk he
    have h3 := oneL_at he
    have h2 := ih (xs.length - (oneL xs k hk).2.fin) (by omega) _ rfl
    refine ⟨⟨by omega, by omega, h2.1⟩, fun t ht => ?_⟩
    rcases List.mem_cons.1 ht with rfl | ht
    ·refine ⟨by omega, ?_⟩
     simp only [h3]
     exact Prod.ext he rfl
    exact h2.2 t ht
   exact ⟨trivial, fun t ht => by cases ht⟩
  exact ⟨trivial, fun t ht => by cases ht⟩
/-- a token that stands in a text -/
structure TokIn (xs : List UInt8) (t : Tk) : Prop where
 lt : t.at_ < t.fin
 le : t.fin ≤ xs.length
 kind : t.kind = 1 ∨ t.kind = 2 ∨ t.kind = 3
 text : t.kind ≠ 2 → t.text = sub xs t.at_ t.fin
 num : t.kind = 2 → t.text = []
 zero : t.kind ≠ 2 → t.n = 0
 small : t.n ≤ 2147483647
theorem numF_le : ∀ (xs : List UInt8) (n : Nat), (numF n xs).1 ≤ 2147483647 ∨ (numF n xs).2 ≠ 0 ∨ (numF n xs).1 = n := by
 intro xs
 induction xs with
 | nil => intro n; exact .inr (.inr rfl)
 | cons c cs ih =>
  intro n
  unfold numF
  split
  ·exact .inl (Nat.zero_le _)
  rename_i hh
  rcases ih (10 * n + (c.toNat - 48)) with h1 | h1 | h1
  ·exact .inl h1
  ·exact .inr (.inl h1)
  exact .inl (by rw [h1]; omega)


theorem tok_in {xs : List UInt8} {t : Tk} (h : t.at_ < xs.length) (ho : oneL xs t.at_ h = (0, t)) : TokIn xs t := by
 have hf := oneL_fin xs t.at_ h (by rw [ho])
 rw [ho] at hf
 obtain ⟨k, tx, n, a, f⟩ := t
 simp only at h ho hf
 unfold oneL at ho
 split at ho
 ·split at ho
  ·cases ho
  simp only [Prod.mk.injEq, Tk.mk.injEq] at ho
  obtain ⟨-, rfl, rfl, rfl, -, rfl⟩ := ho
  exact ⟨hf.1, hf.2, .inl rfl, fun _ => rfl, fun h => (by cases h), fun _ => rfl, Nat.zero_le _⟩
 split at ho
 ·simp only [Prod.mk.injEq, Tk.mk.injEq] at ho
  obtain ⟨h0, rfl, rfl, rfl, -, rfl⟩ := ho
  refine ⟨hf.1, hf.2, .inr (.inl rfl), fun h => absurd rfl h, fun _ => rfl, fun h => absurd rfl h, ?_⟩
  show (numL _).1 ≤ _
  unfold numL at h0 ⊢
  split
  ·exact Nat.zero_le _
  rename_i hl
  rw [if_neg hl] at h0
  rcases numF_le (sub xs a (runL digB xs a)) 0 with g | g | g
  ·exact g
  ·exact absurd h0 g
  rw [g]; exact Nat.zero_le _
 split at ho
 ·simp only [Prod.mk.injEq, Tk.mk.injEq] at ho
  obtain ⟨-, rfl, rfl, rfl, -, rfl⟩ := ho
  exact ⟨hf.1, hf.2, .inr (.inr rfl), fun _ => rfl, fun h => (by cases h), fun _ => rfl, Nat.zero_le _⟩
 cases ho
theorem cutA_toks (xs : List UInt8) : Asc 0 (cutA xs).1 ∧ ∀ t ∈ (cutA xs).1, TokIn xs t := by
 unfold cutA
 split
 ·exact ⟨trivial, fun t ht => by cases ht⟩
 split
 ·have h := cutL_asc xs 0
  exact ⟨h.1, fun t ht => by obtain ⟨h1, h2⟩ := h.2 t ht; exact tok_in h1 h2⟩
 exact ⟨trivial, fun t ht => by cases ht⟩
theorem cut_in {xs : List UInt8} {i : Nat} (h : i < (cutA xs).1.length) : TokIn xs (tkA (cutA xs).1 i) := by
 rw [tkA_lt h]; exact (cutA_toks xs).2 _ (List.getElem_mem h)
theorem parseA_bad {xs : List UInt8} (h : (parseA xs).2.1 ≠ 0) : (parseA xs).1 = [] := by
 unfold parseA at h ⊢
 split
 ·rename_i h1
  rw [if_pos h1] at h
  split
  ·rename_i D j h2; rw [h2] at h; exact absurd rfl h
  rfl
 rfl
def hdOk (T : List Tk) (u : Bool) (i : Nat) : Prop := if u then (tkA T i).kind = 2 else nmT (tkA T i) = true
def hdE (T : List Tk) (u : Bool) (i : Nat) : Ex := if u then { ex0 with at_ := i, tag := (tkA T i).n } else { ex0 with at_ := i, label := (tkA T i).text }
/-- a type (none) or rows behind their bracket, of which k were ahead -/
inductive PX (T : List Tk) : Option (Bool × Nat) → Nat → Nat → Ex → List Ex → Nat → Nat → Prop
 | leaf {deep i : Nat} {x : Ex} {kn : Int × Int} (hb : bgnT (tkA T i) = true) (hd : deep ≤ 16) (hl : leafE (tkA T i).text = some kn) : PX T none deep i x [(atE i x).lf kn.1 kn.2] 0 (i + 1)
 | nm {deep i : Nat} {x : Ex} (hb : bgnT (tkA T i) = true) (hd : deep ≤ 16) (hl : leafE (tkA T i).text = none) (hv : ¬ ((tkA T i).text = [118, 101, 99, 116, 111, 114] ∨ (tkA T i).text = [108, 105, 115, 116])) (ho : ¬ (tkA T i).text = [111, 112, 116, 105, 111, 110]) (hu : ¬ (tkA T i).text = [117, 110, 105, 111, 110]) (hs : ¬ (tkA T i).text = [115, 116, 114, 117, 99, 116]) : PX T none deep i x [(atE i x).nm (tkA T i).text] 0 (i + 1)
 | vec {deep i : Nat} {x : Ex} {N : List Ex} {j : Nat} (hb : bgnT (tkA T i) = true) (hd : deep ≤ 16) (hl : leafE (tkA T i).text = none) (hv : (tkA T i).text = [118, 101, 99, 116, 111, 114] ∨ (tkA T i).text = [108, 105, 115, 116]) (h1 : isT (tkA T (i + 1)) 3 [60] = true) (hN : PX T none (deep + 1) (i + 2) exM N 0 j) (h2 : isT (tkA T j) 3 [44] = true) (h3 : (tkA T (j + 1)).kind = 2) (h4 : isT (tkA T (j + 2)) 3 [62] = true) : PX T none deep i x ((atE i x).vec (decide ((tkA T i).text = [108, 105, 115, 116])) (tkA T (j + 1)).n :: N) 0 (j + 3)
 | opt {deep i : Nat} {x : Ex} {N : List Ex} {j : Nat} (hb : bgnT (tkA T i) = true) (hd : deep ≤ 16) (hl : leafE (tkA T i).text = none) (ho : (tkA T i).text = [111, 112, 116, 105, 111, 110]) (h1 : isT (tkA T (i + 1)) 3 [60] = true) (hN : PX T none (deep + 1) (i + 2) exM N 0 j) (h2 : isT (tkA T j) 3 [62] = true) : PX T none deep i x ((atE i x).opt :: N) 0 (j + 1)
 | br {deep i : Nat} {x : Ex} (u : Bool) {M : List Ex} {n j : Nat} (hb : bgnT (tkA T i) = true) (hd : deep ≤ 16) (hl : leafE (tkA T i).text = none) (hw : (tkA T i).text = if u then [117, 110, 105, 111, 110] else [115, 116, 114, 117, 99, 116]) (h1 : isT (tkA T (i + 1)) 3 [123] = true) (hM : PX T (some (u, 0)) deep (i + 2) ex0 M n j) : PX T none deep i x ((atE i x).br u (n : Nat) :: M) 0 j
 | last {deep i : Nat} {u : Bool} {k : Nat} {N : List Ex} {j : Nat} (hk : k < 64) (hh : hdOk T u i) (hc : isT (tkA T (i + 1)) 3 [58] = true) (hN : PX T none (deep + 1) (i + 2) (hdE T u i) N 0 j) (hm : isT (tkA T j) 3 [44] = false) (hr : isT (tkA T j) 3 [125] = true) : PX T (some (u, k)) deep i ex0 N (k + 1) (j + 1)
 | more {deep i : Nat} {u : Bool} {k : Nat} {N M : List Ex} {j n e : Nat} (hk : k < 64) (hh : hdOk T u i) (hc : isT (tkA T (i + 1)) 3 [58] = true) (hN : PX T none (deep + 1) (i + 2) (hdE T u i) N 0 j) (hm : isT (tkA T j) 3 [44] = true) (hR : PX T (some (u, k + 1)) deep (j + 1) ex0 M n e) : PX T (some (u, k)) deep i ex0 (N ++ M) n e
theorem bind_ok {α β : Type} {r : Pr α} {f : α → Nat → Pr β} {b : β} {j : Nat} (h : r.bind f = .ok b j) : ∃ a i, r = .ok a i ∧ f a i = .ok b j := by
 cases r with
 | ok a i => exact ⟨a, i, rfl, h⟩
 | bad e i => cases h
theorem wantT_ok {T : List Tk} {i k j : Nat} {s : List UInt8} {a : Unit} (h : wantT T i k s = .ok a j) : isT (tkA T i) k s = true ∧ j = i + 1 := by
 unfold wantT at h
 split at h
 ·rename_i h1; cases h; exact ⟨h1, rfl⟩
 cases h
theorem numT_ok {T : List Tk} {i j n : Nat} (h : numT T i = .ok n j) : (tkA T i).kind = 2 ∧ n = (tkA T i).n ∧ j = i + 1 := by
 unfold numT at h
 split at h
 ·rename_i h1; cases h; exact ⟨h1, rfl, rfl⟩
 cases h
theorem nameT_ok {T : List Tk} {i j : Nat} {s : List UInt8} (h : nameT T i = .ok s j) : nmT (tkA T i) = true ∧ s = (tkA T i).text ∧ j = i + 1 := by
 unfold nameT at h
 split at h
 ·rename_i h1; cases h; exact ⟨h1, rfl, rfl⟩
 cases h
theorem headT_ok {T : List Tk} {u full : Bool} {i j : Nat} {y : Ex} (h : headT T u full i { ex0 with at_ := i } = .ok y j) : hdOk T u i ∧ y = hdE T u i ∧ j = i + 1 ∧ full = false := by
 cases u
 ·rw [headT_s] at h
  split at h
  ·cases h
  rename_i hn
  obtain ⟨s, i2, h1, h2⟩ := bind_ok h
  obtain ⟨g1, rfl, rfl⟩ := nameT_ok h1
  cases h2
  refine ⟨g1, rfl, rfl, ?_⟩
  cases full
  ·rfl
  exact absurd ⟨rfl, g1⟩ hn
 rw [headT_u] at h
 split at h
 ·cases h
 rename_i hn
 obtain ⟨s, i2, h1, h2⟩ := bind_ok h
 obtain ⟨g1, rfl, rfl⟩ := numT_ok h1
 cases h2
 refine ⟨g1, rfl, rfl, ?_⟩
 cases full
 ·rfl
 exact absurd ⟨rfl, g1⟩ hn
theorem rows_px {T : List Tk} {E : Nat → Ex → Pr (List Ex)} {u : Bool} {deep : Nat} (hE : ∀ i x N j, E i x = .ok N j → PX T none (deep + 1) i x N 0 j) : ∀ (g i k : Nat) (M : List Ex) (n e : Nat), k ≤ 64 → rowsT E T u g i k = .ok (M, n) e → PX T (some (u, k)) deep i ex0 M n e
 | 0, i, k, M, n, e, hk, h => by cases h
 | g + 1, i, k, M, n, e, hk, h => by
  rw [rowsT_s] at h
  obtain ⟨y, i1, h1, h⟩ := bind_ok h
  obtain ⟨hh, rfl, rfl, hf⟩ := headT_ok h1
  obtain ⟨_, i2, h2, h⟩ := bind_ok h
  obtain ⟨hc, rfl⟩ := wantT_ok h2
  obtain ⟨N, j, h3, h⟩ := bind_ok h
  have hk2 : k < 64 := by simp at hf; omega
  split at h
  ·rename_i hm
   obtain ⟨⟨M', n'⟩, e', h4, h⟩ := bind_ok h
   cases h
   exact .more hk2 hh hc (hE _ _ _ _ h3) hm (rows_px hE g _ _ _ _ _ (by omega) h4)
  rename_i hm
  obtain ⟨_, e', h4, h⟩ := bind_ok h
  obtain ⟨hr, rfl⟩ := wantT_ok h4
  cases h
  exact .last hk2 hh hc (hE _ _ _ _ h3) (by simpa using hm) hr
theorem expr_px {T : List Tk} : ∀ (f i : Nat) (x : Ex) (deep : Nat) (N : List Ex) (j : Nat), exprT T f i x deep = .ok N j → PX T none deep i x N 0 j
 | 0, i, x, deep, N, j, h => by cases h
 | f + 1, i, x, deep, N, j, h => by
  rw [exprT_s] at h
  split at h
  ·cases h
  rename_i hb
  have hb : bgnT (tkA T i) = true := by simpa using hb
  split at h
  ·cases h
  rename_i hd
  have hd : deep ≤ 16 := by omega
  split at h
  ·rename_i kn hl
   cases h
   exact .leaf hb hd hl
  rename_i hl
  split at h
  ·rename_i hv
   obtain ⟨_, i1, h1, h⟩ := bind_ok h
   obtain ⟨g1, rfl⟩ := wantT_ok h1
   obtain ⟨M, j1, h2, h⟩ := bind_ok h
   obtain ⟨_, j2, h3, h⟩ := bind_ok h
   obtain ⟨g3, rfl⟩ := wantT_ok h3
   obtain ⟨n, j3, h4, h⟩ := bind_ok h
   obtain ⟨g4, rfl, rfl⟩ := numT_ok h4
   obtain ⟨_, j4, h5, h⟩ := bind_ok h
   obtain ⟨g5, rfl⟩ := wantT_ok h5
   cases h
   exact .vec hb hd hl hv g1 (expr_px f _ _ _ _ _ h2) g3 g4 g5
  rename_i hv
  split at h
  ·rename_i ho
   obtain ⟨_, i1, h1, h⟩ := bind_ok h
   obtain ⟨g1, rfl⟩ := wantT_ok h1
   obtain ⟨M, j1, h2, h⟩ := bind_ok h
   obtain ⟨_, j2, h3, h⟩ := bind_ok h
   obtain ⟨g3, rfl⟩ := wantT_ok h3
   cases h
   exact .opt hb hd hl ho g1 (expr_px f _ _ _ _ _ h2) g3
  rename_i ho
  split at h
  ·rename_i hu
   obtain ⟨⟨M, n⟩, j1, h2, h⟩ := bind_ok h
   obtain ⟨_, i1, h1, h2⟩ := bind_ok h2
   obtain ⟨g1, rfl⟩ := wantT_ok h1
   cases h
   exact .br true hb hd hl hu g1 (rows_px (fun i x N j hh => expr_px f i x _ N j hh) _ _ _ _ _ _ (by omega) h2)
  rename_i hu
  split at h
  ·rename_i hs
   obtain ⟨⟨M, n⟩, j1, h2, h⟩ := bind_ok h
   obtain ⟨_, i1, h1, h2⟩ := bind_ok h2
   obtain ⟨g1, rfl⟩ := wantT_ok h1
   cases h
   exact .br false hb hd hl hs g1 (rows_px (fun i x N j hh => expr_px f i x _ N j hh) _ _ _ _ _ _ (by omega) h2)
  rename_i hs
  cases h
  exact .nm hb hd hl hv ho hu hs

end Go.Proofs.YtpbflfgigfdohaaDoor

namespace Go.Proofs.YtpbflfgigfdohaaDoor
open Go Go.Vc Go.RowKit Go.Proofs

def okB (x : Ex) : Bool :=
 if x.kind = 1 then (decide (x.n = 1) || decide (x.n = 2) || decide (x.n = 4) || decide (x.n = 8)) && decide (x.kids = 0)
 else if x.kind = 2 ∨ x.kind = 3 ∨ x.kind = 9 then decide (x.n = 0) && decide (x.kids = 0)
 else if x.kind = 4 ∨ x.kind = 5 then decide (0 ≤ x.n) && decide (x.n ≤ 2147483647) && decide (x.kids = 1)
 else if x.kind = 6 then decide (x.n = 0) && decide (x.kids = 1)
 else if x.kind = 7 ∨ x.kind = 8 then decide (x.n = 0) && decide (1 ≤ x.kids)
 else false
def namB (x : Ex) : Bool := if x.kind = 9 then nameB x.name else decide (x.name = [])
def labB (x : Ex) (above : Int) : Bool := if above = 8 then nameB x.label else decide (x.label = [])
def tagB (x : Ex) (above : Int) : Bool := decide (x.tag = 0) || (decide (above = 7) && decide (0 < x.tag) && decide (x.tag ≤ 2147483647))
def rightB (x : Ex) (above : Int) : Bool := okB x && namB x && labB x above && tagB x above
set_option maxHeartbeats 2000000 in
theorem right_spec (x : Ex) (above : Int) (w0 : World) (hn : x.name.length ≤ 9223372036854775807) (hl : x.label.length ≤ 9223372036854775807) : Ca Tryd.prog 58 #[.agg (exV x).toArray, .int .i64 above] w0 (fun v w' => v = .bool (rightB x above) ∧ Ext w0 w') := by
 refine Ca.of Tryd.func58 Tryd.ntmps58 rfl rfl (We (Wb (Wa rfl (o_boxB rfl ?_))))
 intro w2 hC2 hx2 hs2
 obtain ⟨c2, hc2⟩ : ∃ c, c = w0.heap.size := ⟨_, rfl⟩
 rw [← hc2] at hC2 ⊢
 replace hC2 : w2.heap[c2]? = some (.cells (exV x).toArray 40 (0, 0)) := hC2
 refine Wa rfl (Wg vB (Wc (We (Wb (Wa rfl (Wg vB (Wc (We (We (Wb (Wa rfl (Wl 0 TI40 rfl TI3 rfl rfl (Wa rfl (Wk TI3 rfl rfl (Wh hC2 rfl) (Wc (W.block (We (Wb (Wa rfl (o_eq rfl rfl (Wa rfl (Wg vB (Wc (W.cut (fun e1 w1 => e1 1 = .int .i64 above ∧ e1 2 = .pointer (some ⟨c2, 0, none⟩) ∧ e1 5 = .bool (okB x) ∧ w1 = w2) ?_ ?_))))))))))))))))))))))))
 ·-- both ways
  refine Wn rfl (fun c11 => ?_) (fun c11 => ?_)
  ·try simp only [cs8] at c11
   refine Wb (Wa rfl (Wl 1 TI40 rfl TI3 rfl rfl (Wa rfl (Wk TI3 rfl rfl (Wh hC2 rfl) (Wa rfl (o_eq rfl rfl (Wa rfl (Wf vB (Wq 3 rfl (fun g16 => ?_) (fun g16 => ?_))))))))))
   ·skip
    refine Wi rfl (g16) rfl (Wi rfl (g16) rfl (Wi rfl (g16) rfl (Wa rfl (o_pickT rfl (g16) (Wa rfl (Wf vB (Wi rfl (rfl) rfl (Wi rfl (rfl) rfl (Wi rfl (rfl) rfl (Wa rfl (o_pickT rfl (rfl) (Wa rfl (Wf vB (Wi rfl (rfl) rfl (Wi rfl (rfl) rfl (Wi rfl (rfl) rfl (Wa rfl (o_pickT rfl (rfl) (Wa rfl (Wf vB (Wj rfl (rfl) rfl (Wl 5 TI40 rfl TI3 rfl rfl (Wj rfl (rfl) rfl (Wk TI3 rfl rfl (Wh hC2 rfl) (Wj rfl (rfl) rfl (o_eq rfl rfl (Wa rfl (Ww rfl rfl (Wa rfl (Wg vB (Wc ?_)))))))))))))))))))))))))))))))
    exact ⟨rfl, rfl, congrArg Value.bool (by rw [Bool.eq_iff_iff]; simp_all [okB] <;> omega), rfl⟩
   skip
   refine Wj rfl (g16) rfl (Wl 1 TI40 rfl TI3 rfl rfl (Wj rfl (g16) rfl (Wk TI3 rfl rfl (Wh hC2 rfl) (Wj rfl (g16) rfl (o_eq rfl rfl (Wa rfl (o_pickO rfl rfl (Wa rfl (Wf vB (Wq 8 rfl (fun g21 => ?_) (fun g21 => ?_)))))))))))
   ·skip
    refine Wi rfl (g21) rfl (Wi rfl (g21) rfl (Wi rfl (g21) rfl (Wa rfl (o_pickT rfl (g21) (Wa rfl (Wf vB (Wi rfl (rfl) rfl (Wi rfl (rfl) rfl (Wi rfl (rfl) rfl (Wa rfl (o_pickT rfl (rfl) (Wa rfl (Wf vB (Wj rfl (rfl) rfl (Wl 5 TI40 rfl TI3 rfl rfl (Wj rfl (rfl) rfl (Wk TI3 rfl rfl (Wh hC2 rfl) (Wj rfl (rfl) rfl (o_eq rfl rfl (Wa rfl (Ww rfl rfl (Wa rfl (Wg vB (Wc ?_))))))))))))))))))))))))
    exact ⟨rfl, rfl, congrArg Value.bool (by rw [Bool.eq_iff_iff]; simp_all [okB] <;> omega), rfl⟩
   skip
   refine Wj rfl (g21) rfl (Wl 1 TI40 rfl TI3 rfl rfl (Wj rfl (g21) rfl (Wk TI3 rfl rfl (Wh hC2 rfl) (Wj rfl (g21) rfl (o_eq rfl rfl (Wa rfl (o_pickO rfl rfl (Wa rfl (Wf vB (Wq 13 rfl (fun g26 => ?_) (fun g26 => ?_)))))))))))
   ·skip
    refine Wi rfl (g26) rfl (Wi rfl (g26) rfl (Wi rfl (g26) rfl (Wa rfl (o_pickT rfl (g26) (Wa rfl (Wf vB (Wj rfl (rfl) rfl (Wl 5 TI40 rfl TI3 rfl rfl (Wj rfl (rfl) rfl (Wk TI3 rfl rfl (Wh hC2 rfl) (Wj rfl (rfl) rfl (o_eq rfl rfl (Wa rfl (Ww rfl rfl (Wa rfl (Wg vB (Wc ?_)))))))))))))))))
    exact ⟨rfl, rfl, congrArg Value.bool (by rw [Bool.eq_iff_iff]; simp_all [okB] <;> omega), rfl⟩
   skip
   refine Wj rfl (g26) rfl (Wl 1 TI40 rfl TI3 rfl rfl (Wj rfl (g26) rfl (Wk TI3 rfl rfl (Wh hC2 rfl) (Wj rfl (g26) rfl (o_eq rfl rfl (Wa rfl (o_pickO rfl rfl (Wa rfl (Wf vB (Wq 18 rfl (fun g31 => ?_) (fun g31 => ?_)))))))))))
   ·skip
    refine Wj rfl (g31) rfl (Wl 5 TI40 rfl TI3 rfl rfl (Wj rfl (g31) rfl (Wk TI3 rfl rfl (Wh hC2 rfl) (Wj rfl (g31) rfl (o_eq rfl rfl (Wa rfl (Ww rfl rfl (Wa rfl (Wg vB (Wc ?_))))))))))
    exact ⟨rfl, rfl, congrArg Value.bool (by rw [Bool.eq_iff_iff]; simp_all [okB] <;> omega), rfl⟩
   skip
   refine Wi rfl (g31) rfl (Wi rfl (g31) rfl (Wi rfl (g31) rfl (Wa rfl (Wv rfl (g31) (Wa rfl (Wg vB (Wc ?_)))))))
   exact ⟨rfl, rfl, congrArg Value.bool (by rw [Bool.eq_iff_iff]; simp_all [okB] <;> omega), rfl⟩
  try simp only [cs8] at c11
  refine We (We (Wb (Wa rfl (o_eq rfl rfl (Wa rfl (Wg vB (Wc (Wn rfl (fun c36 => ?_) (fun c36 => ?_)))))))))
  ·try simp only [cs8] at c36
   refine Wp (Wn rfl (fun c36 => ?_) (fun c36 => ?_))
   ·try simp only [cs8] at c36
    refine Wb (Wa rfl (Wl 1 TI40 rfl TI3 rfl rfl (Wa rfl (Wk TI3 rfl rfl (Wh hC2 rfl) (Wa rfl (o_eq rfl rfl (Wa rfl (Wf vB (Wq 3 rfl (fun g43 => ?_) (fun g43 => ?_))))))))))
    ·skip
     refine Wj rfl (g43) rfl (Wl 5 TI40 rfl TI3 rfl rfl (Wj rfl (g43) rfl (Wk TI3 rfl rfl (Wh hC2 rfl) (Wj rfl (g43) rfl (o_eq rfl rfl (Wa rfl (Ww rfl rfl (Wa rfl (Wg vB (Wc ?_))))))))))
     exact ⟨rfl, rfl, congrArg Value.bool (by rw [Bool.eq_iff_iff]; simp_all [okB] <;> omega), rfl⟩
    skip
    refine Wi rfl (g43) rfl (Wi rfl (g43) rfl (Wi rfl (g43) rfl (Wa rfl (Wv rfl (g43) (Wa rfl (Wg vB (Wc ?_)))))))
    exact ⟨rfl, rfl, congrArg Value.bool (by rw [Bool.eq_iff_iff]; simp_all [okB] <;> omega), rfl⟩
   try simp only [cs8] at c36
   refine We (We (Wb (Wa rfl (o_eq rfl rfl (Wa rfl (Wg vB (Wc (Wn rfl (fun c48 => ?_) (fun c48 => ?_)))))))))
   ·try simp only [cs8] at c48
    refine Wp (Wn rfl (fun c48 => ?_) (fun c48 => ?_))
    ·try simp only [cs8] at c48
     refine Wb (Wa rfl (Wl 1 TI40 rfl TI3 rfl rfl (Wa rfl (Wk TI3 rfl rfl (Wh hC2 rfl) (Wa rfl (o_ge rfl rfl (Wa rfl (Wf vB (Wq 3 rfl (fun g54 => ?_) (fun g54 => ?_))))))))))
     ·skip
      refine Wj rfl (g54) rfl (Wl 1 TI40 rfl TI3 rfl rfl (Wj rfl (g54) rfl (Wk TI3 rfl rfl (Wh hC2 rfl) (Wj rfl (g54) rfl (o_le rfl rfl (Wa rfl (Ww rfl rfl (Wa rfl (Wf vB (Wq 8 rfl (fun g59 => ?_) (fun g59 => ?_)))))))))))
      ·skip
       refine Wj rfl (g59) rfl (Wl 5 TI40 rfl TI3 rfl rfl (Wj rfl (g59) rfl (Wk TI3 rfl rfl (Wh hC2 rfl) (Wj rfl (g59) rfl (o_eq rfl rfl (Wa rfl (Ww rfl rfl (Wa rfl (Wg vB (Wc ?_))))))))))
       exact ⟨rfl, rfl, congrArg Value.bool (by rw [Bool.eq_iff_iff]; simp_all [okB] <;> omega), rfl⟩
      skip
      refine Wi rfl (g59) rfl (Wi rfl (g59) rfl (Wi rfl (g59) rfl (Wa rfl (Wv rfl (g59) (Wa rfl (Wg vB (Wc ?_)))))))
      exact ⟨rfl, rfl, congrArg Value.bool (by rw [Bool.eq_iff_iff]; simp_all [okB] <;> omega), rfl⟩
     skip
     refine Wi rfl (g54) rfl (Wi rfl (g54) rfl (Wi rfl (g54) rfl (Wa rfl (Wv rfl (g54) (Wa rfl (Wf vB (Wi rfl (rfl) rfl (Wi rfl (rfl) rfl (Wi rfl (rfl) rfl (Wa rfl (Wv rfl (rfl) (Wa rfl (Wg vB (Wc ?_))))))))))))))
     exact ⟨rfl, rfl, congrArg Value.bool (by rw [Bool.eq_iff_iff]; simp_all [okB] <;> omega), rfl⟩
    try simp only [cs8] at c48
    refine We (Wb (Wa rfl (o_eq rfl rfl (Wa rfl (Wg vB (Wc (Wn rfl (fun c64 => ?_) (fun c64 => ?_))))))))
    ·try simp only [cs8] at c64
     refine Wb (Wa rfl (Wl 1 TI40 rfl TI3 rfl rfl (Wa rfl (Wk TI3 rfl rfl (Wh hC2 rfl) (Wa rfl (o_eq rfl rfl (Wa rfl (Wf vB (Wq 3 rfl (fun g69 => ?_) (fun g69 => ?_))))))))))
     ·skip
      refine Wj rfl (g69) rfl (Wl 5 TI40 rfl TI3 rfl rfl (Wj rfl (g69) rfl (Wk TI3 rfl rfl (Wh hC2 rfl) (Wj rfl (g69) rfl (o_eq rfl rfl (Wa rfl (Ww rfl rfl (Wa rfl (Wg vB (Wc ?_))))))))))
      exact ⟨rfl, rfl, congrArg Value.bool (by rw [Bool.eq_iff_iff]; simp_all [okB] <;> omega), rfl⟩
     skip
     refine Wi rfl (g69) rfl (Wi rfl (g69) rfl (Wi rfl (g69) rfl (Wa rfl (Wv rfl (g69) (Wa rfl (Wg vB (Wc ?_)))))))
     exact ⟨rfl, rfl, congrArg Value.bool (by rw [Bool.eq_iff_iff]; simp_all [okB] <;> omega), rfl⟩
    try simp only [cs8] at c64
    refine We (We (Wb (Wa rfl (o_eq rfl rfl (Wa rfl (Wg vB (Wc (Wn rfl (fun c74 => ?_) (fun c74 => ?_)))))))))
    ·try simp only [cs8] at c74
     refine Wp (Wn rfl (fun c74 => ?_) (fun c74 => ?_))
     ·try simp only [cs8] at c74
      refine Wb (Wa rfl (Wl 1 TI40 rfl TI3 rfl rfl (Wa rfl (Wk TI3 rfl rfl (Wh hC2 rfl) (Wa rfl (o_eq rfl rfl (Wa rfl (Wf vB (Wq 3 rfl (fun g80 => ?_) (fun g80 => ?_))))))))))
      ·skip
       refine Wj rfl (g80) rfl (Wl 5 TI40 rfl TI3 rfl rfl (Wj rfl (g80) rfl (Wk TI3 rfl rfl (Wh hC2 rfl) (Wj rfl (g80) rfl (o_ge rfl rfl (Wa rfl (Ww rfl rfl (Wa rfl (Wg vB (Wc ?_))))))))))
       exact ⟨rfl, rfl, congrArg Value.bool (by rw [Bool.eq_iff_iff]; simp_all [okB] <;> omega), rfl⟩
      skip
      refine Wi rfl (g80) rfl (Wi rfl (g80) rfl (Wi rfl (g80) rfl (Wa rfl (Wv rfl (g80) (Wa rfl (Wg vB (Wc ?_)))))))
      exact ⟨rfl, rfl, congrArg Value.bool (by rw [Bool.eq_iff_iff]; simp_all [okB] <;> omega), rfl⟩
     try simp only [cs8] at c74
     refine We (Wb (Wa rfl (Wg vB (Wc (Wm (Wu rfl vB ?_))))))
     have h9 : okB x = false := by
      unfold okB
      repeat' split
      all_goals first | rfl | omega
     exact ⟨congrArg Value.bool (by rw [rightB, h9]; rfl), hx2⟩
    try simp only [cs8] at c74
    refine Wb (Wa rfl (o_eq rfl rfl (Wa rfl (Wg vB (Wc (Wn rfl (fun c74 => ?_) (fun c74 => ?_)))))))
    ·try simp only [cs8] at c74
     refine Wb (Wa rfl (Wl 1 TI40 rfl TI3 rfl rfl (Wa rfl (Wk TI3 rfl rfl (Wh hC2 rfl) (Wa rfl (o_eq rfl rfl (Wa rfl (Wf vB (Wq 3 rfl (fun g80 => ?_) (fun g80 => ?_))))))))))
     ·skip
      refine Wj rfl (g80) rfl (Wl 5 TI40 rfl TI3 rfl rfl (Wj rfl (g80) rfl (Wk TI3 rfl rfl (Wh hC2 rfl) (Wj rfl (g80) rfl (o_ge rfl rfl (Wa rfl (Ww rfl rfl (Wa rfl (Wg vB (Wc ?_))))))))))
      exact ⟨rfl, rfl, congrArg Value.bool (by rw [Bool.eq_iff_iff]; simp_all [okB] <;> omega), rfl⟩
     skip
     refine Wi rfl (g80) rfl (Wi rfl (g80) rfl (Wi rfl (g80) rfl (Wa rfl (Wv rfl (g80) (Wa rfl (Wg vB (Wc ?_)))))))
     exact ⟨rfl, rfl, congrArg Value.bool (by rw [Bool.eq_iff_iff]; simp_all [okB] <;> omega), rfl⟩
    try simp only [cs8] at c74
    refine We (Wb (Wa rfl (Wg vB (Wc (Wm (Wu rfl vB ?_))))))
    have h9 : okB x = false := by
     unfold okB
     repeat' split
     all_goals first | rfl | omega
    exact ⟨congrArg Value.bool (by rw [rightB, h9]; rfl), hx2⟩
   try simp only [cs8] at c48
   refine Wb (Wa rfl (o_eq rfl rfl (Wa rfl (Wg vB (Wc (Wn rfl (fun c48 => ?_) (fun c48 => ?_)))))))
   ·try simp only [cs8] at c48
    refine Wb (Wa rfl (Wl 1 TI40 rfl TI3 rfl rfl (Wa rfl (Wk TI3 rfl rfl (Wh hC2 rfl) (Wa rfl (o_ge rfl rfl (Wa rfl (Wf vB (Wq 3 rfl (fun g54 => ?_) (fun g54 => ?_))))))))))
    ·skip
     refine Wj rfl (g54) rfl (Wl 1 TI40 rfl TI3 rfl rfl (Wj rfl (g54) rfl (Wk TI3 rfl rfl (Wh hC2 rfl) (Wj rfl (g54) rfl (o_le rfl rfl (Wa rfl (Ww rfl rfl (Wa rfl (Wf vB (Wq 8 rfl (fun g59 => ?_) (fun g59 => ?_)))))))))))
     ·skip
      refine Wj rfl (g59) rfl (Wl 5 TI40 rfl TI3 rfl rfl (Wj rfl (g59) rfl (Wk TI3 rfl rfl (Wh hC2 rfl) (Wj rfl (g59) rfl (o_eq rfl rfl (Wa rfl (Ww rfl rfl (Wa rfl (Wg vB (Wc ?_))))))))))
      exact ⟨rfl, rfl, congrArg Value.bool (by rw [Bool.eq_iff_iff]; simp_all [okB] <;> omega), rfl⟩
     skip
     refine Wi rfl (g59) rfl (Wi rfl (g59) rfl (Wi rfl (g59) rfl (Wa rfl (Wv rfl (g59) (Wa rfl (Wg vB (Wc ?_)))))))
     exact ⟨rfl, rfl, congrArg Value.bool (by rw [Bool.eq_iff_iff]; simp_all [okB] <;> omega), rfl⟩
    skip
    refine Wi rfl (g54) rfl (Wi rfl (g54) rfl (Wi rfl (g54) rfl (Wa rfl (Wv rfl (g54) (Wa rfl (Wf vB (Wi rfl (rfl) rfl (Wi rfl (rfl) rfl (Wi rfl (rfl) rfl (Wa rfl (Wv rfl (rfl) (Wa rfl (Wg vB (Wc ?_))))))))))))))
    exact ⟨rfl, rfl, congrArg Value.bool (by rw [Bool.eq_iff_iff]; simp_all [okB] <;> omega), rfl⟩
   try simp only [cs8] at c48
   refine We (Wb (Wa rfl (o_eq rfl rfl (Wa rfl (Wg vB (Wc (Wn rfl (fun c64 => ?_) (fun c64 => ?_))))))))
   ·try simp only [cs8] at c64
    refine Wb (Wa rfl (Wl 1 TI40 rfl TI3 rfl rfl (Wa rfl (Wk TI3 rfl rfl (Wh hC2 rfl) (Wa rfl (o_eq rfl rfl (Wa rfl (Wf vB (Wq 3 rfl (fun g69 => ?_) (fun g69 => ?_))))))))))
    ·skip
     refine Wj rfl (g69) rfl (Wl 5 TI40 rfl TI3 rfl rfl (Wj rfl (g69) rfl (Wk TI3 rfl rfl (Wh hC2 rfl) (Wj rfl (g69) rfl (o_eq rfl rfl (Wa rfl (Ww rfl rfl (Wa rfl (Wg vB (Wc ?_))))))))))
     exact ⟨rfl, rfl, congrArg Value.bool (by rw [Bool.eq_iff_iff]; simp_all [okB] <;> omega), rfl⟩
    skip
    refine Wi rfl (g69) rfl (Wi rfl (g69) rfl (Wi rfl (g69) rfl (Wa rfl (Wv rfl (g69) (Wa rfl (Wg vB (Wc ?_)))))))
    exact ⟨rfl, rfl, congrArg Value.bool (by rw [Bool.eq_iff_iff]; simp_all [okB] <;> omega), rfl⟩
   try simp only [cs8] at c64
   refine We (We (Wb (Wa rfl (o_eq rfl rfl (Wa rfl (Wg vB (Wc (Wn rfl (fun c74 => ?_) (fun c74 => ?_)))))))))
   ·try simp only [cs8] at c74
    refine Wp (Wn rfl (fun c74 => ?_) (fun c74 => ?_))
    ·try simp only [cs8] at c74
     refine Wb (Wa rfl (Wl 1 TI40 rfl TI3 rfl rfl (Wa rfl (Wk TI3 rfl rfl (Wh hC2 rfl) (Wa rfl (o_eq rfl rfl (Wa rfl (Wf vB (Wq 3 rfl (fun g80 => ?_) (fun g80 => ?_))))))))))
     ·skip
      refine Wj rfl (g80) rfl (Wl 5 TI40 rfl TI3 rfl rfl (Wj rfl (g80) rfl (Wk TI3 rfl rfl (Wh hC2 rfl) (Wj rfl (g80) rfl (o_ge rfl rfl (Wa rfl (Ww rfl rfl (Wa rfl (Wg vB (Wc ?_))))))))))
      exact ⟨rfl, rfl, congrArg Value.bool (by rw [Bool.eq_iff_iff]; simp_all [okB] <;> omega), rfl⟩
     skip
     refine Wi rfl (g80) rfl (Wi rfl (g80) rfl (Wi rfl (g80) rfl (Wa rfl (Wv rfl (g80) (Wa rfl (Wg vB (Wc ?_)))))))
     exact ⟨rfl, rfl, congrArg Value.bool (by rw [Bool.eq_iff_iff]; simp_all [okB] <;> omega), rfl⟩
    try simp only [cs8] at c74
    refine We (Wb (Wa rfl (Wg vB (Wc (Wm (Wu rfl vB ?_))))))
    have h9 : okB x = false := by
     unfold okB
     repeat' split
     all_goals first | rfl | omega
    exact ⟨congrArg Value.bool (by rw [rightB, h9]; rfl), hx2⟩
   try simp only [cs8] at c74
   refine Wb (Wa rfl (o_eq rfl rfl (Wa rfl (Wg vB (Wc (Wn rfl (fun c74 => ?_) (fun c74 => ?_)))))))
   ·try simp only [cs8] at c74
    refine Wb (Wa rfl (Wl 1 TI40 rfl TI3 rfl rfl (Wa rfl (Wk TI3 rfl rfl (Wh hC2 rfl) (Wa rfl (o_eq rfl rfl (Wa rfl (Wf vB (Wq 3 rfl (fun g80 => ?_) (fun g80 => ?_))))))))))
    ·skip
     refine Wj rfl (g80) rfl (Wl 5 TI40 rfl TI3 rfl rfl (Wj rfl (g80) rfl (Wk TI3 rfl rfl (Wh hC2 rfl) (Wj rfl (g80) rfl (o_ge rfl rfl (Wa rfl (Ww rfl rfl (Wa rfl (Wg vB (Wc ?_))))))))))
     exact ⟨rfl, rfl, congrArg Value.bool (by rw [Bool.eq_iff_iff]; simp_all [okB] <;> omega), rfl⟩
    skip
    refine Wi rfl (g80) rfl (Wi rfl (g80) rfl (Wi rfl (g80) rfl (Wa rfl (Wv rfl (g80) (Wa rfl (Wg vB (Wc ?_)))))))
    exact ⟨rfl, rfl, congrArg Value.bool (by rw [Bool.eq_iff_iff]; simp_all [okB] <;> omega), rfl⟩
   try simp only [cs8] at c74
   refine We (Wb (Wa rfl (Wg vB (Wc (Wm (Wu rfl vB ?_))))))
   have h9 : okB x = false := by
    unfold okB
    repeat' split
    all_goals first | rfl | omega
   exact ⟨congrArg Value.bool (by rw [rightB, h9]; rfl), hx2⟩
  try simp only [cs8] at c36
  refine We (Wb (Wa rfl (o_eq rfl rfl (Wa rfl (Wg vB (Wc (Wn rfl (fun c36 => ?_) (fun c36 => ?_))))))))
  ·try simp only [cs8] at c36
   refine Wp (Wn rfl (fun c36 => ?_) (fun c36 => ?_))
   ·try simp only [cs8] at c36
    refine Wb (Wa rfl (Wl 1 TI40 rfl TI3 rfl rfl (Wa rfl (Wk TI3 rfl rfl (Wh hC2 rfl) (Wa rfl (o_eq rfl rfl (Wa rfl (Wf vB (Wq 3 rfl (fun g43 => ?_) (fun g43 => ?_))))))))))
    ·skip
     refine Wj rfl (g43) rfl (Wl 5 TI40 rfl TI3 rfl rfl (Wj rfl (g43) rfl (Wk TI3 rfl rfl (Wh hC2 rfl) (Wj rfl (g43) rfl (o_eq rfl rfl (Wa rfl (Ww rfl rfl (Wa rfl (Wg vB (Wc ?_))))))))))
     exact ⟨rfl, rfl, congrArg Value.bool (by rw [Bool.eq_iff_iff]; simp_all [okB] <;> omega), rfl⟩
    skip
    refine Wi rfl (g43) rfl (Wi rfl (g43) rfl (Wi rfl (g43) rfl (Wa rfl (Wv rfl (g43) (Wa rfl (Wg vB (Wc ?_)))))))
    exact ⟨rfl, rfl, congrArg Value.bool (by rw [Bool.eq_iff_iff]; simp_all [okB] <;> omega), rfl⟩
   try simp only [cs8] at c36
   refine We (We (Wb (Wa rfl (o_eq rfl rfl (Wa rfl (Wg vB (Wc (Wn rfl (fun c48 => ?_) (fun c48 => ?_)))))))))
   ·try simp only [cs8] at c48
    refine Wp (Wn rfl (fun c48 => ?_) (fun c48 => ?_))
    ·try simp only [cs8] at c48
     refine Wb (Wa rfl (Wl 1 TI40 rfl TI3 rfl rfl (Wa rfl (Wk TI3 rfl rfl (Wh hC2 rfl) (Wa rfl (o_ge rfl rfl (Wa rfl (Wf vB (Wq 3 rfl (fun g54 => ?_) (fun g54 => ?_))))))))))
     ·skip
      refine Wj rfl (g54) rfl (Wl 1 TI40 rfl TI3 rfl rfl (Wj rfl (g54) rfl (Wk TI3 rfl rfl (Wh hC2 rfl) (Wj rfl (g54) rfl (o_le rfl rfl (Wa rfl (Ww rfl rfl (Wa rfl (Wf vB (Wq 8 rfl (fun g59 => ?_) (fun g59 => ?_)))))))))))
      ·skip
       refine Wj rfl (g59) rfl (Wl 5 TI40 rfl TI3 rfl rfl (Wj rfl (g59) rfl (Wk TI3 rfl rfl (Wh hC2 rfl) (Wj rfl (g59) rfl (o_eq rfl rfl (Wa rfl (Ww rfl rfl (Wa rfl (Wg vB (Wc ?_))))))))))
       exact ⟨rfl, rfl, congrArg Value.bool (by rw [Bool.eq_iff_iff]; simp_all [okB] <;> omega), rfl⟩
      skip
      refine Wi rfl (g59) rfl (Wi rfl (g59) rfl (Wi rfl (g59) rfl (Wa rfl (Wv rfl (g59) (Wa rfl (Wg vB (Wc ?_)))))))
      exact ⟨rfl, rfl, congrArg Value.bool (by rw [Bool.eq_iff_iff]; simp_all [okB] <;> omega), rfl⟩
     skip
     refine Wi rfl (g54) rfl (Wi rfl (g54) rfl (Wi rfl (g54) rfl (Wa rfl (Wv rfl (g54) (Wa rfl (Wf vB (Wi rfl (rfl) rfl (Wi rfl (rfl) rfl (Wi rfl (rfl) rfl (Wa rfl (Wv rfl (rfl) (Wa rfl (Wg vB (Wc ?_))))))))))))))
     exact ⟨rfl, rfl, congrArg Value.bool (by rw [Bool.eq_iff_iff]; simp_all [okB] <;> omega), rfl⟩
    try simp only [cs8] at c48
    refine We (Wb (Wa rfl (o_eq rfl rfl (Wa rfl (Wg vB (Wc (Wn rfl (fun c64 => ?_) (fun c64 => ?_))))))))
    ·try simp only [cs8] at c64
     refine Wb (Wa rfl (Wl 1 TI40 rfl TI3 rfl rfl (Wa rfl (Wk TI3 rfl rfl (Wh hC2 rfl) (Wa rfl (o_eq rfl rfl (Wa rfl (Wf vB (Wq 3 rfl (fun g69 => ?_) (fun g69 => ?_))))))))))
     ·skip
      refine Wj rfl (g69) rfl (Wl 5 TI40 rfl TI3 rfl rfl (Wj rfl (g69) rfl (Wk TI3 rfl rfl (Wh hC2 rfl) (Wj rfl (g69) rfl (o_eq rfl rfl (Wa rfl (Ww rfl rfl (Wa rfl (Wg vB (Wc ?_))))))))))
      exact ⟨rfl, rfl, congrArg Value.bool (by rw [Bool.eq_iff_iff]; simp_all [okB] <;> omega), rfl⟩
     skip
     refine Wi rfl (g69) rfl (Wi rfl (g69) rfl (Wi rfl (g69) rfl (Wa rfl (Wv rfl (g69) (Wa rfl (Wg vB (Wc ?_)))))))
     exact ⟨rfl, rfl, congrArg Value.bool (by rw [Bool.eq_iff_iff]; simp_all [okB] <;> omega), rfl⟩
    try simp only [cs8] at c64
    refine We (We (Wb (Wa rfl (o_eq rfl rfl (Wa rfl (Wg vB (Wc (Wn rfl (fun c74 => ?_) (fun c74 => ?_)))))))))
    ·try simp only [cs8] at c74
     refine Wp (Wn rfl (fun c74 => ?_) (fun c74 => ?_))
     ·try simp only [cs8] at c74
      refine Wb (Wa rfl (Wl 1 TI40 rfl TI3 rfl rfl (Wa rfl (Wk TI3 rfl rfl (Wh hC2 rfl) (Wa rfl (o_eq rfl rfl (Wa rfl (Wf vB (Wq 3 rfl (fun g80 => ?_) (fun g80 => ?_))))))))))
      ·skip
       refine Wj rfl (g80) rfl (Wl 5 TI40 rfl TI3 rfl rfl (Wj rfl (g80) rfl (Wk TI3 rfl rfl (Wh hC2 rfl) (Wj rfl (g80) rfl (o_ge rfl rfl (Wa rfl (Ww rfl rfl (Wa rfl (Wg vB (Wc ?_))))))))))
       exact ⟨rfl, rfl, congrArg Value.bool (by rw [Bool.eq_iff_iff]; simp_all [okB] <;> omega), rfl⟩
      skip
      refine Wi rfl (g80) rfl (Wi rfl (g80) rfl (Wi rfl (g80) rfl (Wa rfl (Wv rfl (g80) (Wa rfl (Wg vB (Wc ?_)))))))
      exact ⟨rfl, rfl, congrArg Value.bool (by rw [Bool.eq_iff_iff]; simp_all [okB] <;> omega), rfl⟩
     try simp only [cs8] at c74
     refine We (Wb (Wa rfl (Wg vB (Wc (Wm (Wu rfl vB ?_))))))
     have h9 : okB x = false := by
      unfold okB
      repeat' split
      all_goals first | rfl | omega
     exact ⟨congrArg Value.bool (by rw [rightB, h9]; rfl), hx2⟩
    try simp only [cs8] at c74
    refine Wb (Wa rfl (o_eq rfl rfl (Wa rfl (Wg vB (Wc (Wn rfl (fun c74 => ?_) (fun c74 => ?_)))))))
    ·try simp only [cs8] at c74
     refine Wb (Wa rfl (Wl 1 TI40 rfl TI3 rfl rfl (Wa rfl (Wk TI3 rfl rfl (Wh hC2 rfl) (Wa rfl (o_eq rfl rfl (Wa rfl (Wf vB (Wq 3 rfl (fun g80 => ?_) (fun g80 => ?_))))))))))
     ·skip
      refine Wj rfl (g80) rfl (Wl 5 TI40 rfl TI3 rfl rfl (Wj rfl (g80) rfl (Wk TI3 rfl rfl (Wh hC2 rfl) (Wj rfl (g80) rfl (o_ge rfl rfl (Wa rfl (Ww rfl rfl (Wa rfl (Wg vB (Wc ?_))))))))))
      exact ⟨rfl, rfl, congrArg Value.bool (by rw [Bool.eq_iff_iff]; simp_all [okB] <;> omega), rfl⟩
     skip
     refine Wi rfl (g80) rfl (Wi rfl (g80) rfl (Wi rfl (g80) rfl (Wa rfl (Wv rfl (g80) (Wa rfl (Wg vB (Wc ?_)))))))
     exact ⟨rfl, rfl, congrArg Value.bool (by rw [Bool.eq_iff_iff]; simp_all [okB] <;> omega), rfl⟩
    try simp only [cs8] at c74
    refine We (Wb (Wa rfl (Wg vB (Wc (Wm (Wu rfl vB ?_))))))
    have h9 : okB x = false := by
     unfold okB
     repeat' split
     all_goals first | rfl | omega
    exact ⟨congrArg Value.bool (by rw [rightB, h9]; rfl), hx2⟩
   try simp only [cs8] at c48
   refine Wb (Wa rfl (o_eq rfl rfl (Wa rfl (Wg vB (Wc (Wn rfl (fun c48 => ?_) (fun c48 => ?_)))))))
   ·try simp only [cs8] at c48
    refine Wb (Wa rfl (Wl 1 TI40 rfl TI3 rfl rfl (Wa rfl (Wk TI3 rfl rfl (Wh hC2 rfl) (Wa rfl (o_ge rfl rfl (Wa rfl (Wf vB (Wq 3 rfl (fun g54 => ?_) (fun g54 => ?_))))))))))
    ·skip
     refine Wj rfl (g54) rfl (Wl 1 TI40 rfl TI3 rfl rfl (Wj rfl (g54) rfl (Wk TI3 rfl rfl (Wh hC2 rfl) (Wj rfl (g54) rfl (o_le rfl rfl (Wa rfl (Ww rfl rfl (Wa rfl (Wf vB (Wq 8 rfl (fun g59 => ?_) (fun g59 => ?_)))))))))))
     ·skip
      refine Wj rfl (g59) rfl (Wl 5 TI40 rfl TI3 rfl rfl (Wj rfl (g59) rfl (Wk TI3 rfl rfl (Wh hC2 rfl) (Wj rfl (g59) rfl (o_eq rfl rfl (Wa rfl (Ww rfl rfl (Wa rfl (Wg vB (Wc ?_))))))))))
      exact ⟨rfl, rfl, congrArg Value.bool (by rw [Bool.eq_iff_iff]; simp_all [okB] <;> omega), rfl⟩
     skip
     refine Wi rfl (g59) rfl (Wi rfl (g59) rfl (Wi rfl (g59) rfl (Wa rfl (Wv rfl (g59) (Wa rfl (Wg vB (Wc ?_)))))))
     exact ⟨rfl, rfl, congrArg Value.bool (by rw [Bool.eq_iff_iff]; simp_all [okB] <;> omega), rfl⟩
    skip
    refine Wi rfl (g54) rfl (Wi rfl (g54) rfl (Wi rfl (g54) rfl (Wa rfl (Wv rfl (g54) (Wa rfl (Wf vB (Wi rfl (rfl) rfl (Wi rfl (rfl) rfl (Wi rfl (rfl) rfl (Wa rfl (Wv rfl (rfl) (Wa rfl (Wg vB (Wc ?_))))))))))))))
    exact ⟨rfl, rfl, congrArg Value.bool (by rw [Bool.eq_iff_iff]; simp_all [okB] <;> omega), rfl⟩
   try simp only [cs8] at c48
   refine We (Wb (Wa rfl (o_eq rfl rfl (Wa rfl (Wg vB (Wc (Wn rfl (fun c64 => ?_) (fun c64 => ?_))))))))
   ·try simp only [cs8] at c64
    refine Wb (Wa rfl (Wl 1 TI40 rfl TI3 rfl rfl (Wa rfl (Wk TI3 rfl rfl (Wh hC2 rfl) (Wa rfl (o_eq rfl rfl (Wa rfl (Wf vB (Wq 3 rfl (fun g69 => ?_) (fun g69 => ?_))))))))))
    ·skip
     refine Wj rfl (g69) rfl (Wl 5 TI40 rfl TI3 rfl rfl (Wj rfl (g69) rfl (Wk TI3 rfl rfl (Wh hC2 rfl) (Wj rfl (g69) rfl (o_eq rfl rfl (Wa rfl (Ww rfl rfl (Wa rfl (Wg vB (Wc ?_))))))))))
     exact ⟨rfl, rfl, congrArg Value.bool (by rw [Bool.eq_iff_iff]; simp_all [okB] <;> omega), rfl⟩
    skip
    refine Wi rfl (g69) rfl (Wi rfl (g69) rfl (Wi rfl (g69) rfl (Wa rfl (Wv rfl (g69) (Wa rfl (Wg vB (Wc ?_)))))))
    exact ⟨rfl, rfl, congrArg Value.bool (by rw [Bool.eq_iff_iff]; simp_all [okB] <;> omega), rfl⟩
   try simp only [cs8] at c64
   refine We (We (Wb (Wa rfl (o_eq rfl rfl (Wa rfl (Wg vB (Wc (Wn rfl (fun c74 => ?_) (fun c74 => ?_)))))))))
   ·try simp only [cs8] at c74
    refine Wp (Wn rfl (fun c74 => ?_) (fun c74 => ?_))
    ·try simp only [cs8] at c74
     refine Wb (Wa rfl (Wl 1 TI40 rfl TI3 rfl rfl (Wa rfl (Wk TI3 rfl rfl (Wh hC2 rfl) (Wa rfl (o_eq rfl rfl (Wa rfl (Wf vB (Wq 3 rfl (fun g80 => ?_) (fun g80 => ?_))))))))))
     ·skip
      refine Wj rfl (g80) rfl (Wl 5 TI40 rfl TI3 rfl rfl (Wj rfl (g80) rfl (Wk TI3 rfl rfl (Wh hC2 rfl) (Wj rfl (g80) rfl (o_ge rfl rfl (Wa rfl (Ww rfl rfl (Wa rfl (Wg vB (Wc ?_))))))))))
      exact ⟨rfl, rfl, congrArg Value.bool (by rw [Bool.eq_iff_iff]; simp_all [okB] <;> omega), rfl⟩
     skip
     refine Wi rfl (g80) rfl (Wi rfl (g80) rfl (Wi rfl (g80) rfl (Wa rfl (Wv rfl (g80) (Wa rfl (Wg vB (Wc ?_)))))))
     exact ⟨rfl, rfl, congrArg Value.bool (by rw [Bool.eq_iff_iff]; simp_all [okB] <;> omega), rfl⟩
    try simp only [cs8] at c74
    refine We (Wb (Wa rfl (Wg vB (Wc (Wm (Wu rfl vB ?_))))))
    have h9 : okB x = false := by
     unfold okB
     repeat' split
     all_goals first | rfl | omega
    exact ⟨congrArg Value.bool (by rw [rightB, h9]; rfl), hx2⟩
   try simp only [cs8] at c74
   refine Wb (Wa rfl (o_eq rfl rfl (Wa rfl (Wg vB (Wc (Wn rfl (fun c74 => ?_) (fun c74 => ?_)))))))
   ·try simp only [cs8] at c74
    refine Wb (Wa rfl (Wl 1 TI40 rfl TI3 rfl rfl (Wa rfl (Wk TI3 rfl rfl (Wh hC2 rfl) (Wa rfl (o_eq rfl rfl (Wa rfl (Wf vB (Wq 3 rfl (fun g80 => ?_) (fun g80 => ?_))))))))))
    ·skip
     refine Wj rfl (g80) rfl (Wl 5 TI40 rfl TI3 rfl rfl (Wj rfl (g80) rfl (Wk TI3 rfl rfl (Wh hC2 rfl) (Wj rfl (g80) rfl (o_ge rfl rfl (Wa rfl (Ww rfl rfl (Wa rfl (Wg vB (Wc ?_))))))))))
     exact ⟨rfl, rfl, congrArg Value.bool (by rw [Bool.eq_iff_iff]; simp_all [okB] <;> omega), rfl⟩
    skip
    refine Wi rfl (g80) rfl (Wi rfl (g80) rfl (Wi rfl (g80) rfl (Wa rfl (Wv rfl (g80) (Wa rfl (Wg vB (Wc ?_)))))))
    exact ⟨rfl, rfl, congrArg Value.bool (by rw [Bool.eq_iff_iff]; simp_all [okB] <;> omega), rfl⟩
   try simp only [cs8] at c74
   refine We (Wb (Wa rfl (Wg vB (Wc (Wm (Wu rfl vB ?_))))))
   have h9 : okB x = false := by
    unfold okB
    repeat' split
    all_goals first | rfl | omega
   exact ⟨congrArg Value.bool (by rw [rightB, h9]; rfl), hx2⟩
  try simp only [cs8] at c36
  refine Wb (Wa rfl (o_eq rfl rfl (Wa rfl (Wg vB (Wc (Wn rfl (fun c36 => ?_) (fun c36 => ?_)))))))
  ·try simp only [cs8] at c36
   refine Wb (Wa rfl (Wl 1 TI40 rfl TI3 rfl rfl (Wa rfl (Wk TI3 rfl rfl (Wh hC2 rfl) (Wa rfl (o_eq rfl rfl (Wa rfl (Wf vB (Wq 3 rfl (fun g43 => ?_) (fun g43 => ?_))))))))))
   ·skip
    refine Wj rfl (g43) rfl (Wl 5 TI40 rfl TI3 rfl rfl (Wj rfl (g43) rfl (Wk TI3 rfl rfl (Wh hC2 rfl) (Wj rfl (g43) rfl (o_eq rfl rfl (Wa rfl (Ww rfl rfl (Wa rfl (Wg vB (Wc ?_))))))))))
    exact ⟨rfl, rfl, congrArg Value.bool (by rw [Bool.eq_iff_iff]; simp_all [okB] <;> omega), rfl⟩
   skip
   refine Wi rfl (g43) rfl (Wi rfl (g43) rfl (Wi rfl (g43) rfl (Wa rfl (Wv rfl (g43) (Wa rfl (Wg vB (Wc ?_)))))))
   exact ⟨rfl, rfl, congrArg Value.bool (by rw [Bool.eq_iff_iff]; simp_all [okB] <;> omega), rfl⟩
  try simp only [cs8] at c36
  refine We (We (Wb (Wa rfl (o_eq rfl rfl (Wa rfl (Wg vB (Wc (Wn rfl (fun c48 => ?_) (fun c48 => ?_)))))))))
  ·try simp only [cs8] at c48
   refine Wp (Wn rfl (fun c48 => ?_) (fun c48 => ?_))
   ·try simp only [cs8] at c48
    refine Wb (Wa rfl (Wl 1 TI40 rfl TI3 rfl rfl (Wa rfl (Wk TI3 rfl rfl (Wh hC2 rfl) (Wa rfl (o_ge rfl rfl (Wa rfl (Wf vB (Wq 3 rfl (fun g54 => ?_) (fun g54 => ?_))))))))))
    ·skip
     refine Wj rfl (g54) rfl (Wl 1 TI40 rfl TI3 rfl rfl (Wj rfl (g54) rfl (Wk TI3 rfl rfl (Wh hC2 rfl) (Wj rfl (g54) rfl (o_le rfl rfl (Wa rfl (Ww rfl rfl (Wa rfl (Wf vB (Wq 8 rfl (fun g59 => ?_) (fun g59 => ?_)))))))))))
     ·skip
      refine Wj rfl (g59) rfl (Wl 5 TI40 rfl TI3 rfl rfl (Wj rfl (g59) rfl (Wk TI3 rfl rfl (Wh hC2 rfl) (Wj rfl (g59) rfl (o_eq rfl rfl (Wa rfl (Ww rfl rfl (Wa rfl (Wg vB (Wc ?_))))))))))
      exact ⟨rfl, rfl, congrArg Value.bool (by rw [Bool.eq_iff_iff]; simp_all [okB] <;> omega), rfl⟩
     skip
     refine Wi rfl (g59) rfl (Wi rfl (g59) rfl (Wi rfl (g59) rfl (Wa rfl (Wv rfl (g59) (Wa rfl (Wg vB (Wc ?_)))))))
     exact ⟨rfl, rfl, congrArg Value.bool (by rw [Bool.eq_iff_iff]; simp_all [okB] <;> omega), rfl⟩
    skip
    refine Wi rfl (g54) rfl (Wi rfl (g54) rfl (Wi rfl (g54) rfl (Wa rfl (Wv rfl (g54) (Wa rfl (Wf vB (Wi rfl (rfl) rfl (Wi rfl (rfl) rfl (Wi rfl (rfl) rfl (Wa rfl (Wv rfl (rfl) (Wa rfl (Wg vB (Wc ?_))))))))))))))
    exact ⟨rfl, rfl, congrArg Value.bool (by rw [Bool.eq_iff_iff]; simp_all [okB] <;> omega), rfl⟩
   try simp only [cs8] at c48
   refine We (Wb (Wa rfl (o_eq rfl rfl (Wa rfl (Wg vB (Wc (Wn rfl (fun c64 => ?_) (fun c64 => ?_))))))))
   ·try simp only [cs8] at c64
    refine Wb (Wa rfl (Wl 1 TI40 rfl TI3 rfl rfl (Wa rfl (Wk TI3 rfl rfl (Wh hC2 rfl) (Wa rfl (o_eq rfl rfl (Wa rfl (Wf vB (Wq 3 rfl (fun g69 => ?_) (fun g69 => ?_))))))))))
    ·skip
     refine Wj rfl (g69) rfl (Wl 5 TI40 rfl TI3 rfl rfl (Wj rfl (g69) rfl (Wk TI3 rfl rfl (Wh hC2 rfl) (Wj rfl (g69) rfl (o_eq rfl rfl (Wa rfl (Ww rfl rfl (Wa rfl (Wg vB (Wc ?_))))))))))
     exact ⟨rfl, rfl, congrArg Value.bool (by rw [Bool.eq_iff_iff]; simp_all [okB] <;> omega), rfl⟩
    skip
    refine Wi rfl (g69) rfl (Wi rfl (g69) rfl (Wi rfl (g69) rfl (Wa rfl (Wv rfl (g69) (Wa rfl (Wg vB (Wc ?_)))))))
    exact ⟨rfl, rfl, congrArg Value.bool (by rw [Bool.eq_iff_iff]; simp_all [okB] <;> omega), rfl⟩
   try simp only [cs8] at c64
   refine We (We (Wb (Wa rfl (o_eq rfl rfl (Wa rfl (Wg vB (Wc (Wn rfl (fun c74 => ?_) (fun c74 => ?_)))))))))
   ·try simp only [cs8] at c74
    refine Wp (Wn rfl (fun c74 => ?_) (fun c74 => ?_))
    ·try simp only [cs8] at c74
     refine Wb (Wa rfl (Wl 1 TI40 rfl TI3 rfl rfl (Wa rfl (Wk TI3 rfl rfl (Wh hC2 rfl) (Wa rfl (o_eq rfl rfl (Wa rfl (Wf vB (Wq 3 rfl (fun g80 => ?_) (fun g80 => ?_))))))))))
     ·skip
      refine Wj rfl (g80) rfl (Wl 5 TI40 rfl TI3 rfl rfl (Wj rfl (g80) rfl (Wk TI3 rfl rfl (Wh hC2 rfl) (Wj rfl (g80) rfl (o_ge rfl rfl (Wa rfl (Ww rfl rfl (Wa rfl (Wg vB (Wc ?_))))))))))
      exact ⟨rfl, rfl, congrArg Value.bool (by rw [Bool.eq_iff_iff]; simp_all [okB] <;> omega), rfl⟩
     skip
     refine Wi rfl (g80) rfl (Wi rfl (g80) rfl (Wi rfl (g80) rfl (Wa rfl (Wv rfl (g80) (Wa rfl (Wg vB (Wc ?_)))))))
     exact ⟨rfl, rfl, congrArg Value.bool (by rw [Bool.eq_iff_iff]; simp_all [okB] <;> omega), rfl⟩
    try simp only [cs8] at c74
    refine We (Wb (Wa rfl (Wg vB (Wc (Wm (Wu rfl vB ?_))))))
    have h9 : okB x = false := by
     unfold okB
     repeat' split
     all_goals first | rfl | omega
    exact ⟨congrArg Value.bool (by rw [rightB, h9]; rfl), hx2⟩
   try simp only [cs8] at c74
   refine Wb (Wa rfl (o_eq rfl rfl (Wa rfl (Wg vB (Wc (Wn rfl (fun c74 => ?_) (fun c74 => ?_)))))))
   ·try simp only [cs8] at c74
    refine Wb (Wa rfl (Wl 1 TI40 rfl TI3 rfl rfl (Wa rfl (Wk TI3 rfl rfl (Wh hC2 rfl) (Wa rfl (o_eq rfl rfl (Wa rfl (Wf vB (Wq 3 rfl (fun g80 => ?_) (fun g80 => ?_))))))))))
    ·skip
     refine Wj rfl (g80) rfl (Wl 5 TI40 rfl TI3 rfl rfl (Wj rfl (g80) rfl (Wk TI3 rfl rfl (Wh hC2 rfl) (Wj rfl (g80) rfl (o_ge rfl rfl (Wa rfl (Ww rfl rfl (Wa rfl (Wg vB (Wc ?_))))))))))
     exact ⟨rfl, rfl, congrArg Value.bool (by rw [Bool.eq_iff_iff]; simp_all [okB] <;> omega), rfl⟩
    skip
    refine Wi rfl (g80) rfl (Wi rfl (g80) rfl (Wi rfl (g80) rfl (Wa rfl (Wv rfl (g80) (Wa rfl (Wg vB (Wc ?_)))))))
    exact ⟨rfl, rfl, congrArg Value.bool (by rw [Bool.eq_iff_iff]; simp_all [okB] <;> omega), rfl⟩
   try simp only [cs8] at c74
   refine We (Wb (Wa rfl (Wg vB (Wc (Wm (Wu rfl vB ?_))))))
   have h9 : okB x = false := by
    unfold okB
    repeat' split
    all_goals first | rfl | omega
   exact ⟨congrArg Value.bool (by rw [rightB, h9]; rfl), hx2⟩
  try simp only [cs8] at c48
  refine Wb (Wa rfl (o_eq rfl rfl (Wa rfl (Wg vB (Wc (Wn rfl (fun c48 => ?_) (fun c48 => ?_)))))))
  ·try simp only [cs8] at c48
   refine Wb (Wa rfl (Wl 1 TI40 rfl TI3 rfl rfl (Wa rfl (Wk TI3 rfl rfl (Wh hC2 rfl) (Wa rfl (o_ge rfl rfl (Wa rfl (Wf vB (Wq 3 rfl (fun g54 => ?_) (fun g54 => ?_))))))))))
   ·skip
    refine Wj rfl (g54) rfl (Wl 1 TI40 rfl TI3 rfl rfl (Wj rfl (g54) rfl (Wk TI3 rfl rfl (Wh hC2 rfl) (Wj rfl (g54) rfl (o_le rfl rfl (Wa rfl (Ww rfl rfl (Wa rfl (Wf vB (Wq 8 rfl (fun g59 => ?_) (fun g59 => ?_)))))))))))
    ·skip
     refine Wj rfl (g59) rfl (Wl 5 TI40 rfl TI3 rfl rfl (Wj rfl (g59) rfl (Wk TI3 rfl rfl (Wh hC2 rfl) (Wj rfl (g59) rfl (o_eq rfl rfl (Wa rfl (Ww rfl rfl (Wa rfl (Wg vB (Wc ?_))))))))))
     exact ⟨rfl, rfl, congrArg Value.bool (by rw [Bool.eq_iff_iff]; simp_all [okB] <;> omega), rfl⟩
    skip
    refine Wi rfl (g59) rfl (Wi rfl (g59) rfl (Wi rfl (g59) rfl (Wa rfl (Wv rfl (g59) (Wa rfl (Wg vB (Wc ?_)))))))
    exact ⟨rfl, rfl, congrArg Value.bool (by rw [Bool.eq_iff_iff]; simp_all [okB] <;> omega), rfl⟩
   skip
   refine Wi rfl (g54) rfl (Wi rfl (g54) rfl (Wi rfl (g54) rfl (Wa rfl (Wv rfl (g54) (Wa rfl (Wf vB (Wi rfl (rfl) rfl (Wi rfl (rfl) rfl (Wi rfl (rfl) rfl (Wa rfl (Wv rfl (rfl) (Wa rfl (Wg vB (Wc ?_))))))))))))))
   exact ⟨rfl, rfl, congrArg Value.bool (by rw [Bool.eq_iff_iff]; simp_all [okB] <;> omega), rfl⟩
  try simp only [cs8] at c48
  refine We (Wb (Wa rfl (o_eq rfl rfl (Wa rfl (Wg vB (Wc (Wn rfl (fun c64 => ?_) (fun c64 => ?_))))))))
  ·try simp only [cs8] at c64
   refine Wb (Wa rfl (Wl 1 TI40 rfl TI3 rfl rfl (Wa rfl (Wk TI3 rfl rfl (Wh hC2 rfl) (Wa rfl (o_eq rfl rfl (Wa rfl (Wf vB (Wq 3 rfl (fun g69 => ?_) (fun g69 => ?_))))))))))
   ·skip
    refine Wj rfl (g69) rfl (Wl 5 TI40 rfl TI3 rfl rfl (Wj rfl (g69) rfl (Wk TI3 rfl rfl (Wh hC2 rfl) (Wj rfl (g69) rfl (o_eq rfl rfl (Wa rfl (Ww rfl rfl (Wa rfl (Wg vB (Wc ?_))))))))))
    exact ⟨rfl, rfl, congrArg Value.bool (by rw [Bool.eq_iff_iff]; simp_all [okB] <;> omega), rfl⟩
   skip
   refine Wi rfl (g69) rfl (Wi rfl (g69) rfl (Wi rfl (g69) rfl (Wa rfl (Wv rfl (g69) (Wa rfl (Wg vB (Wc ?_)))))))
   exact ⟨rfl, rfl, congrArg Value.bool (by rw [Bool.eq_iff_iff]; simp_all [okB] <;> omega), rfl⟩
  try simp only [cs8] at c64
  refine We (We (Wb (Wa rfl (o_eq rfl rfl (Wa rfl (Wg vB (Wc (Wn rfl (fun c74 => ?_) (fun c74 => ?_)))))))))
  ·try simp only [cs8] at c74
   refine Wp (Wn rfl (fun c74 => ?_) (fun c74 => ?_))
   ·try simp only [cs8] at c74
    refine Wb (Wa rfl (Wl 1 TI40 rfl TI3 rfl rfl (Wa rfl (Wk TI3 rfl rfl (Wh hC2 rfl) (Wa rfl (o_eq rfl rfl (Wa rfl (Wf vB (Wq 3 rfl (fun g80 => ?_) (fun g80 => ?_))))))))))
    ·skip
     refine Wj rfl (g80) rfl (Wl 5 TI40 rfl TI3 rfl rfl (Wj rfl (g80) rfl (Wk TI3 rfl rfl (Wh hC2 rfl) (Wj rfl (g80) rfl (o_ge rfl rfl (Wa rfl (Ww rfl rfl (Wa rfl (Wg vB (Wc ?_))))))))))
     exact ⟨rfl, rfl, congrArg Value.bool (by rw [Bool.eq_iff_iff]; simp_all [okB] <;> omega), rfl⟩
    skip
    refine Wi rfl (g80) rfl (Wi rfl (g80) rfl (Wi rfl (g80) rfl (Wa rfl (Wv rfl (g80) (Wa rfl (Wg vB (Wc ?_)))))))
    exact ⟨rfl, rfl, congrArg Value.bool (by rw [Bool.eq_iff_iff]; simp_all [okB] <;> omega), rfl⟩
   try simp only [cs8] at c74
   refine We (Wb (Wa rfl (Wg vB (Wc (Wm (Wu rfl vB ?_))))))
   have h9 : okB x = false := by
    unfold okB
    repeat' split
    all_goals first | rfl | omega
   exact ⟨congrArg Value.bool (by rw [rightB, h9]; rfl), hx2⟩
  try simp only [cs8] at c74
  refine Wb (Wa rfl (o_eq rfl rfl (Wa rfl (Wg vB (Wc (Wn rfl (fun c74 => ?_) (fun c74 => ?_)))))))
  ·try simp only [cs8] at c74
   refine Wb (Wa rfl (Wl 1 TI40 rfl TI3 rfl rfl (Wa rfl (Wk TI3 rfl rfl (Wh hC2 rfl) (Wa rfl (o_eq rfl rfl (Wa rfl (Wf vB (Wq 3 rfl (fun g80 => ?_) (fun g80 => ?_))))))))))
   ·skip
    refine Wj rfl (g80) rfl (Wl 5 TI40 rfl TI3 rfl rfl (Wj rfl (g80) rfl (Wk TI3 rfl rfl (Wh hC2 rfl) (Wj rfl (g80) rfl (o_ge rfl rfl (Wa rfl (Ww rfl rfl (Wa rfl (Wg vB (Wc ?_))))))))))
    exact ⟨rfl, rfl, congrArg Value.bool (by rw [Bool.eq_iff_iff]; simp_all [okB] <;> omega), rfl⟩
   skip
   refine Wi rfl (g80) rfl (Wi rfl (g80) rfl (Wi rfl (g80) rfl (Wa rfl (Wv rfl (g80) (Wa rfl (Wg vB (Wc ?_)))))))
   exact ⟨rfl, rfl, congrArg Value.bool (by rw [Bool.eq_iff_iff]; simp_all [okB] <;> omega), rfl⟩
  try simp only [cs8] at c74
  refine We (Wb (Wa rfl (Wg vB (Wc (Wm (Wu rfl vB ?_))))))
  have h9 : okB x = false := by
   unfold okB
   repeat' split
   all_goals first | rfl | omega
  exact ⟨congrArg Value.bool (by rw [rightB, h9]; rfl), hx2⟩
 rintro e w ⟨h1, h2, h5, hw⟩
 subst hw
 refine We (Wb (WL.cut (fun e1 w1 => e1 1 = .int .i64 above ∧ e1 2 = .pointer (some ⟨c2, 0, none⟩) ∧ e1 5 = .bool (okB x) ∧ e1 6 = .bool (namB x) ∧ w1 = w) ?_ ?_))
 ·-- region 18
  refine Wa rfl (Wl 0 TI40 rfl TI3 rfl h2 (Wa rfl (Wk TI3 rfl rfl (Wh hC2 rfl) (Wa rfl (o_eq rfl rfl (Wa rfl (Wf vB (Wq 3 rfl (fun g88 => ?_) (fun g88 => ?_)))))))))
  ·skip
   refine Wj rfl (g88) rfl (Wl 2 TI40 rfl TI9 rfl h2 (Wj rfl (g88) rfl (Wk TI9 rfl rfl (Wh hC2 rfl) (Wj rfl (g88) rfl (o_call Tryd.call31 (lc rfl ln) ((name_spec x.name _ hn).mono ?_))))))
   rintro v91 w91 ⟨rfl, rfl⟩
   refine Wa rfl (Ww rfl rfl (Wa rfl (Wf vB (Wq 8 rfl (fun g93 => ?_) (fun g93 => ?_)))))
   ·skip
    refine Wi rfl (g93) rfl (Wi rfl (g93) rfl (Wi rfl (g93) rfl (Wi rfl (g93) rfl (WL.z rfl rfl (WL.z rfl rfl (WL.z rfl rfl (Wi rfl (g93) rfl (Wa rfl (o_pickT rfl (g93) (Wa rfl (Wg vB ?_)))))))))))
    exact Wc (⟨h1, h2, h5, congrArg Value.bool (by rw [Bool.eq_iff_iff]; simp_all [namB] <;> omega), rfl⟩)
   skip
   refine Wj rfl (g93) rfl (Wl 0 TI40 rfl TI3 rfl h2 (Wj rfl (g93) rfl (Wk TI3 rfl rfl (Wh hC2 rfl) (Wj rfl (g93) rfl (o_ne rfl rfl (Wj rfl (g93) rfl (Wf vB (Wq 12 rfl (fun g97 => ?_) (fun g97 => ?_)))))))))
   ·skip
    refine Wj rfl (g97) rfl (Wl 2 TI40 rfl TI9 rfl h2 (Wj rfl (g97) rfl (Wk TI9 rfl rfl (Wh hC2 rfl) (Wj rfl (g97) rfl (o_eqT rfl rfl (Wj rfl (g93) rfl (Ww rfl rfl (Wa rfl (o_pickO rfl rfl (Wa rfl (Wg vB ?_)))))))))))
    exact Wc (⟨h1, h2, h5, congrArg Value.bool (by rw [Bool.eq_iff_iff]; simp_all [namB] <;> omega), rfl⟩)
   skip
   refine Wi rfl (g97) rfl (Wi rfl (g97) rfl (Wi rfl (g97) rfl (Wj rfl (g93) rfl (Wv rfl (g97) (Wa rfl (o_pickO rfl rfl (Wa rfl (Wg vB ?_))))))))
   exact Wc (⟨h1, h2, h5, congrArg Value.bool (by rw [Bool.eq_iff_iff]; simp_all [namB] <;> omega), rfl⟩)
  skip
  refine Wi rfl (g88) rfl (Wi rfl (g88) rfl (Wi rfl (g88) rfl (Wa rfl (Wv rfl (g88) (Wa rfl (Wf vB (Wj rfl (rfl) rfl (Wl 0 TI40 rfl TI3 rfl h2 (Wj rfl (rfl) rfl (Wk TI3 rfl rfl (Wh hC2 rfl) (Wj rfl (rfl) rfl (o_ne rfl rfl (Wj rfl (rfl) rfl (Wf vB (Wq 12 rfl (fun g97 => ?_) (fun g97 => ?_))))))))))))))))
  ·skip
   refine Wj rfl (g97) rfl (Wl 2 TI40 rfl TI9 rfl h2 (Wj rfl (g97) rfl (Wk TI9 rfl rfl (Wh hC2 rfl) (Wj rfl (g97) rfl (o_eqT rfl rfl (Wj rfl (rfl) rfl (Ww rfl rfl (Wa rfl (o_pickO rfl rfl (Wa rfl (Wg vB ?_)))))))))))
   exact Wc (⟨h1, h2, h5, congrArg Value.bool (by rw [Bool.eq_iff_iff]; simp_all [namB] <;> omega), rfl⟩)
  skip
  refine Wi rfl (g97) rfl (Wi rfl (g97) rfl (Wi rfl (g97) rfl (Wj rfl (rfl) rfl (Wv rfl (g97) (Wa rfl (o_pickO rfl rfl (Wa rfl (Wg vB ?_))))))))
  exact Wc (⟨h1, h2, h5, congrArg Value.bool (by rw [Bool.eq_iff_iff]; simp_all [namB] <;> omega), rfl⟩)
 rintro e w ⟨h1, h2, h5, h6, hw⟩
 subst hw
 refine We (Wb (WL.cut (fun e1 w1 => e1 1 = .int .i64 above ∧ e1 2 = .pointer (some ⟨c2, 0, none⟩) ∧ e1 5 = .bool (okB x) ∧ e1 6 = .bool (namB x) ∧ e1 7 = .bool (labB x above) ∧ w1 = w) ?_ ?_))
 ·-- region 19
  refine Wa rfl (Wf h1 (Wa rfl (o_eq rfl rfl (Wa rfl (Wf vB (Wq 2 rfl (fun g105 => ?_) (fun g105 => ?_)))))))
  ·skip
   refine Wj rfl (g105) rfl (Wl 3 TI40 rfl TI9 rfl h2 (Wj rfl (g105) rfl (Wk TI9 rfl rfl (Wh hC2 rfl) (Wj rfl (g105) rfl (o_call Tryd.call31 (lc rfl ln) ((name_spec x.label _ hl).mono ?_))))))
   rintro v108 w108 ⟨rfl, rfl⟩
   refine Wa rfl (Ww rfl rfl (Wa rfl (Wf vB (Wq 7 rfl (fun g110 => ?_) (fun g110 => ?_)))))
   ·skip
    refine Wi rfl (g110) rfl (Wi rfl (g110) rfl (Wi rfl (g110) rfl (WL.z rfl rfl (WL.z rfl rfl (WL.z rfl rfl (Wi rfl (g110) rfl (Wa rfl (o_pickT rfl (g110) (Wa rfl (Wg vB ?_))))))))))
    exact Wc (⟨h1, h2, h5, h6, congrArg Value.bool (by rw [Bool.eq_iff_iff]; simp_all [labB] <;> omega), rfl⟩)
   skip
   refine Wj rfl (g110) rfl (Wf h1 (Wj rfl (g110) rfl (o_ne rfl rfl (Wj rfl (g110) rfl (Wf vB (Wq 10 rfl (fun g113 => ?_) (fun g113 => ?_)))))))
   ·skip
    refine Wj rfl (g113) rfl (Wl 3 TI40 rfl TI9 rfl h2 (Wj rfl (g113) rfl (Wk TI9 rfl rfl (Wh hC2 rfl) (Wj rfl (g113) rfl (o_eqT rfl rfl (Wj rfl (g110) rfl (Ww rfl rfl (Wa rfl (o_pickO rfl rfl (Wa rfl (Wg vB ?_)))))))))))
    exact Wc (⟨h1, h2, h5, h6, congrArg Value.bool (by rw [Bool.eq_iff_iff]; simp_all [labB] <;> omega), rfl⟩)
   skip
   refine Wi rfl (g113) rfl (Wi rfl (g113) rfl (Wi rfl (g113) rfl (Wj rfl (g110) rfl (Wv rfl (g113) (Wa rfl (o_pickO rfl rfl (Wa rfl (Wg vB ?_))))))))
   exact Wc (⟨h1, h2, h5, h6, congrArg Value.bool (by rw [Bool.eq_iff_iff]; simp_all [labB] <;> omega), rfl⟩)
  skip
  refine Wi rfl (g105) rfl (Wi rfl (g105) rfl (Wi rfl (g105) rfl (Wa rfl (Wv rfl (g105) (Wa rfl (Wf vB (Wj rfl (rfl) rfl (Wf h1 (Wj rfl (rfl) rfl (o_ne rfl rfl (Wj rfl (rfl) rfl (Wf vB (Wq 10 rfl (fun g113 => ?_) (fun g113 => ?_))))))))))))))
  ·skip
   refine Wj rfl (g113) rfl (Wl 3 TI40 rfl TI9 rfl h2 (Wj rfl (g113) rfl (Wk TI9 rfl rfl (Wh hC2 rfl) (Wj rfl (g113) rfl (o_eqT rfl rfl (Wj rfl (rfl) rfl (Ww rfl rfl (Wa rfl (o_pickO rfl rfl (Wa rfl (Wg vB ?_)))))))))))
   exact Wc (⟨h1, h2, h5, h6, congrArg Value.bool (by rw [Bool.eq_iff_iff]; simp_all [labB] <;> omega), rfl⟩)
  skip
  refine Wi rfl (g113) rfl (Wi rfl (g113) rfl (Wi rfl (g113) rfl (Wj rfl (rfl) rfl (Wv rfl (g113) (Wa rfl (o_pickO rfl rfl (Wa rfl (Wg vB ?_))))))))
  exact Wc (⟨h1, h2, h5, h6, congrArg Value.bool (by rw [Bool.eq_iff_iff]; simp_all [labB] <;> omega), rfl⟩)
 rintro e w ⟨h1, h2, h5, h6, h7, hw⟩
 subst hw
 refine We (Wb (WL.cut (fun e1 w1 => e1 5 = .bool (okB x) ∧ e1 6 = .bool (namB x) ∧ e1 7 = .bool (labB x above) ∧ e1 8 = .bool (tagB x above) ∧ w1 = w) ?_ ?_))
 ·-- region 20
  refine Wa rfl (Wl 4 TI40 rfl TI3 rfl h2 (Wa rfl (Wk TI3 rfl rfl (Wh hC2 rfl) (Wa rfl (o_eq rfl rfl (Wa rfl (Wf vB (Wq 3 rfl (fun g122 => ?_) (fun g122 => ?_)))))))))
  ·skip
   refine Wi rfl (g122) rfl (Wi rfl (g122) rfl (Wi rfl (g122) rfl (WL.z rfl rfl (WL.z rfl rfl (WL.z rfl rfl (Wi rfl (g122) rfl (Wi rfl (g122) rfl (WL.z rfl rfl (WL.z rfl rfl (WL.z rfl rfl (Wi rfl (g122) rfl (Wa rfl (o_pickT rfl (g122) (Wa rfl (Wg vB ?_)))))))))))))))
   exact Wc (⟨h5, h6, h7, congrArg Value.bool (by rw [Bool.eq_iff_iff]; simp_all [tagB] <;> omega), rfl⟩)
  skip
  refine Wj rfl (g122) rfl (Wf h1 (Wj rfl (g122) rfl (o_eq rfl rfl (Wj rfl (g122) rfl (Wf vB (Wq 6 rfl (fun g125 => ?_) (fun g125 => ?_)))))))
  ·skip
   refine Wj rfl (g125) rfl (Wl 4 TI40 rfl TI3 rfl h2 (Wj rfl (g125) rfl (Wk TI3 rfl rfl (Wh hC2 rfl) (Wj rfl (g125) rfl (o_gt rfl rfl (Wj rfl (g122) rfl (Ww rfl rfl (Wj rfl (g122) rfl (Wf vB (Wq 11 rfl (fun g130 => ?_) (fun g130 => ?_)))))))))))
   ·skip
    refine Wj rfl (g130) rfl (Wl 4 TI40 rfl TI3 rfl h2 (Wj rfl (g130) rfl (Wk TI3 rfl rfl (Wh hC2 rfl) (Wj rfl (g130) rfl (o_le rfl rfl (Wj rfl (g122) rfl (Ww rfl rfl (Wa rfl (o_pickO rfl rfl (Wa rfl (Wg vB ?_)))))))))))
    exact Wc (⟨h5, h6, h7, congrArg Value.bool (by rw [Bool.eq_iff_iff]; simp_all [tagB] <;> omega), rfl⟩)
   skip
   refine Wi rfl (g130) rfl (Wi rfl (g130) rfl (Wi rfl (g130) rfl (Wj rfl (g122) rfl (Wv rfl (g130) (Wa rfl (o_pickO rfl rfl (Wa rfl (Wg vB ?_))))))))
   exact Wc (⟨h5, h6, h7, congrArg Value.bool (by rw [Bool.eq_iff_iff]; simp_all [tagB] <;> omega), rfl⟩)
  skip
  refine Wi rfl (g125) rfl (Wi rfl (g125) rfl (Wi rfl (g125) rfl (Wj rfl (g122) rfl (Wv rfl (g125) (Wj rfl (g122) rfl (Wf vB (Wi rfl (rfl) rfl (Wi rfl (rfl) rfl (Wi rfl (rfl) rfl (Wj rfl (g122) rfl (Wv rfl (rfl) (Wa rfl (o_pickO rfl rfl (Wa rfl (Wg vB ?_)))))))))))))))
  exact Wc (⟨h5, h6, h7, congrArg Value.bool (by rw [Bool.eq_iff_iff]; simp_all [tagB] <;> omega), rfl⟩)
 rintro e w ⟨h5, h6, h7, h8, hw⟩
 subst hw
 refine We (Wb (Wa rfl (Wf h5 (Wa rfl (Wf vB (Wq 1 rfl (fun g137 => ?_) (fun g137 => ?_)))))))
 ·skip
  refine Wj rfl (g137) rfl (Wf h6 (Wa rfl (Ww rfl rfl (Wa rfl (Wf vB (Wq 4 rfl (fun g140 => ?_) (fun g140 => ?_)))))))
  ·skip
   refine Wj rfl (g140) rfl (Wf h7 (Wa rfl (Ww rfl rfl (Wa rfl (Wf vB (Wq 7 rfl (fun g143 => ?_) (fun g143 => ?_)))))))
   ·skip
    refine Wj rfl (g143) rfl (Wf h8 (Wa rfl (Ww rfl rfl (Wa rfl (Wg vB (Wc (Wm (Wu rfl vB ?_))))))))
    exact ⟨congrArg Value.bool (by first | rfl | (rw [rightB, Bool.eq_iff_iff]; simp_all; done) | (rw [rightB]; simp_all; done)), hx2⟩
   skip
   refine Wi rfl (g143) rfl (Wa rfl (Wv rfl (g143) (Wa rfl (Wg vB (Wc (Wm (Wu rfl vB ?_)))))))
   exact ⟨congrArg Value.bool (by first | rfl | (rw [rightB, Bool.eq_iff_iff]; simp_all; done) | (rw [rightB]; simp_all; done)), hx2⟩
  skip
  refine Wi rfl (g140) rfl (Wa rfl (Wv rfl (g140) (Wa rfl (Wf vB (Wi rfl (rfl) rfl (Wa rfl (Wv rfl (rfl) (Wa rfl (Wg vB (Wc (Wm (Wu rfl vB ?_))))))))))))
  exact ⟨congrArg Value.bool (by first | rfl | (rw [rightB, Bool.eq_iff_iff]; simp_all; done) | (rw [rightB]; simp_all; done)), hx2⟩
 skip
 refine Wi rfl (g137) rfl (Wa rfl (Wv rfl (g137) (Wa rfl (Wf vB (Wi rfl (rfl) rfl (Wa rfl (Wv rfl (rfl) (Wa rfl (Wf vB (Wi rfl (rfl) rfl (Wa rfl (Wv rfl (rfl) (Wa rfl (Wg vB (Wc (Wm (Wu rfl vB ?_)))))))))))))))))
 exact ⟨congrArg Value.bool (by first | rfl | (rw [rightB, Bool.eq_iff_iff]; simp_all; done) | (rw [rightB]; simp_all; done)), hx2⟩

structure Opn where
 kind : Int
 left : Int
 deep : Int
def opV (o : Opn) : List Value := [.int .i64 o.kind, .int .i64 o.left, .int .i64 o.deep]
def opsR (S : List Opn) : List Value := S.reverse.flatMap opV
def popZ (S : List Opn) : List Opn := S.dropWhile (fun o => decide (o.left = 0))
def manyB (x : Ex) : Bool := (decide (x.kind = 8) && decide (64 < x.kids)) || (decide (x.kind = 7) && decide (64 < x.kids))
def leftB (S : List Opn) : Bool := S.any (fun o => decide (0 < o.left))
/-- the nodes of an expression; the open ones, the last one first -/
def chkE : List Opn → Nat → List Ex → Nat × Nat
 | S, i, [] => if leftB S = true then (i, 62) else (0, 0)
 | S, i, x :: xs => match popZ S with
  | [] => (i, 62)
  | o :: S' => if 16 < o.deep then (i, 61) else if manyB x = true then (i, 5) else if rightB x o.kind = false then (i, 62)
   else chkE (⟨x.kind, x.kids, o.deep + 1⟩ :: { o with left := o.left - 1 } :: S') (i + 1) xs
theorem chkE_nil {S : List Opn} {i : Nat} : chkE S i [] = if leftB S = true then (i, 62) else (0, 0) := rfl
theorem chkE_cons {S : List Opn} {i : Nat} {x : Ex} {xs : List Ex} : chkE S i (x :: xs) = match popZ S with
  | [] => (i, 62)
  | o :: S' => if 16 < o.deep then (i, 61) else if manyB x = true then (i, 5) else if rightB x o.kind = false then (i, 62)
   else chkE (⟨x.kind, x.kids, o.deep + 1⟩ :: { o with left := o.left - 1 } :: S') (i + 1) xs := rfl
theorem chkE_z {S : List Opn} {i : Nat} {x : Ex} {xs : List Ex} (h : popZ S = []) : chkE S i (x :: xs) = (i, 62) := by rw [chkE_cons, h]
theorem chkE_o {S S' : List Opn} {o : Opn} {i : Nat} {x : Ex} {xs : List Ex} (h : popZ S = o :: S') : chkE S i (x :: xs) = if 16 < o.deep then (i, 61) else if manyB x = true then (i, 5) else if rightB x o.kind = false then (i, 62)
      else chkE (⟨x.kind, x.kids, o.deep + 1⟩ :: { o with left := o.left - 1 } :: S') (i + 1) xs := by rw [chkE_cons, h]
def OkS : List Opn → Prop
 | [] => True
 | o :: S => o.deep = (S.length : Int) ∧ 0 ≤ o.left ∧ o.left ≤ 64 ∧ OkS S
theorem OkS_cons {o : Opn} {S : List Opn} : OkS (o :: S) ↔ o.deep = (S.length : Int) ∧ 0 ≤ o.left ∧ o.left ≤ 64 ∧ OkS S := Iff.rfl
theorem opsR_cons (o : Opn) (S : List Opn) : opsR (o :: S) = opsR S ++ opV o := by simp [opsR]
theorem opsR_len (S : List Opn) : (opsR S).length = S.length * 3 := by
 induction S with
 | nil => rfl
 | cons o S ih => rw [opsR_cons, List.length_append, ih, List.length_cons]; show _ + 3 = _; omega
theorem opsR_get {o : Opn} {S : List Opn} {k : Nat} (v : Value) (h : (opV o)[k]? = some v) : (opsR (o :: S))[S.length * 3 + k]? = some v := by
 rw [opsR_cons, List.getElem?_append_right (by rw [opsR_len]; omega), opsR_len, Nat.add_sub_cancel_left, h]
theorem opsR_take {o : Opn} {S : List Opn} : (opsR (o :: S)).take (S.length * 3) = opsR S := by
 rw [opsR_cons]; exact List.take_left' (opsR_len S)
theorem opsR_set {o : Opn} {S : List Opn} {z : Int} : (opsR (o :: S)).set (S.length * 3 + 1) (.int .i64 z) = opsR ({ o with left := z } :: S) := by
 rw [opsR_cons, opsR_cons, List.set_append_right _ _ (by rw [opsR_len]; omega), opsR_len, Nat.add_sub_cancel_left]
 rfl
theorem leftB_at (S : List Opn) : ∀ k (hk : k < S.length), leftB (S.reverse.drop k).reverse = (decide (0 < (S.reverse[k]'(by simpa using hk)).left) || leftB (S.reverse.drop (k + 1)).reverse) := by
 intro k hk
 rw [← List.getElem_cons_drop (by simpa using hk), List.reverse_cons]
 simp [leftB, Bool.or_comm]
theorem ops_at {S : List Opn} {k : Nat} (hk : k < S.length) : ((opsR S).drop (k * 3)).take 3 = opV (S.reverse[k]'(by simpa using hk)) := by
 have : ∀ (l : List Opn) (k : Nat) (hk : k < l.length), ((l.flatMap opV).drop (k * 3)).take 3 = opV l[k] := by
  intro l
  induction l with
  | nil => intro k hk; simp at hk
  | cons t ts ih =>
   intro k hk
   have h5 : (opV t).length = 3 := rfl
   cases k with
   | zero => rw [Nat.zero_mul, List.drop_zero, List.flatMap_cons]; exact List.take_left' h5
   | succ k =>
    have h1 : (k + 1) * 3 - (opV t).length = k * 3 := by rw [h5]; omega
    have := ih k (by simpa using hk)
    rw [List.flatMap_cons, List.drop_append, List.drop_eq_nil_of_le (by rw [h5]; omega), List.nil_append, h1]
    exact this
 exact this _ _ _
theorem exs_at (ts : List Ex) : ∀ (k : Nat) (hk : k < ts.length), ((exs ts).drop (k * 7)).take 7 = exV ts[k] := by
 induction ts with
 | nil => intro k hk; simp at hk
 | cons t ts ih =>
  intro k hk
  have h5 : (exV t).length = 7 := rfl
  cases k with
  | zero => rw [Nat.zero_mul, List.drop_zero, exs, List.flatMap_cons]; exact List.take_left' h5
  | succ k =>
   have h1 : (k + 1) * 7 - (exV t).length = k * 7 := by rw [h5]; omega
   have := ih k (by simpa using hk)
   rw [exs, List.flatMap_cons, List.drop_append, List.drop_eq_nil_of_le (by rw [h5]; omega), List.nil_append, h1]
   exact this
theorem Sl.exq {w : World} {v : Value} {ts : List Ex} (h : Sl w 7 v ts.length (exs ts)) {k : Nat} (hk : k < ts.length) : ∃ b o c, v = .slice (some ⟨b, o, none⟩) ts.length c ∧ Cells w b (o + k * 7) (exV ts[k]) := by
 rcases h.val with ⟨hz, h0⟩ | ⟨b, o, c, rfl, hnc, hc⟩
 ·omega
 exact ⟨b, o, c, rfl, by rw [← exs_at ts k hk]; exact hc.sub _ _⟩
def slen : Value → Nat
 | .slice _ n _ => n
 | _ => 0
theorem popZ_z {o : Opn} {S : List Opn} (h : o.left = 0) : popZ (o :: S) = popZ S := by simp [popZ, h]
theorem popZ_n {o : Opn} {S : List Opn} (h : ¬ o.left = 0) : popZ (o :: S) = o :: S := by simp [popZ, h]
theorem rightB_kids {x : Ex} {k : Int} (h : rightB x k = true) (hm : manyB x = false) : 0 ≤ x.kids ∧ x.kids ≤ 64 := by
 simp only [rightB, Bool.and_eq_true] at h
 have h1 := h.1.1.1
 unfold okB at h1
 simp only [manyB, Bool.or_eq_false_iff, Bool.and_eq_false_iff, decide_eq_false_iff_not] at hm
 repeat' split at h1
 all_goals first | (simp only [Bool.and_eq_true, decide_eq_true_eq] at h1; omega) | cases h1

theorem own_form {w : World} {base : Nat} {el : TypeId} {s n : Nat} {v : Value} {xs : List Value} (h : w.ownsRow base el s v n xs) : ∃ a c, v = .slice a n c ∧ n ≤ c := by
 rcases h.2 with ⟨rfl, rfl⟩ | ⟨g, cap, cur, rfl, hb, hc, hnc, r⟩
 ·exact ⟨none, 0, rfl, Nat.le_refl _⟩
 exact ⟨_, cap, rfl, hnc⟩
theorem own_take {w : World} {base : Nat} {el : TypeId} {s n m g cap : Nat} {xs : List Value} (h : w.ownsRow base el s (.slice (some ⟨g, 0, none⟩) n cap) n xs) (hm : m ≤ n) : w.ownsRow base el s (.slice (some ⟨g, 0, none⟩) m cap) m (xs.take (m * s)) := by
 obtain ⟨cap', cur, hv, hb, hc, hnc, hcm, hcs, ht⟩ := own_blk h rfl
 simp only [Value.slice.injEq] at hv
 obtain ⟨-, -, rfl⟩ := hv
 have hms : m * s ≤ n * s := Nat.mul_le_mul_right _ hm
 refine ⟨by rw [List.length_take, h.1]; omega, .inr ⟨g, cap, cur, rfl, hb, hc, by omega, hcm, hcs, ?_⟩⟩
 rw [← ht, List.take_take, Nat.min_eq_left hms]
theorem sliced0 (g h c s : Nat) : sliced (some ⟨g, 0, none⟩) 0 h c s = .slice (some ⟨g, 0, none⟩) h c := by
 unfold sliced
 split <;> simp [Addr.add]


set_option maxHeartbeats 4000000 in
theorem checked_spec (l : List Ex) (v : Value) (w0 : World) (hS : Sl w0 7 v l.length (exs l)) (hl : l.length ≤ 4611686018427387904) (hln : ∀ x ∈ l, x.name.length ≤ 9223372036854775807 ∧ x.label.length ≤ 9223372036854775807) : Ca Tryd.prog 32 #[v] w0 (fun r w' => r = .tuple #[.int .i64 ((chkE [⟨0, 1, 0⟩] 0 l).1 : Int), .int .i64 ((chkE [⟨0, 1, 0⟩] 0 l).2 : Int)] ∧ Ext w0 w') := by
 have hx : Ext w0 w0 := Only.refl _ _
 have hS0 := hS
 refine Ca.of Tryd.func32 Tryd.ntmps32 rfl rfl (We (Wb (Wa rfl (Wg vI (Wa rfl (Wg vI (Wc (We (Wb (Wa rfl (o_bldC (cs := [(.int .i64 0), (.int .i64 1), (.int .i64 0)]) TI125 (Sizes.cons TI3 (Sizes.cons TI3 (Sizes.cons TI3 Sizes.nil))) rfl (lcp vI lnp) rfl rfl (Wa rfl (o_bs1 TI126 TI125 (show _ = Value.agg #[.int .i64 0, .int .i64 1, .int .i64 0] from rfl) (by decide) (by decide) rfl ?_)))))))))))))
 have hown : (w0.alloc (.cells (Value.agg #[.int .i64 0, .int .i64 1, .int .i64 0]).cells 125)).ownsRow w0.heap.size 125 3 (.slice (some ⟨w0.heap.size, 0, none⟩) 1 1) [(⟨0, 1, 0⟩ : Opn)].length (opsR [⟨0, 1, 0⟩]) := own_new1 rfl
 replace hx : Ext w0 (w0.alloc (.cells (Value.agg #[.int .i64 0, .int .i64 1, .int .i64 0]).cells 125)) := Only.alloc w0 _
 replace hS := hS.ext hx
 generalize w0.alloc (.cells (Value.agg #[.int .i64 0, .int .i64 1, .int .i64 0]).cells 125) = w1 at *
 refine Wa rfl (Wg (by first | exact vS | exact rfl) (Wc (We (We (Wb (Wa rfl (Wf (by first | exact vS | exact rfl) (Wa rfl (Ws TI36 rfl hS (Wa rfl (Wf vI (Wc (W.block (W.loop (fun e w => ∃ (i : Nat) (S : List Opn) (sv : Value), i ≤ l.length ∧ e 0 = v ∧ e 4 = sv ∧ e 12 = v ∧ e 13 = .int .i64 (l.length : Int) ∧ e 14 = .int .i64 (i : Int) ∧ w.ownsRow w0.heap.size 125 3 sv S.length (opsR S) ∧ OkS S ∧ S.length ≤ 18 ∧ chkE [⟨0, 1, 0⟩] 0 l = chkE S i (l.drop i) ∧ Ext w0 w) (fun e w => l.length - (intOf (e 14)).toNat) ?_ ?_))))))))))))))
 ·refine ⟨0, [⟨0, 1, 0⟩], _, Nat.zero_le _, rfl, rfl, rfl, rfl, rfl, hown, ⟨rfl, by decide, by decide, trivial⟩, by decide, rfl, hx⟩
 rintro e w ⟨i, S0, sv0, hi, h0, h4, h12, h13, h14, hown, hok, hSl, hres, hx⟩
 have hm14 := h14
 have hSw := hS0.ext hx
 refine We (Wb (Wa rfl (o_lt h14 h13 (Wc (We (Wn rfl (fun c15 => ?_) (fun c15 => ?_)))))))
 ·try simp only [cs8] at c15
  have hil : i < l.length := by omega
  obtain ⟨tb, to_, tc, rfl, htc⟩ := Sl.exq hSw hil
  have hlc : l.drop i = l[i] :: l.drop (i + 1) := (List.getElem_cons_drop hil).symm
  refine Wp (We (W.block (We (Wb (Wa rfl (Wf h14 (Wa rfl (Wt TI36 TI40 h12 h14 (by omega) (Wa rfl (o_ldA TI40 rfl rfl htc rfl ?_))))))))))
  have hx0 := hx
  have hown0 := hown
  refine Wa rfl (o_alB TI40 ?_)
  intro w6 hC6 hx6 hs6
  refine Wa rfl (Wg vI (WL.u (o_stA TI40 rfl (show _ = Value.agg (exV l[i]).toArray from rfl) rfl rfl hC6 rfl ?_)))
  intro w7 hC7 ho7 hs7
  have hxb := Ext.own hx6 (Nat.le_refl _) ho7
  clear hC6 hx6 hs6 ho7 hs7 hSw htc
  replace hown := Wr hown hxb
  replace hx := hx.tr hxb
  obtain ⟨c6, hc6⟩ : ∃ c, c = w.heap.size := ⟨_, rfl⟩
  have hc6l : w0.heap.size ≤ c6 ∧ ¬ sv0.ownBlock = some c6 := by
   subst hc6
   exact ⟨by have := hx0.size; omega, fun hk => by have := (hown0.lt _ hk).2; omega⟩
  rw [← hc6] at hC7 ⊢
  refine Wc (We (W.block (W.loop (fun e w => ∃ (S : List Opn) (sv : Value), e 0 = Value.slice (some ⟨tb, to_, none⟩) l.length tc ∧ e 4 = sv ∧ e 5 = .int .i64 (i : Int) ∧ e 6 = .pointer (some ⟨c6, 0, none⟩) ∧ e 12 = Value.slice (some ⟨tb, to_, none⟩) l.length tc ∧ e 13 = .int .i64 (l.length : Int) ∧ e 14 = .int .i64 (i : Int) ∧ w.ownsRow w0.heap.size 125 3 sv S.length (opsR S) ∧ OkS S ∧ S.length ≤ 18 ∧ popZ S0 = popZ S ∧ (sv.ownBlock = sv0.ownBlock) ∧ w.heap[c6]? = some (.cells (exV l[i]).toArray 40 (0, 0)) ∧ Ext w0 w) (fun e w => slen (e 4)) ?_ ?_)))
  ·exact ⟨S0, sv0, h0, h4, rfl, rfl, h12, h13, h14, hown, hok, hSl, rfl, rfl, hC7, hx⟩
  rintro e w ⟨S, sv, h0, h4, h5, h6, h12, h13, h14, hown, hok, hSl, hpz, hsb, hC7, hx⟩
  have hm4 := h4
  refine We (We ?_)
  rcases S with _ | ⟨o, S⟩
  ·skip
   have h062 := hres.trans (by rw [hlc, chkE_z hpz])
   refine Wb (Wa rfl (Wf h4 (Wa rfl (Ws TI126 rfl (Sl.own hown) (Wa rfl (o_gt rfl rfl (Wa rfl (Wf vB (Wi rfl (decide_eq_false (by simp)) rfl (Wi rfl (decide_eq_false (by simp)) rfl (Wi rfl (decide_eq_false (by simp)) rfl (Wi rfl (decide_eq_false (by simp)) rfl (Wi rfl (decide_eq_false (by simp)) rfl (Wi rfl (decide_eq_false (by simp)) rfl (Wi rfl (decide_eq_false (by simp)) rfl (Wi rfl (decide_eq_false (by simp)) rfl (Wa rfl (Wv rfl (decide_eq_false (by simp)) (Wc (W.condF' rfl (rfl) (W.exit (We (We (Wb (Wa rfl (Wf h4 (Wa rfl (Ws TI126 rfl (Sl.own hown) (Wa rfl (o_eq rfl rfl (Wc (W.condT' rfl (by simp) (We (Wb (Wa rfl (Wf h5 (Wa rfl (Wg vI (Wa rfl (Wg vI (Wc (Wm (ret2v rfl vI vI ?_)))))))))))))))))))))))))))))))))))))))))))
   rw [h062]
   exact ⟨rfl, hx⟩
  skip
  replace hown : w.ownsRow w0.heap.size 125 3 sv (S.length + 1) (opsR (o :: S)) := hown
  obtain ⟨g, cap, rfl, hgb⟩ := own_some hown (by omega)
  have hcap : S.length + 1 ≤ cap := by obtain ⟨_, _, hv, hh⟩ := own_form hown; cases hv; exact hh
  obtain ⟨hdp, hlo, hhi, hok2⟩ := OkS_cons.1 hok
  have hSl2 : S.length + 1 ≤ 18 := hSl
  have hcg : ¬ g = c6 := fun he => hc6l.2 (by rw [← hsb, he]; rfl)
  refine Wb (Wa rfl (Wf h4 (Wa rfl (Ws TI126 rfl (Sl.own hown) (Wa rfl (o_gt rfl rfl (Wa rfl (Wf vB (Wj rfl (decide_eq_true (by omega)) rfl (Wf h4 (Wj rfl (decide_eq_true (by omega)) rfl (Wf h4 (Wj rfl (decide_eq_true (by omega)) rfl (Ws TI126 rfl (Sl.own hown) (Wj rfl (decide_eq_true (by omega)) rfl (o_subi rfl rfl (by omega) (Wj rfl (decide_eq_true (by omega)) rfl (Wt (i := S.length) TI126 TI125 rfl (by show Value.int .i64 _ = _; congr 1; omega) (by omega) (Wj rfl (decide_eq_true (by omega)) rfl (Wl 1 TI125 rfl TI3 rfl rfl (Wj rfl (decide_eq_true (by omega)) rfl (Wk TI3 rfl rfl (own_cell hown (j := 0 + S.length * 3 + 1) (by rw [Nat.zero_add]; exact opsR_get _ rfl)) (Wj rfl (decide_eq_true (by omega)) rfl (o_eq rfl rfl (Wa rfl (Ww rfl rfl (Wc (Wn rfl (fun c31 => ?_) (fun c31 => ?_)))))))))))))))))))))))))))))
  ·try simp only [cs8] at c31
   have hz : o.left = 0 := c31.2
   refine Wp (W.block (Wb (Wa rfl (Wf h4 (Wa rfl (Wf h4 (Wa rfl (Ws TI126 rfl (Sl.own hown) (Wa rfl (o_subi rfl rfl (by omega) (Wa rfl (o_slv (h := S.length) TI126 TI125 rfl Lo.n (Hi.s (by show Value.int .i64 _ = _; congr 1; omega)) (Nat.zero_le _) (by omega) ?_))))))))))))
   rw [sliced0]
   have hown2 := own_take hown (m := S.length) (by omega)
   rw [opsR_take] at hown2
   refine Wa rfl (Wg (by first | exact vS | exact rfl) (Wc (⟨⟨S, _, h0, rfl, h5, h6, h12, h13, h14, hown2, hok.2.2.2, by omega, by rw [hpz, popZ_z hz], hsb, hC7, hx⟩, ?_⟩)))
   rw [hm4]; show S.length < S.length + 1; omega
  try simp only [cs8] at c31
  have hz : ¬ o.left = 0 := fun hz => by rcases c31 with c | c; omega; exact c hz
  have hpz2 := hpz.trans (popZ_n hz)
  have hres2 := hres.trans (by rw [hlc, chkE_o hpz2])
  refine W.exit (We (We (Wb (Wa rfl (Wf h4 (Wa rfl (Ws TI126 rfl (Sl.own hown) (Wa rfl (o_eq rfl rfl (Wc (W.condF' rfl (decide_eq_false (by omega)) (Wp (We (Wb (Wa rfl (Wf h4 (Wa rfl (Wf h4 (Wa rfl (Ws TI126 rfl (Sl.own hown) (Wa rfl (o_subi rfl rfl (by omega) (Wa rfl (Wt (i := S.length) TI126 TI125 rfl (by show Value.int .i64 _ = _; congr 1; omega) (by omega) (Wa rfl (Wg (by first | exact (show _ = Value.pointer _ from rfl) | exact rfl) (Wc (We (W.block (We (Wb (Wa rfl (Wf (by first | exact (show _ = Value.pointer _ from rfl) | exact rfl) (Wa rfl (o_nil rfl (Wa rfl (Wl 2 TI125 rfl TI3 rfl rfl (Wa rfl (Wk TI3 rfl rfl (own_cell hown (j := 0 + S.length * 3 + 2) (by rw [Nat.zero_add]; exact opsR_get _ rfl)) (Wa rfl (o_gt rfl rfl (Wa rfl (Wg vB (Wc (Wn rfl (fun c46 => ?_) (fun c46 => ?_))))))))))))))))))))))))))))))))))))))))))))))
  ·try simp only [cs8] at c46
   have hdeep : 16 < o.deep := by omega
   rw [if_pos hdeep] at hres2
   refine We (Wb (Wa rfl (Wf h5 (Wa rfl (Wg vI (Wa rfl (Wg vI (Wc (Wm (ret2v rfl vI vI ?_))))))))))
   rw [hres2]
   exact ⟨rfl, hx⟩
  try simp only [cs8] at c46
  have hdeep : ¬ 16 < o.deep := by omega
  rw [if_neg hdeep] at hres2
  refine We (We (Wb (Wa rfl (Wl 0 TI40 rfl TI3 rfl h6 (Wa rfl (Wk TI3 rfl rfl (Wh hC7 rfl) (Wa rfl (o_eq rfl rfl (Wa rfl (Wf vB (Wq 3 rfl (fun g57 => ?_) (fun g57 => ?_))))))))))))
  ·skip
   refine Wj rfl (g57) rfl (Wl 5 TI40 rfl TI3 rfl h6 (Wj rfl (g57) rfl (Wk TI3 rfl rfl (Wh hC7 rfl) (Wj rfl (g57) rfl (o_gt rfl rfl (Wa rfl (Ww rfl rfl (Wa rfl (Wg vB (Wc (W.cut (fun e1 w1 => e1 0 = Value.slice (some ⟨tb, to_, none⟩) l.length tc ∧ e1 4 = Value.slice (some ⟨g, 0, none⟩) (S.length + 1) cap ∧ e1 5 = .int .i64 (i : Int) ∧ e1 6 = .pointer (some ⟨c6, 0, none⟩) ∧ e1 7 = .pointer (some ⟨g, 0 + S.length * 3, none⟩) ∧ e1 12 = Value.slice (some ⟨tb, to_, none⟩) l.length tc ∧ e1 13 = .int .i64 (l.length : Int) ∧ e1 14 = .int .i64 (i : Int) ∧ e1 53 = .bool (manyB l[i]) ∧ w1 = w) ?_ ?_)))))))))))
   ·-- both ways
    refine Wn rfl (fun c53 => ?_) (fun c53 => ?_)
    ·try simp only [cs8] at c53
     refine Wp ?_
     exact ⟨h0, h4, h5, h6, rfl, h12, h13, h14, congrArg Value.bool (by rw [Bool.eq_iff_iff]; (try simp only [decide_eq_true_eq, decide_eq_false_iff_not] at g57); (try simp only [decide_eq_true_eq, decide_eq_false_iff_not] at g65); (try (cases c53; done)); all_goals simp only [manyB, Bool.or_eq_true, Bool.and_eq_true, decide_eq_true_eq, Bool.false_eq_true, false_iff]; all_goals omega), rfl⟩
    try simp only [cs8] at c53
    refine Wb (Wa rfl (Wl 0 TI40 rfl TI3 rfl h6 (Wa rfl (Wk TI3 rfl rfl (Wh hC7 rfl) (Wa rfl (o_eq rfl rfl (Wa rfl (Wf vB (Wq 3 rfl (fun g65 => ?_) (fun g65 => ?_))))))))))
    ·skip
     refine Wj rfl (g65) rfl (Wl 5 TI40 rfl TI3 rfl h6 (Wj rfl (g65) rfl (Wk TI3 rfl rfl (Wh hC7 rfl) (Wj rfl (g65) rfl (o_gt rfl rfl (Wa rfl (Ww rfl rfl (Wa rfl (Wg vB (Wc ?_))))))))))
     exact ⟨h0, h4, h5, h6, rfl, h12, h13, h14, congrArg Value.bool (by rw [Bool.eq_iff_iff]; (try simp only [decide_eq_true_eq, decide_eq_false_iff_not] at g57); (try simp only [decide_eq_true_eq, decide_eq_false_iff_not] at g65); (try (cases c53; done)); all_goals simp only [manyB, Bool.or_eq_true, Bool.and_eq_true, decide_eq_true_eq, Bool.false_eq_true, false_iff]; all_goals omega), rfl⟩
    skip
    refine Wi rfl (g65) rfl (Wi rfl (g65) rfl (Wi rfl (g65) rfl (Wa rfl (Wv rfl (g65) (Wa rfl (Wg vB (Wc ?_)))))))
    exact ⟨h0, h4, h5, h6, rfl, h12, h13, h14, congrArg Value.bool (by rw [Bool.eq_iff_iff]; (try simp only [decide_eq_true_eq, decide_eq_false_iff_not] at g57); (try simp only [decide_eq_true_eq, decide_eq_false_iff_not] at g65); (try (cases c53; done)); all_goals simp only [manyB, Bool.or_eq_true, Bool.and_eq_true, decide_eq_true_eq, Bool.false_eq_true, false_iff]; all_goals omega), rfl⟩
   rintro e w ⟨h0, h4, h5, h6, h7, h12, h13, h14, h53, rfl⟩
   refine Wn h53 (fun c53 => ?_) (fun c53 => ?_)
   ·try simp only [cs8] at c53
    refine We ?_
    have hmany : manyB l[i] = true := by simpa using c53
    rw [if_pos hmany] at hres2
    refine Wb (Wa rfl (Wf h5 (Wa rfl (Wg vI (Wa rfl (Wg vI (Wc (Wm (ret2v rfl vI vI ?_)))))))))
    rw [hres2]
    exact ⟨rfl, hx⟩
   try simp only [cs8] at c53
   refine We ?_
   have hmany : manyB l[i] = false := by simpa using c53
   rw [if_neg (by simp [hmany])] at hres2
   refine W.tail 5 rfl (by kernel_rfl) (WS.c rfl ((SO.o rfl (o_ldA TI40 rfl h6 (show Cells w c6 0 (exV l[i]) from Cells.of hC7 0 _ (by simp)) rfl ⟨rfl, rfl⟩))) (WS.c rfl ((SO.o rfl (Wf h7 ⟨rfl, rfl⟩))) (WS.c rfl ((SO.r (r_nil rfl))) (WS.c rfl ((SO.o rfl (Wl 0 TI125 rfl TI3 rfl rfl ⟨rfl, rfl⟩))) (WS.c rfl ((SO.o rfl (Wk TI3 rfl rfl (own_cell hown (j := 0 + S.length * 3 + 0) (by rw [Nat.zero_add]; exact opsR_get _ rfl)) ⟨rfl, rfl⟩))) (WS.nil ?_))))))
   have hxd := Only.drew w
   replace hx := hx.tr hxd
   replace hown := Wr hown hxd
   replace hC7 := hxd.blk hC7 (fun h => h)
   clear hxd
   generalize w.drew = wd at *
   refine Wa rfl (o_call Tryd.call58 (lc rfl (lc rfl ln)) ((right_spec l[i] o.kind _ (hln _ (List.getElem_mem hil)).1 (hln _ (List.getElem_mem hil)).2).mono ?_))
   rintro v77 w77 ⟨rfl, hx77⟩
   replace hx := hx.tr hx77
   replace hown := Wr hown hx77
   replace hC7 := hx77.blk hC7 (fun h => h)
   refine Wa rfl (o_not' rfl (Wa rfl (Wg vB (Wc (Wn rfl (fun c71 => ?_) (fun c71 => ?_))))))
   ·try simp only [cs8] at c71
    have hright : rightB l[i] o.kind = false := by simpa using c71
    rw [if_pos hright] at hres2
    refine We (Wb (Wa rfl (Wf h5 (Wa rfl (Wg vI (Wa rfl (Wg vI (Wc (Wm (ret2v rfl vI vI ?_))))))))))
    rw [hres2]
    exact ⟨rfl, hx⟩
   try simp only [cs8] at c71
   have hright : rightB l[i] o.kind = true := by simpa using c71
   rw [if_neg (by simp [hright])] at hres2
   have hkd := rightB_kids hright hmany
   refine Wp (We (Wb (Wa rfl (Wf h7 (Wa rfl (o_nil rfl (Wa rfl (Wl 1 TI125 rfl TI3 rfl rfl (Wa rfl (Wk TI3 rfl rfl (own_cell hown (j := 0 + S.length * 3 + 1) (by rw [Nat.zero_add]; exact opsR_get _ rfl)) (Wa rfl (o_subi rfl rfl (by omega) (Wa rfl (o_nil rfl (Wa rfl (Wl 1 TI125 rfl TI3 rfl rfl (WL.u (o_stRj (i := S.length * 3 + 1) TI3 rfl (by omega) (show _ = Value.int .i64 (o.left - 1) from rfl) rfl hown rfl (by omega) ?_))))))))))))))))))
   intro wA hown' hoA hsA
   replace hown : wA.ownsRow w0.heap.size 125 3 (Value.slice (some ⟨g, 0, none⟩) (S.length + 1) cap) (S.length + 1) (opsR ({ o with left := o.left - 1 } :: S)) := by rw [← opsR_set]; exact hown'
   clear hown'
   replace hC7 := hoA.blk hC7 (fun hk => hcg (by simpa [Value.ownBlock] using hk))
   have hgl := (hown.lt g rfl).1
   replace hx := hx.trans' hoA (fun _ h => h) (fun k hk he => by have := ob he; omega)
   refine Wc ?_
   obtain ⟨wd2, hwd⟩ : ∃ wd2, wd2 = wA.drew := ⟨_, rfl⟩
   have hxd : Ext wA wd2 := hwd ▸ Only.drew wA
   replace hx := hx.tr hxd
   replace hown := Wr hown hxd
   replace hC7 := hxd.blk hC7 (fun h => h)
   refine W.drawT 12 (Ext) [(4, fun v _ => v = _), (6, fun v _ => v = _), (7, fun v _ => v = _), (0, fun v _ => v = _), (5, fun v _ => v = _), (12, fun v _ => v = _), (13, fun v _ => v = _), (14, fun v _ => v = _)] rfl (by kernel_rfl) (Only.refl No) (fun _ _ _ h k => h.trans k) ⟨Mono.eq, Mono.eq, Mono.eq, Mono.eq, Mono.eq, Mono.eq, Mono.eq, Mono.eq, trivial⟩ ⟨h4, h6, h7, h0, h5, h12, h13, h14, trivial⟩ (WD.p rfl (fun e w hR hh => by obtain ⟨h4, -⟩ := hh; exact SG.n (Wf h4 ⟨rfl, Only.refl No _⟩)) (WD.p rfl (fun e w hR hh => by obtain ⟨h6, -⟩ := hh; exact SG.n (Wl 0 TI40 rfl TI3 rfl h6 ⟨rfl, Only.refl No _⟩)) (WD.p rfl (fun e w hR hh => by obtain ⟨h88, -⟩ := hh; rw [← hwd] at hR; exact SG.n (Wk TI3 rfl h88 (Wh (hR.blk hC7 (fun h => h)) rfl) ⟨rfl, Only.refl No _⟩)) (WD.p rfl (fun e w hR hh => by obtain ⟨h6, -⟩ := hh; exact SG.n (Wl 5 TI40 rfl TI3 rfl h6 ⟨rfl, Only.refl No _⟩)) (WD.p rfl (fun e w hR hh => by obtain ⟨h90, -⟩ := hh; rw [← hwd] at hR; exact SG.n (Wk TI3 rfl h90 (Wh (hR.blk hC7 (fun h => h)) rfl) ⟨rfl, Only.refl No _⟩)) (WD.p rfl (fun e w hR hh => by obtain ⟨h7, -⟩ := hh; exact SG.n (Wf h7 ⟨rfl, Only.refl No _⟩)) (WD.p rfl (fun e w hR hh => by obtain ⟨h92, -⟩ := hh; exact SG.n (o_nil h92 ⟨rfl, Only.refl No _⟩)) (WD.p rfl (fun e w hR hh => by obtain ⟨h93, -⟩ := hh; exact SG.n (Wl 2 TI125 rfl TI3 rfl h93 ⟨rfl, Only.refl No _⟩)) (WD.p rfl (fun e w hR hh => by obtain ⟨h94, -⟩ := hh; rw [← hwd] at hR; exact SG.n (Wk TI3 rfl h94 (show w.cell? ⟨g, 0 + S.length * 3 + 2, none⟩ = some (.int .i64 o.deep) from own_cell (Wr hown hR) (by rw [Nat.zero_add]; exact opsR_get _ rfl)) ⟨rfl, Only.refl No _⟩)) (WD.p rfl (fun e w hR hh => by obtain ⟨h95, -⟩ := hh; exact SG.n (o_addi h95 rfl (by omega) ⟨rfl, Only.refl No _⟩)) (WD.p rfl (fun e w hR hh => by obtain ⟨h96, h91, h89, -⟩ := hh; exact SG.n (o_bldC (cs := [_, _, _]) TI125 (Sizes.cons TI3 (Sizes.cons TI3 (Sizes.cons TI3 Sizes.nil))) rfl (lcp h89 (lcp h91 (lcp h96 lnp))) rfl rfl ⟨rfl, Only.refl No _⟩)) (WD.q (fun u w => w.ownsRow wd2.heap.size 125 3 u 1 (opV ⟨l[i].kind, l[i].kids, o.deep + 1⟩)) (fun u w w2 hR hh => Wr hh hR) rfl (fun e w hR hh => by obtain ⟨h97, -⟩ := hh; rw [← hwd] at hR; exact SG.n (o_bs1 TI126 TI125 h97 (by decide) (by decide) rfl ⟨own_mono (own_new1 rfl) hR.size, Only.alloc w _⟩)) ?_))))))))))))
   rintro e w hR ⟨h98, h97, h96, h95, h94, h93, h92, h91, h90, h89, h88, h87, h4, h6, h7, h0, h5, h12, h13, h14, -⟩
   rw [← hwd] at hR
   replace hx := hx.tr hR
   replace hown := Wr hown hR
   replace hC7 := hR.blk hC7 (fun h => h)
   refine Wa rfl (o_apO (w0.heap.size) TI126 TI125 h87 rfl hown (Sl.own h98) rfl (by decide) (by simp [opV, Value.oneCell']) (by rw [maxLen_eq]; omega) (by omega) hx.size ?_)
   intro v99 w99 hown99 ho99 hb99 hk99
   have hrow : w99.ownsRow w0.heap.size 125 3 v99 (⟨l[i].kind, l[i].kids, o.deep + 1⟩ :: { o with left := o.left - 1 } :: S).length (opsR (⟨l[i].kind, l[i].kids, o.deep + 1⟩ :: { o with left := o.left - 1 } :: S)) := by rw [opsR_cons ⟨l[i].kind, l[i].kids, o.deep + 1⟩]; exact hown99
   replace hx := hx.trans' ho99 (fun _ h => h) (fun k hk he => by have := ob he; omega)
   have hok3 : OkS ({ o with left := o.left - 1 } :: S) := ⟨hdp, by show 0 ≤ o.left - 1; omega, by show o.left - 1 ≤ 64; omega, hok2⟩
   refine Wa rfl (Wg (by first | exact vS | exact rfl) (Wc (Wb (Wa rfl (o_addi h14 rfl (by omega) (Wa rfl (Wf vI (Wc (⟨⟨i + 1, _, _, by omega, h0, rfl, h12, h13, rfl, hrow, ⟨by simp only [List.length_cons]; omega, hkd.1, hkd.2, hok3⟩, by simp only [List.length_cons] at hdp ⊢; omega, ?_, hx⟩, ?_⟩)))))))))
   ·rw [hres, hlc, chkE_o hpz2, if_neg hdeep, if_neg (by simp [hmany]), if_neg (by simp [hright])]
   show l.length - ((i : Int) + 1).toNat < _
   rw [hm14]; simp [intOf]; omega
  skip
  refine Wi rfl (g57) rfl (Wi rfl (g57) rfl (Wi rfl (g57) rfl (Wa rfl (Wv rfl (g57) (Wa rfl (Wg vB (Wc (W.cut (fun e1 w1 => e1 0 = Value.slice (some ⟨tb, to_, none⟩) l.length tc ∧ e1 4 = Value.slice (some ⟨g, 0, none⟩) (S.length + 1) cap ∧ e1 5 = .int .i64 (i : Int) ∧ e1 6 = .pointer (some ⟨c6, 0, none⟩) ∧ e1 7 = .pointer (some ⟨g, 0 + S.length * 3, none⟩) ∧ e1 12 = Value.slice (some ⟨tb, to_, none⟩) l.length tc ∧ e1 13 = .int .i64 (l.length : Int) ∧ e1 14 = .int .i64 (i : Int) ∧ e1 53 = .bool (manyB l[i]) ∧ w1 = w) ?_ ?_))))))))
  ·-- both ways
   refine Wn rfl (fun c53 => ?_) (fun c53 => ?_)
   ·try simp only [cs8] at c53
    refine Wp ?_
    exact ⟨h0, h4, h5, h6, rfl, h12, h13, h14, congrArg Value.bool (by rw [Bool.eq_iff_iff]; (try simp only [decide_eq_true_eq, decide_eq_false_iff_not] at g57); (try simp only [decide_eq_true_eq, decide_eq_false_iff_not] at g65); (try (cases c53; done)); all_goals simp only [manyB, Bool.or_eq_true, Bool.and_eq_true, decide_eq_true_eq, Bool.false_eq_true, false_iff]; all_goals omega), rfl⟩
   try simp only [cs8] at c53
   refine Wb (Wa rfl (Wl 0 TI40 rfl TI3 rfl h6 (Wa rfl (Wk TI3 rfl rfl (Wh hC7 rfl) (Wa rfl (o_eq rfl rfl (Wa rfl (Wf vB (Wq 3 rfl (fun g65 => ?_) (fun g65 => ?_))))))))))
   ·skip
    refine Wj rfl (g65) rfl (Wl 5 TI40 rfl TI3 rfl h6 (Wj rfl (g65) rfl (Wk TI3 rfl rfl (Wh hC7 rfl) (Wj rfl (g65) rfl (o_gt rfl rfl (Wa rfl (Ww rfl rfl (Wa rfl (Wg vB (Wc ?_))))))))))
    exact ⟨h0, h4, h5, h6, rfl, h12, h13, h14, congrArg Value.bool (by rw [Bool.eq_iff_iff]; (try simp only [decide_eq_true_eq, decide_eq_false_iff_not] at g57); (try simp only [decide_eq_true_eq, decide_eq_false_iff_not] at g65); (try (cases c53; done)); all_goals simp only [manyB, Bool.or_eq_true, Bool.and_eq_true, decide_eq_true_eq, Bool.false_eq_true, false_iff]; all_goals omega), rfl⟩
   skip
   refine Wi rfl (g65) rfl (Wi rfl (g65) rfl (Wi rfl (g65) rfl (Wa rfl (Wv rfl (g65) (Wa rfl (Wg vB (Wc ?_)))))))
   exact ⟨h0, h4, h5, h6, rfl, h12, h13, h14, congrArg Value.bool (by rw [Bool.eq_iff_iff]; (try simp only [decide_eq_true_eq, decide_eq_false_iff_not] at g57); (try simp only [decide_eq_true_eq, decide_eq_false_iff_not] at g65); (try (cases c53; done)); all_goals simp only [manyB, Bool.or_eq_true, Bool.and_eq_true, decide_eq_true_eq, Bool.false_eq_true, false_iff]; all_goals omega), rfl⟩
  rintro e w ⟨h0, h4, h5, h6, h7, h12, h13, h14, h53, rfl⟩
  refine Wn h53 (fun c53 => ?_) (fun c53 => ?_)
  ·try simp only [cs8] at c53
   refine We ?_
   have hmany : manyB l[i] = true := by simpa using c53
   rw [if_pos hmany] at hres2
   refine Wb (Wa rfl (Wf h5 (Wa rfl (Wg vI (Wa rfl (Wg vI (Wc (Wm (ret2v rfl vI vI ?_)))))))))
   rw [hres2]
   exact ⟨rfl, hx⟩
  try simp only [cs8] at c53
  refine We ?_
  have hmany : manyB l[i] = false := by simpa using c53
  rw [if_neg (by simp [hmany])] at hres2
  refine W.tail 5 rfl (by kernel_rfl) (WS.c rfl ((SO.o rfl (o_ldA TI40 rfl h6 (show Cells w c6 0 (exV l[i]) from Cells.of hC7 0 _ (by simp)) rfl ⟨rfl, rfl⟩))) (WS.c rfl ((SO.o rfl (Wf h7 ⟨rfl, rfl⟩))) (WS.c rfl ((SO.r (r_nil rfl))) (WS.c rfl ((SO.o rfl (Wl 0 TI125 rfl TI3 rfl rfl ⟨rfl, rfl⟩))) (WS.c rfl ((SO.o rfl (Wk TI3 rfl rfl (own_cell hown (j := 0 + S.length * 3 + 0) (by rw [Nat.zero_add]; exact opsR_get _ rfl)) ⟨rfl, rfl⟩))) (WS.nil ?_))))))
  have hxd := Only.drew w
  replace hx := hx.tr hxd
  replace hown := Wr hown hxd
  replace hC7 := hxd.blk hC7 (fun h => h)
  clear hxd
  generalize w.drew = wd at *
  refine Wa rfl (o_call Tryd.call58 (lc rfl (lc rfl ln)) ((right_spec l[i] o.kind _ (hln _ (List.getElem_mem hil)).1 (hln _ (List.getElem_mem hil)).2).mono ?_))
  rintro v77 w77 ⟨rfl, hx77⟩
  replace hx := hx.tr hx77
  replace hown := Wr hown hx77
  replace hC7 := hx77.blk hC7 (fun h => h)
  refine Wa rfl (o_not' rfl (Wa rfl (Wg vB (Wc (Wn rfl (fun c71 => ?_) (fun c71 => ?_))))))
  ·try simp only [cs8] at c71
   have hright : rightB l[i] o.kind = false := by simpa using c71
   rw [if_pos hright] at hres2
   refine We (Wb (Wa rfl (Wf h5 (Wa rfl (Wg vI (Wa rfl (Wg vI (Wc (Wm (ret2v rfl vI vI ?_))))))))))
   rw [hres2]
   exact ⟨rfl, hx⟩
  try simp only [cs8] at c71
  have hright : rightB l[i] o.kind = true := by simpa using c71
  rw [if_neg (by simp [hright])] at hres2
  have hkd := rightB_kids hright hmany
  refine Wp (We (Wb (Wa rfl (Wf h7 (Wa rfl (o_nil rfl (Wa rfl (Wl 1 TI125 rfl TI3 rfl rfl (Wa rfl (Wk TI3 rfl rfl (own_cell hown (j := 0 + S.length * 3 + 1) (by rw [Nat.zero_add]; exact opsR_get _ rfl)) (Wa rfl (o_subi rfl rfl (by omega) (Wa rfl (o_nil rfl (Wa rfl (Wl 1 TI125 rfl TI3 rfl rfl (WL.u (o_stRj (i := S.length * 3 + 1) TI3 rfl (by omega) (show _ = Value.int .i64 (o.left - 1) from rfl) rfl hown rfl (by omega) ?_))))))))))))))))))
  intro wA hown' hoA hsA
  replace hown : wA.ownsRow w0.heap.size 125 3 (Value.slice (some ⟨g, 0, none⟩) (S.length + 1) cap) (S.length + 1) (opsR ({ o with left := o.left - 1 } :: S)) := by rw [← opsR_set]; exact hown'
  clear hown'
  replace hC7 := hoA.blk hC7 (fun hk => hcg (by simpa [Value.ownBlock] using hk))
  have hgl := (hown.lt g rfl).1
  replace hx := hx.trans' hoA (fun _ h => h) (fun k hk he => by have := ob he; omega)
  refine Wc ?_
  obtain ⟨wd2, hwd⟩ : ∃ wd2, wd2 = wA.drew := ⟨_, rfl⟩
  have hxd : Ext wA wd2 := hwd ▸ Only.drew wA
  replace hx := hx.tr hxd
  replace hown := Wr hown hxd
  replace hC7 := hxd.blk hC7 (fun h => h)
  refine W.drawT 12 (Ext) [(4, fun v _ => v = _), (6, fun v _ => v = _), (7, fun v _ => v = _), (0, fun v _ => v = _), (5, fun v _ => v = _), (12, fun v _ => v = _), (13, fun v _ => v = _), (14, fun v _ => v = _)] rfl (by kernel_rfl) (Only.refl No) (fun _ _ _ h k => h.trans k) ⟨Mono.eq, Mono.eq, Mono.eq, Mono.eq, Mono.eq, Mono.eq, Mono.eq, Mono.eq, trivial⟩ ⟨h4, h6, h7, h0, h5, h12, h13, h14, trivial⟩ (WD.p rfl (fun e w hR hh => by obtain ⟨h4, -⟩ := hh; exact SG.n (Wf h4 ⟨rfl, Only.refl No _⟩)) (WD.p rfl (fun e w hR hh => by obtain ⟨h6, -⟩ := hh; exact SG.n (Wl 0 TI40 rfl TI3 rfl h6 ⟨rfl, Only.refl No _⟩)) (WD.p rfl (fun e w hR hh => by obtain ⟨h88, -⟩ := hh; rw [← hwd] at hR; exact SG.n (Wk TI3 rfl h88 (Wh (hR.blk hC7 (fun h => h)) rfl) ⟨rfl, Only.refl No _⟩)) (WD.p rfl (fun e w hR hh => by obtain ⟨h6, -⟩ := hh; exact SG.n (Wl 5 TI40 rfl TI3 rfl h6 ⟨rfl, Only.refl No _⟩)) (WD.p rfl (fun e w hR hh => by obtain ⟨h90, -⟩ := hh; rw [← hwd] at hR; exact SG.n (Wk TI3 rfl h90 (Wh (hR.blk hC7 (fun h => h)) rfl) ⟨rfl, Only.refl No _⟩)) (WD.p rfl (fun e w hR hh => by obtain ⟨h7, -⟩ := hh; exact SG.n (Wf h7 ⟨rfl, Only.refl No _⟩)) (WD.p rfl (fun e w hR hh => by obtain ⟨h92, -⟩ := hh; exact SG.n (o_nil h92 ⟨rfl, Only.refl No _⟩)) (WD.p rfl (fun e w hR hh => by obtain ⟨h93, -⟩ := hh; exact SG.n (Wl 2 TI125 rfl TI3 rfl h93 ⟨rfl, Only.refl No _⟩)) (WD.p rfl (fun e w hR hh => by obtain ⟨h94, -⟩ := hh; rw [← hwd] at hR; exact SG.n (Wk TI3 rfl h94 (show w.cell? ⟨g, 0 + S.length * 3 + 2, none⟩ = some (.int .i64 o.deep) from own_cell (Wr hown hR) (by rw [Nat.zero_add]; exact opsR_get _ rfl)) ⟨rfl, Only.refl No _⟩)) (WD.p rfl (fun e w hR hh => by obtain ⟨h95, -⟩ := hh; exact SG.n (o_addi h95 rfl (by omega) ⟨rfl, Only.refl No _⟩)) (WD.p rfl (fun e w hR hh => by obtain ⟨h96, h91, h89, -⟩ := hh; exact SG.n (o_bldC (cs := [_, _, _]) TI125 (Sizes.cons TI3 (Sizes.cons TI3 (Sizes.cons TI3 Sizes.nil))) rfl (lcp h89 (lcp h91 (lcp h96 lnp))) rfl rfl ⟨rfl, Only.refl No _⟩)) (WD.q (fun u w => w.ownsRow wd2.heap.size 125 3 u 1 (opV ⟨l[i].kind, l[i].kids, o.deep + 1⟩)) (fun u w w2 hR hh => Wr hh hR) rfl (fun e w hR hh => by obtain ⟨h97, -⟩ := hh; rw [← hwd] at hR; exact SG.n (o_bs1 TI126 TI125 h97 (by decide) (by decide) rfl ⟨own_mono (own_new1 rfl) hR.size, Only.alloc w _⟩)) ?_))))))))))))
  rintro e w hR ⟨h98, h97, h96, h95, h94, h93, h92, h91, h90, h89, h88, h87, h4, h6, h7, h0, h5, h12, h13, h14, -⟩
  rw [← hwd] at hR
  replace hx := hx.tr hR
  replace hown := Wr hown hR
  replace hC7 := hR.blk hC7 (fun h => h)
  refine Wa rfl (o_apO (w0.heap.size) TI126 TI125 h87 rfl hown (Sl.own h98) rfl (by decide) (by simp [opV, Value.oneCell']) (by rw [maxLen_eq]; omega) (by omega) hx.size ?_)
  intro v99 w99 hown99 ho99 hb99 hk99
  have hrow : w99.ownsRow w0.heap.size 125 3 v99 (⟨l[i].kind, l[i].kids, o.deep + 1⟩ :: { o with left := o.left - 1 } :: S).length (opsR (⟨l[i].kind, l[i].kids, o.deep + 1⟩ :: { o with left := o.left - 1 } :: S)) := by rw [opsR_cons ⟨l[i].kind, l[i].kids, o.deep + 1⟩]; exact hown99
  replace hx := hx.trans' ho99 (fun _ h => h) (fun k hk he => by have := ob he; omega)
  have hok3 : OkS ({ o with left := o.left - 1 } :: S) := ⟨hdp, by show 0 ≤ o.left - 1; omega, by show o.left - 1 ≤ 64; omega, hok2⟩
  refine Wa rfl (Wg (by first | exact vS | exact rfl) (Wc (Wb (Wa rfl (o_addi h14 rfl (by omega) (Wa rfl (Wf vI (Wc (⟨⟨i + 1, _, _, by omega, h0, rfl, h12, h13, rfl, hrow, ⟨by simp only [List.length_cons]; omega, hkd.1, hkd.2, hok3⟩, by simp only [List.length_cons] at hdp ⊢; omega, ?_, hx⟩, ?_⟩)))))))))
  ·rw [hres, hlc, chkE_o hpz2, if_neg hdeep, if_neg (by simp [hmany]), if_neg (by simp [hright])]
  show l.length - ((i : Int) + 1).toNat < _
  rw [hm14]; simp [intOf]; omega
 try simp only [cs8] at c15
 have hil : i = l.length := by omega
 rw [hil, List.drop_length, chkE_nil] at hres
 refine W.exit (We (We (Wb (Wa rfl (Wf h4 (Wa rfl (Ws TI126 rfl (Sl.own hown) (Wa rfl (Wf vI (Wc (W.block (W.loop (fun e w => ∃ k : Nat, k ≤ S0.length ∧ e 0 = v ∧ e 101 = sv0 ∧ e 102 = .int .i64 (S0.length : Int) ∧ e 103 = .int .i64 (k : Int) ∧ leftB S0 = leftB (S0.reverse.drop k).reverse ∧ w.ownsRow w0.heap.size 125 3 sv0 S0.length (opsR S0) ∧ Ext w0 w) (fun e w => S0.length - (intOf (e 103)).toNat) ?_ ?_))))))))))))
 ·exact ⟨0, Nat.zero_le _, h0, rfl, rfl, rfl, by rw [List.drop_zero, List.reverse_reverse], hown, hx⟩
 rintro e w ⟨k, hk, h0, h101, h102, h103, hlb, hown, hx⟩
 have hm103 := h103
 refine We (Wb (Wa rfl (o_lt h103 h102 (Wc (We (Wn rfl (fun c104 => ?_) (fun c104 => ?_)))))))
 ·try simp only [cs8] at c104
  have hk1 : k < S0.length := by omega
  obtain ⟨g, cap, rfl, hgb⟩ := own_some hown (by omega)
  have hcc := own_cellsAt hown k
  rw [ops_at hk1] at hcc
  refine Wp (We (W.block (We (Wb (Wa rfl (Wt TI126 TI125 h101 h103 (by omega) (Wa rfl (o_ldA TI125 rfl rfl hcc rfl (Wa rfl (o_alB TI125 ?_))))))))))
  intro w9 hC9 hx9 hs9
  refine WL.u (o_stA TI125 rfl (show _ = Value.agg (opV (S0.reverse[k]'(by simpa using hk1))).toArray from rfl) rfl rfl hC9 rfl ?_)
  intro wb hCb hob hsb
  have hxb := Ext.own hx9 (Nat.le_refl _) hob
  clear hC9 hx9 hs9 hob hsb hcc
  replace hown := Wr hown hxb
  replace hx := hx.tr hxb
  refine Wc (We (Wb (Wa rfl (Wl 1 TI125 rfl TI3 rfl rfl (Wa rfl (Wk TI3 rfl rfl (Wh hCb rfl) (Wa rfl (o_gt rfl rfl (Wc (Wn rfl (fun c109 => ?_) (fun c109 => ?_)))))))))))
  ·try simp only [cs8] at c109
   have hnl : 0 < (S0.reverse[k]'(by simpa using hk1)).left := by omega
   rw [hlb, leftB_at _ _ hk1, decide_eq_true hnl, Bool.true_or, if_pos rfl] at hres
   refine We (Wb (Wa rfl (Wf h0 (Wa rfl (Ws TI36 rfl (hS0.ext hx) (Wa rfl (Wg vI (Wa rfl (Wg vI (Wc (Wm (ret2v rfl vI vI ?_))))))))))))
   rw [hres]
   exact ⟨rfl, hx⟩
  try simp only [cs8] at c109
  have hnl : ¬ 0 < (S0.reverse[k]'(by simpa using hk1)).left := by omega
  refine Wp (Wb (Wa rfl (o_addi h103 rfl (by omega) (Wa rfl (Wf vI (Wc (⟨⟨k + 1, by omega, h0, h101, h102, rfl, ?_, hown, hx⟩, ?_⟩)))))))
  ·rw [hlb, leftB_at _ _ hk1, decide_eq_false hnl, Bool.false_or]
  show S0.length - ((k : Int) + 1).toNat < _
  rw [hm103]; simp [intOf]; omega
 try simp only [cs8] at c104
 have hk1 : k = S0.length := by omega
 rw [hk1, show (S0.reverse.drop S0.length).reverse = [] by simp] at hlb
 rw [hlb, if_neg (by simp [leftB])] at hres
 refine W.exit (We (Wb (Wa rfl (Wg vI (Wa rfl (Wg vI (Wc (Wm (ret2v rfl vI vI ?_)))))))))
 rw [hres]
 exact ⟨rfl, hx⟩
end Go.Proofs.YtpbflfgigfdohaaDoor

namespace Go.Proofs.YtpbflfgigfdohaaDoor
open Go Go.Vc Go.RowKit Go.Proofs

theorem fm_at {α : Type} {f : α → List Value} {s : Nat} (hs : ∀ a, (f a).length = s) (ts : List α) : ∀ (k : Nat) (hk : k < ts.length), ((ts.flatMap f).drop (k * s)).take s = f ts[k] := by
 induction ts with
 | nil => intro k hk; simp at hk
 | cons t ts ih =>
  intro k hk
  cases k with
  | zero => rw [Nat.zero_mul, List.drop_zero, List.flatMap_cons]; exact List.take_left' (hs t)
  | succ k =>
   have h1 : (k + 1) * s - (f t).length = k * s := by rw [hs, Nat.succ_mul]; omega
   have h2 : (f t).length ≤ (k + 1) * s := by rw [hs, Nat.succ_mul]; omega
   have := ih k (by simpa using hk)
   rw [List.flatMap_cons, List.drop_append, List.drop_eq_nil_of_le h2, List.nil_append, h1]
   exact this
theorem drows_at (D : List Df) (V : Nat → Value) {k : Nat} (hk : k < D.length) : ((drows D V).drop (k * 3)).take 3 = dcell (D.getD k df0) (V k) := by
 have h := fm_at (f := fun j => dcell (D.getD j df0) (V j)) (s := 3) (fun _ => rfl) (List.range D.length) k (by simpa using hk)
 rw [drows, h, List.getElem_range]
/-- definitions that are read -/
structure DefR (w : World) (D : List Df) (dv : Value) (V : Nat → Value) : Prop where
 row : Sl w 3 dv D.length (drows D V)
 tys : ∀ j, j < D.length → Sl w 7 (V j) (tyD D j).length (exs (tyD D j))
theorem DefR.only {w w' : World} {D : List Df} {dv : Value} {V : Nat → Value} {F : Nat → Prop} (h : DefR w D dv V) (ho : Only F w w') (hn : ∀ k, DF dv V D.length k → ¬ F k) : DefR w' D dv V :=
 ⟨h.row.only ho (fun k hk => hn k (.inl hk)), fun j hj => (h.tys j hj).only ho (fun k hk => hn k (.inr ⟨j, hj, hk⟩))⟩
theorem DefR.ext {w w' : World} {D : List Df} {dv : Value} {V : Nat → Value} (h : DefR w D dv V) (ho : Ext w w') : DefR w' D dv V := h.only ho (fun _ _ h => h)
theorem Defs.rd {w : World} {H : Nat} {D : List Df} {dv : Value} {V : Nat → Value} (h : Defs w H D dv V) : DefR w D dv V := ⟨Sl.own h.row, fun j hj => Sl.own (h.tys.row j hj)⟩
theorem DefR.at {w : World} {D : List Df} {dv : Value} {V : Nat → Value} (h : DefR w D dv V) {k : Nat} (hk : k < D.length) : ∃ b o c, dv = .slice (some ⟨b, o, none⟩) D.length c ∧ Cells w b (o + k * 3) (dcell (D.getD k df0) (V k)) := by
 rcases h.row.val with ⟨hz, h0⟩ | ⟨b, o, c, rfl, hnc, hc⟩
 ·omega
 exact ⟨b, o, c, rfl, by rw [← drows_at D V hk]; exact hc.sub _ _⟩
theorem sl_one1 {w : World} {s : Nat} {v : Value} {n : Nat} {xs : List Value} (h : Sl w s v n xs) : v.oneCell' = true := by
 obtain ⟨a, c, rfl⟩ := h.isSlice
 rfl
/-- names and numbers that a machine can hold -/
def DLim (D : List Df) : Prop := ∀ d ∈ D, d.name.length ≤ 9223372036854775807 ∧ d.ty.length ≤ 4611686018427387904 ∧ ∀ x ∈ d.ty, x.name.length ≤ 9223372036854775807 ∧ x.label.length ≤ 9223372036854775807
def chkT (l : List Ex) : Nat × Nat := chkE [⟨0, 1, 0⟩] 0 l
def chkA : Nat → List Df → Nat × Nat × Nat
 | _, [] => (0, 0, 0)
 | i, d :: ds => if nameB d.name = false then (i, 0, 62) else if (chkT d.ty).2 = 0 then chkA (i + 1) ds else (i, chkT d.ty)
def chkS (D : List Df) : Nat × Nat × Nat := if 256 < D.length then (256, 0, 5) else chkA 0 D
theorem chkA_nil {i : Nat} : chkA i [] = (0, 0, 0) := rfl
theorem chkA_cons {i : Nat} {d : Df} {ds : List Df} : chkA i (d :: ds) = if nameB d.name = false then (i, 0, 62) else if (chkT d.ty).2 = 0 then chkA (i + 1) ds else (i, chkT d.ty) := rfl
def rs3 (r : Nat × Nat × Nat) : Value := .tuple #[.int .i64 (r.1 : Int), .int .i64 (r.2.1 : Int), .int .i64 (r.2.2 : Int)]

set_option maxHeartbeats 2000000 in
theorem check_spec (D : List Df) (dv : Value) (V : Nat → Value) (w0 : World) (hD : DefR w0 D dv V) (hlim : DLim D) : Ca Tryd.prog 12 #[.agg #[dv]] w0 (fun r w' => r = rs3 (chkS D) ∧ Ext w0 w') := by
 refine Ca.of Tryd.func12 Tryd.ntmps12 rfl rfl (We (Wb (Wa rfl (o_boxB rfl ?_))))
 intro w1 hC1 hx1 hs1
 have hx := hx1
 replace hC1 : w1.heap[w0.heap.size]? = some (.cells #[dv] 24 (0, 0)) := hC1
 obtain ⟨c1, hc1⟩ : ∃ c, c = w0.heap.size := ⟨_, rfl⟩
 rw [← hc1] at hC1 ⊢
 replace hD := hD.ext hx1
 refine Wa rfl (Wg vI (Wa rfl (Wg vI (Wa rfl (Wg vI (Wc (We (We (Wb (Wa rfl (Wl 0 TI24 rfl TI22 rfl rfl (Wa rfl (Wk TI22 rfl rfl (Wh hC1 rfl) (Wa rfl (Ws TI22 rfl hD.row (Wa rfl (o_gt rfl rfl (Wc (Wn rfl (fun c12 => ?_) (fun c12 => ?_))))))))))))))))))))
 ·try simp only [cs8] at c12
  have hn : 256 < D.length := by omega
  refine We (Wb (Wa rfl (Wg vI (Wa rfl (Wg vI (Wa rfl (Wg vI (Wc (Wm (ret3v rfl vI vI vI ?_))))))))))
  exact ⟨by rw [chkS, if_pos hn]; rfl, hx⟩
 try simp only [cs8] at c12
 have hn : ¬ 256 < D.length := by omega
 refine Wp (We (We (Wb (Wa rfl (Wl 0 TI24 rfl TI22 rfl rfl (Wa rfl (Wk TI22 rfl rfl (Wh hC1 rfl) (Wa rfl (Ws TI22 rfl hD.row (Wa rfl (Wf vI (Wc (W.block (W.loop (fun e w => ∃ i : Nat, i ≤ D.length ∧ e 14 = dv ∧ e 15 = .int .i64 (D.length : Int) ∧ e 16 = .int .i64 (i : Int) ∧ chkS D = chkA i (D.drop i) ∧ DefR w D dv V ∧ Ext w0 w) (fun e w => D.length - (intOf (e 16)).toNat) ?_ ?_))))))))))))))
 ·exact ⟨0, Nat.zero_le _, rfl, rfl, rfl, by rw [chkS, if_neg hn]; rfl, hD, hx⟩
 rintro e w ⟨i, hi, h14, h15, h16, hres, hD, hx⟩
 have hm16 := h16
 refine We (Wb (Wa rfl (o_lt h16 h15 (Wc (We (Wn rfl (fun c17 => ?_) (fun c17 => ?_)))))))
 ·try simp only [cs8] at c17
  have hil : i < D.length := by omega
  obtain ⟨tb, to_, tc, rfl, htc⟩ := hD.at hil
  have htd : tyD D i = D[i].ty := by simp [tyD, List.getD_eq_getElem?_getD, hil]
  have hty := hD.tys i hil
  rw [htd] at hty
  rw [show D.getD i df0 = D[i] by simp [List.getD_eq_getElem?_getD, hil]] at htc
  have hdr : D.drop i = D[i] :: D.drop (i + 1) := (List.getElem_cons_drop hil).symm
  have hli := hlim _ (List.getElem_mem hil)
  refine Wp (We (W.block (We (Wb (Wa rfl (Wf h16 (Wa rfl (Wt TI22 TI38 h14 h16 (by omega) (Wa rfl (o_ldA TI38 rfl rfl htc rfl (Wa rfl (o_alB TI38 ?_))))))))))))
  intro w6 hC6 hx6 hs6
  refine Wa rfl (Wg vI (WL.u (o_stA TI38 rfl (show _ = Value.agg (dcell D[i] (V i)).toArray from rfl) rfl (by simp only [dcell, List.toArray, Array.toList, List.all_cons, List.all_nil, sl_one1 hty]; rfl) hC6 rfl ?_)))
  intro w7 hC7 ho7 hs7
  have hxb := Ext.own hx6 (Nat.le_refl _) ho7
  clear hC6 hx6 hs6 ho7 hs7 htc
  replace hx := hx.tr hxb
  replace hD := hD.ext hxb
  replace hty := hty.ext hxb
  obtain ⟨c6, hc6⟩ : ∃ c, c = w.heap.size := ⟨_, rfl⟩
  rw [← hc6] at hC7 ⊢
  refine Wc (We (We (Wb (Wa rfl (Wl 0 TI38 rfl TI9 rfl rfl (Wa rfl (Wk TI9 rfl rfl (Wh hC7 rfl) (Wa rfl (o_call Tryd.call31 (lc rfl ln) ((name_spec D[i].name _ hli.1).mono ?_))))))))))
  rintro v23 w23 ⟨rfl, rfl⟩
  refine Wa rfl (o_not' rfl (Wc (Wn rfl (fun c24 => ?_) (fun c24 => ?_))))
  ·try simp only [cs8] at c24
   have hnm : nameB D[i].name = false := by simpa using c24
   refine We (Wb (Wa rfl (Wf vI (Wa rfl (Wg vI (Wa rfl (Wg vI (Wa rfl (Wg vI (Wc (Wm (ret3v rfl vI vI vI ?_))))))))))))
   rw [hres, hdr, chkA_cons, if_pos hnm]
   exact ⟨rfl, hx⟩
  try simp only [cs8] at c24
  have hnm : nameB D[i].name = true := by simpa using c24
  refine Wp (We (Wb (Wa rfl (Wl 2 TI38 rfl TI36 rfl rfl (Wa rfl (Wk TI36 rfl rfl (Wh hC7 rfl) (Wa rfl (o_call Tryd.call32 (lc rfl ln) ((checked_spec D[i].ty (V i) _ hty hli.2.1 hli.2.2).mono ?_)))))))))
  rintro v29 w29 ⟨rfl, hx29⟩
  replace hx := hx.tr hx29
  replace hD := hD.ext hx29
  refine Wa rfl (Wf (by first | exact (show _ = Value.tuple _ from rfl) | exact rfl) (Wa rfl (o_ext rfl rfl (Wa rfl (o_ext rfl rfl (Wa rfl (Wg vI (Wa rfl (Wg vI (Wc (We (Wb (Wa rfl (Wf vI (Wa rfl (o_ne rfl rfl (Wc (Wn rfl (fun c33 => ?_) (fun c33 => ?_)))))))))))))))))))
  ·try simp only [cs8] at c33
   have hce : ¬ (chkT D[i].ty).2 = 0 := by have : (chkT D[i].ty).2 = (chkE [⟨0, 1, 0⟩] 0 D[i].ty).2 := rfl; omega
   refine We (Wb (Wa rfl (Wf vI (Wa rfl (Wf vI (Wa rfl (Wf vI (Wa rfl (Wg vI (Wa rfl (Wg vI (Wa rfl (Wg vI (Wc (Wm (ret3v rfl vI vI vI ?_))))))))))))))))
   rw [hres, hdr, chkA_cons, if_neg (by simp [hnm]), if_neg hce]
   exact ⟨rfl, hx⟩
  try simp only [cs8] at c33
  have hce : (chkT D[i].ty).2 = 0 := by have : (chkT D[i].ty).2 = (chkE [⟨0, 1, 0⟩] 0 D[i].ty).2 := rfl; omega
  refine Wp (Wb (Wa rfl (o_addi h16 rfl (by omega) (Wa rfl (Wf vI (Wc (⟨⟨i + 1, by omega, h14, h15, rfl, ?_, hD, hx⟩, ?_⟩)))))))
  ·rw [hres, hdr, chkA_cons, if_neg (by simp [hnm]), if_pos hce]
  show D.length - ((i : Int) + 1).toNat < _
  rw [hm16]; simp [intOf]; omega
 try simp only [cs8] at c17
 have hil : i = D.length := by omega
 rw [hil, List.drop_length, chkA_nil] at hres
 refine W.exit (We (Wb (Wa rfl (Wg vI (Wa rfl (Wg vI (Wa rfl (Wg vI (Wc (Wm (ret3v rfl vI vI vI ?_)))))))))))
 rw [hres]
 exact ⟨rfl, hx⟩
end Go.Proofs.YtpbflfgigfdohaaDoor

namespace Go.Proofs.YtpbflfgigfdohaaDoor
open Go Go.Vc Go.RowKit Go.Proofs

theorem bind_bad {α β : Type} {r : Pr α} {f : α → Nat → Pr β} {e j : Nat} (h : r.bind f = .bad e j) : r = .bad e j ∨ ∃ a i, r = .ok a i ∧ f a i = .bad e j := by
 cases r with
 | ok a i => exact .inr ⟨a, i, rfl, h⟩
 | bad e i => injection h with h1 h2; exact .inl (by rw [h1, h2])
theorem wantT_bad {T : List Tk} {i k e j : Nat} {s : List UInt8} (h : wantT T i k s = .bad e j) : e = 60 ∧ j = i ∧ isT (tkA T i) k s = false := by
 unfold wantT at h
 split at h
 ·cases h
 rename_i h1; cases h; exact ⟨rfl, rfl, by simpa using h1⟩
theorem numT_bad {T : List Tk} {i e j : Nat} (h : numT T i = .bad e j) : e = 60 ∧ j = i ∧ ¬ (tkA T i).kind = 2 := by
 unfold numT at h
 split at h
 ·cases h
 rename_i h1; cases h; exact ⟨rfl, rfl, h1⟩
theorem nameT_bad {T : List Tk} {i e j : Nat} (h : nameT T i = .bad e j) : e = 60 ∧ j = i ∧ nmT (tkA T i) = false := by
 unfold nameT at h
 split at h
 ·cases h
 rename_i h1; cases h; exact ⟨rfl, rfl, by simpa using h1⟩


theorem leafE_ok {s : List UInt8} {kn : Int × Int} (h : leafE s = some kn) : kn = (1, 1) ∨ kn = (1, 2) ∨ kn = (1, 4) ∨ kn = (1, 8) ∨ kn = (2, 0) ∨ kn = (3, 0) := by
 unfold leafE at h
 repeat' split at h
 all_goals first | (cases h; simp; done) | cases h
theorem bgn_name {t : Tk} (hb : bgnT t = true) (hl : leafE t.text = none) (hv : ¬ (t.text = [118, 101, 99, 116, 111, 114] ∨ t.text = [108, 105, 115, 116])) (ho : ¬ t.text = [111, 112, 116, 105, 111, 110]) (hu : ¬ t.text = [117, 110, 105, 111, 110]) (hs : ¬ t.text = [115, 116, 114, 117, 99, 116]) : t.kind = 1 ∧ nameB t.text = true := by
 rw [not_or] at hv
 unfold bgnT at hb
 rw [hl, decide_eq_false hv.1, decide_eq_false hv.2, decide_eq_false ho, decide_eq_false hu, decide_eq_false hs] at hb
 simpa using hb
theorem bgn_kind {t : Tk} (hb : bgnT t = true) : t.kind = 1 := by
 unfold bgnT at hb
 rw [Bool.and_eq_true, decide_eq_true_eq] at hb
 exact hb.1
def Base (x : Ex) : Prop := x.n = 0 ∧ x.kids = 0 ∧ x.name = []
def ChkM (r : Option (Bool × Nat)) (deep : Nat) (x : Ex) (N : List Ex) (n : Nat) : Prop := match r with
 | none => ∀ (o : Opn) (S : List Opn) (k : Nat) (rest : List Ex), o.deep = (deep : Int) → 0 < o.left → Base x → labB x o.kind = true → tagB x o.kind = true → chkE (o :: S) k (N ++ rest) = chkE ({ o with left := o.left - 1 } :: S) (k + N.length) rest
 | some (u, q) => q < n ∧ n ≤ 64 ∧ ∀ (o : Opn) (S : List Opn) (k : Nat) (rest : List Ex), o.deep = ((deep + 1 : Nat) : Int) → o.kind = (if u then 7 else 8) → o.left = (n : Int) - q → chkE (o :: S) k (N ++ rest) = chkE ({ o with left := 0 } :: S) (k + N.length) rest
theorem atE_lab {i : Nat} {x : Ex} {a : Int} : labB (atE i x) a = labB x a := by unfold atE; split <;> rfl
theorem atE_tag {i : Nat} {x : Ex} {a : Int} : tagB (atE i x) a = tagB x a := by unfold atE; split <;> rfl
theorem atE_base {i : Nat} {x : Ex} (h : Base x) : Base (atE i x) := by unfold atE; split <;> exact h
theorem chk_node {o : Opn} {S : List Opn} {k deep : Nat} {y : Ex} {rest : List Ex} (hd : o.deep = (deep : Int)) (hl : 0 < o.left) (hdeep : deep ≤ 16) (hm : manyB y = false) (hr : rightB y o.kind = true) :
  chkE (o :: S) k (y :: rest) = chkE (⟨y.kind, y.kids, ((deep + 1 : Nat) : Int)⟩ :: { o with left := o.left - 1 } :: S) (k + 1) rest := by
 rw [chkE_o (popZ_n (show ¬ o.left = 0 by omega)), if_neg (by omega), if_neg (by simp [hm]), if_neg (by simp [hr]), show o.deep + 1 = ((deep + 1 : Nat) : Int) by omega]
theorem chkE_pz0 {a b : Int} {S : List Opn} {i : Nat} {l : List Ex} : chkE (⟨a, 0, b⟩ :: S) i l = chkE S i l := by
 cases l with
 | nil => rfl
 | cons x xs => rw [chkE_cons, chkE_cons, popZ_z rfl]
theorem pop_idx {S : List Opn} {a b : Nat} {l : List Ex} (h : a = b) : chkE S a l = chkE S b l := by rw [h]
theorem px_chk {T : List Tk} (hT : ∀ i, (tkA T i).n ≤ 2147483647) {r : Option (Bool × Nat)} {deep i : Nat} {x : Ex} {N : List Ex} {n j : Nat} (h : PX T r deep i x N n j) : ChkM r deep x N n := by
 induction h with
 | @leaf deep i x kn hb hd hl =>
  intro o S k rest ho hp hx h1 h2
  have hk := leafE_ok hl
  obtain ⟨b1, b2, b3⟩ := atE_base (i := i) hx
  show chkE (o :: S) k (_ :: rest) = _
  rw [chk_node ho hp hd (by rcases hk with rfl | rfl | rfl | rfl | rfl | rfl <;> simp [manyB, Ex.lf]) ?_]
  ·show chkE (⟨_, (atE i x).kids, _⟩ :: _) _ _ = _
   rw [b2, chkE_pz0]; rfl
  simp only [rightB, Bool.and_eq_true]
  refine ⟨⟨⟨?_, ?_⟩, ?_⟩, ?_⟩
  ·rcases hk with rfl | rfl | rfl | rfl | rfl | rfl <;> simp [okB, Ex.lf, b2]
  ·rcases hk with rfl | rfl | rfl | rfl | rfl | rfl <;> simp [namB, Ex.lf, b3]
  ·exact atE_lab.trans h1
  exact atE_tag.trans h2
 | @nm deep i x hb hd hl hv ho_ hu hs =>
  intro o S k rest ho hp hx h1 h2
  have hnm := (bgn_name hb hl hv ho_ hu hs).2
  obtain ⟨b1, b2, b3⟩ := atE_base (i := i) hx
  show chkE (o :: S) k (_ :: rest) = _
  rw [chk_node ho hp hd (by simp [manyB, Ex.nm]) ?_]
  ·show chkE (⟨_, (atE i x).kids, _⟩ :: _) _ _ = _
   rw [b2, chkE_pz0]; rfl
  simp only [rightB, Bool.and_eq_true]
  refine ⟨⟨⟨?_, ?_⟩, ?_⟩, ?_⟩
  ·simp [okB, Ex.nm, b1, b2]
  ·simp [namB, Ex.nm, hnm]
  ·exact atE_lab.trans h1
  exact atE_tag.trans h2
 | @vec deep i x N j hb hd hl hv h1 hN h2 h3 h4 ih =>
  intro o S k rest ho hp hx g1 g2
  obtain ⟨b1, b2, b3⟩ := atE_base (i := i) hx
  have hn := hT (j + 1)
  show chkE (o :: S) k (_ :: (N ++ rest)) = _
  rw [chk_node ho hp hd (by simp only [manyB, Ex.vec]; split <;> simp) ?_]
  ·refine (ih _ _ _ _ rfl (show (0 : Int) < 1 by decide) ⟨rfl, rfl, rfl⟩ ?_ ?_).trans ?_
   ·simp only [labB, Ex.vec]; split <;> first | rfl | (rename_i hh; split at hh <;> cases hh)
   ·rfl
   show chkE (⟨_, (1 : Int) - 1, _⟩ :: _) _ _ = _
   rw [show (1 : Int) - 1 = 0 from rfl, chkE_pz0]
   exact pop_idx (by rw [List.length_cons]; omega)
  simp only [rightB, Bool.and_eq_true]
  refine ⟨⟨⟨?_, ?_⟩, ?_⟩, ?_⟩
  ·(generalize decide ((tkA T i).text = [108, 105, 115, 116]) = b; cases b <;> simp [okB, Ex.vec] <;> omega)
  ·simp only [namB, Ex.vec]; split <;> simp [b3]
  ·exact atE_lab.trans g1
  exact atE_tag.trans g2
 | @opt deep i x N j hb hd hl ho_ h1 hN h2 ih =>
  intro o S k rest ho hp hx g1 g2
  obtain ⟨b1, b2, b3⟩ := atE_base (i := i) hx
  show chkE (o :: S) k (_ :: (N ++ rest)) = _
  rw [chk_node ho hp hd (by simp [manyB, Ex.opt]) ?_]
  ·refine (ih _ _ _ _ rfl (show (0 : Int) < 1 by decide) ⟨rfl, rfl, rfl⟩ rfl rfl).trans ?_
   show chkE (⟨_, (1 : Int) - 1, _⟩ :: _) _ _ = _
   rw [show (1 : Int) - 1 = 0 from rfl, chkE_pz0]
   exact pop_idx (by rw [List.length_cons]; omega)
  simp only [rightB, Bool.and_eq_true]
  refine ⟨⟨⟨?_, ?_⟩, ?_⟩, ?_⟩
  ·simp [okB, Ex.opt, b1]
  ·simp [namB, Ex.opt, b3]
  ·exact atE_lab.trans g1
  exact atE_tag.trans g2
 | @br deep i x u M n j hb hd hl hw h1 hM ih =>
  intro o S k rest ho hp hx g1 g2
  obtain ⟨q1, q2, q3⟩ := ih
  obtain ⟨b1, b2, b3⟩ := atE_base (i := i) hx
  show chkE (o :: S) k (_ :: (M ++ rest)) = _
  rw [chk_node ho hp hd (by cases u <;> simp [manyB, Ex.br] <;> omega) ?_]
  ·refine (q3 ⟨_, _, _⟩ _ _ _ rfl rfl (by show ((n : Nat) : Int) = _; omega)).trans ?_
   rw [chkE_pz0]
   exact pop_idx (by rw [List.length_cons]; omega)
  simp only [rightB, Bool.and_eq_true]
  refine ⟨⟨⟨?_, ?_⟩, ?_⟩, ?_⟩
  ·cases u <;> simp [okB, Ex.br, b1] <;> omega
  ·cases u <;> simp [namB, Ex.br, b3]
  ·exact atE_lab.trans g1
  exact atE_tag.trans g2
 | @last deep i u k N j hk hh hc hN hm hr ih =>
  refine ⟨by omega, by omega, fun o S k' rest ho hkd hl => ?_⟩
  have hl1 : o.left = 1 := by omega
  refine (ih o S k' rest ho (by omega) ?_ ?_ ?_).trans ?_
  ·cases u <;> exact ⟨rfl, rfl, rfl⟩
  ·cases u
   ·have : nameB (tkA T i).text = true := by simp only [hdOk, nmT] at hh; simp at hh; exact hh.2
    simp [labB, hkd, hdE, this]
   simp [labB, hkd, hdE, ex0]
  ·cases u
   ·simp [tagB, hdE, ex0]
   have := hT i
   simp [tagB, hkd, hdE, ex0]; omega
  rw [hl1]; rfl
 | @more deep i u k N M j n e hk hh hc hN hm hR ih1 ih2 =>
  obtain ⟨q1, q2, q3⟩ := ih2
  refine ⟨by omega, q2, fun o S k' rest ho hkd hl => ?_⟩
  rw [List.append_assoc]
  refine (ih1 o S k' _ ho (by omega) ?_ ?_ ?_).trans ?_
  ·cases u <;> exact ⟨rfl, rfl, rfl⟩
  ·cases u
   ·have : nameB (tkA T i).text = true := by simp only [hdOk, nmT] at hh; simp at hh; exact hh.2
    simp [labB, hkd, hdE, this]
   simp [labB, hkd, hdE, ex0]
  ·cases u
   ·simp [tagB, hdE, ex0]
   have := hT i
   simp [tagB, hkd, hdE, ex0]; omega
  refine (q3 { o with left := o.left - 1 } S _ rest ho hkd (by show o.left - 1 = _; omega)).trans ?_
  exact pop_idx (by rw [List.length_append]; omega)
theorem rightB_pl {T : List Tk} {x : Ex} {a : Int} : rightB (plE T x) a = rightB x a := by unfold plE; split <;> rfl
theorem manyB_pl {T : List Tk} {x : Ex} : manyB (plE T x) = manyB x := by unfold plE; split <;> rfl
theorem kind_pl {T : List Tk} {x : Ex} : (plE T x).kind = x.kind := by unfold plE; split <;> rfl
theorem kids_pl {T : List Tk} {x : Ex} : (plE T x).kids = x.kids := by unfold plE; split <;> rfl
theorem name_pl {T : List Tk} {x : Ex} : (plE T x).name = x.name := by unfold plE; split <;> rfl
theorem label_pl {T : List Tk} {x : Ex} : (plE T x).label = x.label := by unfold plE; split <;> rfl
theorem chkE_pl {T : List Tk} : ∀ (N : List Ex) (S : List Opn) (k : Nat), chkE S k (N.map (plE T)) = chkE S k N
 | [], S, k => rfl
 | x :: xs, S, k => by
  rw [List.map_cons, chkE_cons, chkE_cons]
  cases popZ S with
  | nil => rfl
  | cons o S' => simp only [rightB_pl, manyB_pl, kind_pl, kids_pl, chkE_pl xs]
theorem px_chkT {T : List Tk} (hT : ∀ i, (tkA T i).n ≤ 2147483647) {i j : Nat} {N : List Ex} (h : PX T none 0 i exM N 0 j) : chkT (N.map (plE T)) = (0, 0) := by
 have := px_chk hT h ⟨0, 1, 0⟩ [] 0 [] rfl (by decide) ⟨rfl, rfl, rfl⟩ rfl rfl
 rw [List.append_nil] at this
 rw [chkT, chkE_pl, this]
 rfl
inductive PD (T : List Tk) : Nat → Nat → List Df → Prop
 | nil {i k : Nat} (h : T.length ≤ i) (hk : k ≤ 256) : PD T i k []
 | cons {i k j : Nat} {N : List Ex} {D : List Df} (hk : k < 256) (h0 : isT (tkA T i) 1 [116, 121, 112, 101] = true) (h1 : nmT (tkA T (i + 1)) = true) (h2 : isT (tkA T (i + 2)) 3 [61] = true) (hN : PX T none 0 (i + 3) exM N 0 j) (h3 : isT (tkA T j) 3 [59] = true) (hD : PD T (j + 1) (k + 1) D) : PD T i k (⟨(tkA T (i + 1)).text, ((i + 1 : Nat) : Int), N⟩ :: D)
theorem defs_pd {T : List Tk} : ∀ (g i k : Nat) (D : List Df) (e : Nat), k ≤ 256 → defsT T g i k = .ok D e → PD T i k D
 | 0, i, k, D, e, hk, h => by cases h
 | g + 1, i, k, D, e, hk, h => by
  rw [defsT_s] at h
  split at h
  ·rename_i hi; cases h; exact .nil hi hk
  split at h
  ·cases h
  rename_i hi hnm
  obtain ⟨_, i1, h1, h⟩ := bind_ok h
  obtain ⟨g1, rfl⟩ := wantT_ok h1
  obtain ⟨s, i2, h2, h⟩ := bind_ok h
  obtain ⟨g2, rfl, rfl⟩ := nameT_ok h2
  obtain ⟨_, i3, h3, h⟩ := bind_ok h
  obtain ⟨g3, rfl⟩ := wantT_ok h3
  obtain ⟨N, j, h4, h⟩ := bind_ok h
  obtain ⟨_, i5, h5, h⟩ := bind_ok h
  obtain ⟨g5, rfl⟩ := wantT_ok h5
  obtain ⟨D', e', h6, h⟩ := bind_ok h
  cases h
  have hk2 : k < 256 := by
   rcases Nat.lt_or_ge k 256 with h7 | h7
   ·exact h7
   exact absurd ⟨by omega, g1⟩ hnm
  exact .cons hk2 g1 g2 g3 (expr_px _ _ _ _ _ _ h4) g5 (defs_pd g _ _ _ _ (by omega) h6)
theorem pd_chk {T : List Tk} (hT : ∀ i, (tkA T i).n ≤ 2147483647) {i k : Nat} {D : List Df} (h : PD T i k D) : (∀ m, chkA m (D.map (plD T)) = (0, 0, 0)) ∧ k + D.length ≤ 256 := by
 induction h with
 | nil h hk => exact ⟨fun m => rfl, hk⟩
 | @cons i k j N D hk h0 h1 h2 hN h3 hD ih =>
  refine ⟨fun m => ?_, by rw [List.length_cons]; omega⟩
  rw [List.map_cons, chkA_cons, if_neg ?_, if_pos ?_, ih.1]
  ·show (chkT (N.map (plE T))).2 = 0
   rw [px_chkT hT hN]
  show ¬ nameB (tkA T (i + 1)).text = false
  simp only [nmT, Bool.and_eq_true] at h1
  simp [h1.2]
theorem cut_small (xs : List UInt8) (i : Nat) : (tkA (cutA xs).1 i).n ≤ 2147483647 := by
 by_cases h : i < (cutA xs).1.length
 ·exact (cut_in h).small
 rw [tkA_ge (by omega)]; exact Nat.zero_le _


def Rise (lo : Int) : List Ex → Int → Prop
 | [], hi => lo ≤ hi
 | y :: l, hi => lo ≤ y.at_ ∧ Rise (y.at_ + 1) l hi
theorem Rise.app : ∀ {L M : List Ex} {a b c : Int}, Rise a L b → Rise b M c → Rise a (L ++ M) c
 | [], M, a, b, c, h1, h2 => by
  show Rise a M c
  cases M with
  | nil => exact Int.le_trans h1 h2
  | cons y l => exact ⟨Int.le_trans h1 h2.1, h2.2⟩
 | y :: l, M, a, b, c, h1, h2 => ⟨h1.1, h1.2.app h2⟩
theorem Rise.lo {L : List Ex} {a a' b : Int} (h : Rise a L b) (ha : a' ≤ a) : Rise a' L b := by
 cases L with
 | nil => exact Int.le_trans ha h
 | cons y l => exact ⟨Int.le_trans ha h.1, h.2⟩
theorem Rise.hi {L : List Ex} : ∀ {a b b' : Int}, Rise a L b → b ≤ b' → Rise a L b' := by
 induction L with
 | nil => intro a b b' h hb; exact Int.le_trans h hb
 | cons y l ih => intro a b b' h hb; exact ⟨h.1, ih h.2 hb⟩
def NdOk (T : List Tk) (y : Ex) : Prop := 0 ≤ y.at_ ∧ (y.label ≠ [] → (tkA T y.at_.toNat).text = y.label) ∧ (y.label = [] → y.kind = 9 → (tkA T y.at_.toNat).kind = 1 → (tkA T y.at_.toNat).text = y.name)
def RiM (T : List Tk) (r : Option (Bool × Nat)) (i : Nat) (x : Ex) (N : List Ex) (j : Nat) : Prop := i < j ∧ j ≤ T.length ∧ match r with
 | none => ((x.at_ < 0 ∧ x.label = []) ∨ (0 ≤ x.at_ ∧ x.at_ < i ∧ (x.label ≠ [] → (tkA T x.at_.toNat).text = x.label) ∧ (x.label = [] → ¬ (tkA T x.at_.toNat).kind = 1))) → Rise (if x.at_ < 0 then i else x.at_) N j ∧ ∀ y ∈ N, NdOk T y
 | some (u, q) => Rise i N j ∧ ∀ y ∈ N, NdOk T y
theorem atE_at {i : Nat} {x : Ex} : (atE i x).at_ = if x.at_ < 0 then (i : Int) else x.at_ := by unfold atE; split <;> rfl
theorem atE_label {i : Nat} {x : Ex} : (atE i x).label = x.label := by unfold atE; split <;> rfl
theorem nd_at {T : List Tk} {i : Nat} {x y : Ex} (hx : (x.at_ < 0 ∧ x.label = []) ∨ (0 ≤ x.at_ ∧ x.at_ < i ∧ (x.label ≠ [] → (tkA T x.at_.toNat).text = x.label) ∧ (x.label = [] → ¬ (tkA T x.at_.toNat).kind = 1))) (ha : y.at_ = (atE i x).at_) (hl : y.label = x.label) (hk : y.kind = 9 → (tkA T i).text = y.name) :
  (if x.at_ < 0 then (i : Int) else x.at_) = y.at_ ∧ y.at_ ≤ (i : Int) ∧ NdOk T y := by
 rw [atE_at] at ha
 rcases hx with ⟨h1, h2⟩ | ⟨h1, h2, h3, h4⟩
 ·rw [if_pos h1] at ha ⊢
  refine ⟨ha.symm, by omega, by omega, fun h => absurd (hl.trans h2) h, fun _ h5 _ => ?_⟩
  rw [ha]; exact hk h5
 rw [if_neg (by omega)] at ha ⊢
 refine ⟨ha.symm, by omega, by omega, fun h => ?_, fun h5 _ h7 => ?_⟩
 ·rw [ha, hl]; exact h3 (by rw [← hl]; exact h)
 rw [ha] at h7; exact absurd h7 (h4 (by rw [← hl]; exact h5))
theorem nm_ne {s : List UInt8} (h : nameB s = true) : s ≠ [] := fun he => by rw [he] at h; cases h
theorem px_rise {T : List Tk} {r : Option (Bool × Nat)} {deep i : Nat} {x : Ex} {N : List Ex} {n j : Nat} (h : PX T r deep i x N n j) : RiM T r i x N j := by
 have hbT : ∀ {i}, bgnT (tkA T i) = true → i < T.length := fun hb => tkA_kind (by decide) (bgn_kind hb)
 have hd0 : ∀ {u i}, hdOk T u i → i < T.length ∧ ((hdE T u i).at_ = (i : Int) ∧ ((hdE T u i).label ≠ [] → (tkA T i).text = (hdE T u i).label) ∧ ((hdE T u i).label = [] → ¬ (tkA T i).kind = 1)) := by
  intro u i hh
  cases u
  ·have hh' : nmT (tkA T i) = true := hh
   simp only [nmT, Bool.and_eq_true, decide_eq_true_eq] at hh'
   exact ⟨tkA_kind (by decide) hh'.1, rfl, fun _ => rfl, fun hl => absurd hl (nm_ne hh'.2)⟩
  have hh' : (tkA T i).kind = 2 := hh
  exact ⟨tkA_kind (by decide) hh', rfl, fun hl => absurd rfl hl, fun _ => by omega⟩
 induction h with
 | @leaf deep i x kn hb hd hl =>
  refine ⟨by omega, hbT hb, fun hx => ?_⟩
  have hk := leafE_ok hl
  obtain ⟨h1, h2, h3⟩ := nd_at (y := (atE i x).lf kn.1 kn.2) hx rfl atE_label (fun h => by rcases hk with rfl | rfl | rfl | rfl | rfl | rfl <;> cases h)
  refine ⟨⟨by omega, by show _ + 1 ≤ _; omega⟩, fun y hy => ?_⟩
  rw [List.mem_singleton] at hy; rw [hy]; exact h3
 | @nm deep i x hb hd hl hv ho hu hs =>
  refine ⟨by omega, hbT hb, fun hx => ?_⟩
  obtain ⟨h1, h2, h3⟩ := nd_at (y := (atE i x).nm (tkA T i).text) hx rfl atE_label (fun h => rfl)
  refine ⟨⟨by omega, by show _ + 1 ≤ _; omega⟩, fun y hy => ?_⟩
  rw [List.mem_singleton] at hy; rw [hy]; exact h3
 | @vec deep i x N j hb hd hl hv h1 hN h2 h3 h4 ih =>
  obtain ⟨q1, q2, q3⟩ := ih
  refine ⟨by omega, isT_lt (by decide) h4, fun hx => ?_⟩
  obtain ⟨g1, g2, g3⟩ := nd_at (y := (atE i x).vec (decide ((tkA T i).text = [108, 105, 115, 116])) (tkA T (j + 1)).n) hx rfl atE_label (fun h => by simp only [Ex.vec] at h; split at h <;> cases h)
  obtain ⟨r1, r2⟩ := q3 (.inl ⟨by decide, rfl⟩)
  rw [if_pos (by decide)] at r1
  refine ⟨⟨by omega, (r1.lo (by omega)).hi (by omega)⟩, fun y hy => ?_⟩
  rcases List.mem_cons.1 hy with rfl | hy
  ·exact g3
  exact r2 y hy
 | @opt deep i x N j hb hd hl ho h1 hN h2 ih =>
  obtain ⟨q1, q2, q3⟩ := ih
  refine ⟨by omega, isT_lt (by decide) h2, fun hx => ?_⟩
  obtain ⟨g1, g2, g3⟩ := nd_at (y := (atE i x).opt) hx rfl atE_label (fun h => by cases h)
  obtain ⟨r1, r2⟩ := q3 (.inl ⟨by decide, rfl⟩)
  rw [if_pos (by decide)] at r1
  refine ⟨⟨by omega, (r1.lo (by omega)).hi (by omega)⟩, fun y hy => ?_⟩
  rcases List.mem_cons.1 hy with rfl | hy
  ·exact g3
  exact r2 y hy
 | @br deep i x u M n j hb hd hl hw h1 hM ih =>
  obtain ⟨q1, q2, r1, r2⟩ := ih
  refine ⟨by omega, q2, fun hx => ?_⟩
  obtain ⟨g1, g2, g3⟩ := nd_at (y := (atE i x).br u (n : Nat)) hx rfl atE_label (fun h => by cases u <;> cases h)
  refine ⟨⟨by omega, r1.lo (by omega)⟩, fun y hy => ?_⟩
  rcases List.mem_cons.1 hy with rfl | hy
  ·exact g3
  exact r2 y hy
 | @last deep i u k N j hk hh hc hN hm hr ih =>
  obtain ⟨q1, q2, q3⟩ := ih
  obtain ⟨p1, p2, p3, p4⟩ := hd0 hh
  obtain ⟨r1, r2⟩ := q3 (.inr ⟨by omega, by omega, fun h => by rw [p2]; exact p3 h, fun h => by rw [p2]; exact p4 h⟩)
  rw [if_neg (by omega), p2] at r1
  exact ⟨by omega, isT_lt (by decide) hr, r1.hi (by omega), r2⟩
 | @more deep i u k N M j n e hk hh hc hN hm hR ih1 ih2 =>
  obtain ⟨q1, q2, q3⟩ := ih1
  obtain ⟨s1, s2, s3, s4⟩ := ih2
  obtain ⟨p1, p2, p3, p4⟩ := hd0 hh
  obtain ⟨r1, r2⟩ := q3 (.inr ⟨by omega, by omega, fun h => by rw [p2]; exact p3 h, fun h => by rw [p2]; exact p4 h⟩)
  rw [if_neg (by omega), p2] at r1
  refine ⟨by omega, s2, (r1.hi (by omega)).app s3, fun y hy => ?_⟩
  rcases List.mem_append.1 hy with hy | hy
  ·exact r2 y hy
  exact s4 y hy
theorem expr_lt {T : List Tk} {f i : Nat} {x : Ex} {deep : Nat} {N : List Ex} {j : Nat} (h : exprT T f i x deep = .ok N j) : i < j ∧ j ≤ T.length := ⟨(px_rise (expr_px _ _ _ _ _ _ h)).1, (px_rise (expr_px _ _ _ _ _ _ h)).2.1⟩
def Bd (e : Nat) : Prop := e = 5 ∨ e = 60 ∨ e = 61
theorem wantT_le {T : List Tk} {i k j : Nat} {s : List UInt8} {a : Unit} (hk : 1 ≤ k) (h : wantT T i k s = .ok a j) : j = i + 1 ∧ i < T.length := ⟨(wantT_ok h).2, isT_lt hk (wantT_ok h).1⟩
theorem headT_bd {T : List Tk} {u full : Bool} {i j e : Nat} {x : Ex} (h : headT T u full i x = .bad e j) : Bd e ∧ j = i := by
 cases u
 ·rw [headT_s] at h
  split at h
  ·cases h; exact ⟨.inl rfl, rfl⟩
  rcases bind_bad h with h | ⟨_, _, _, h⟩
  ·obtain ⟨rfl, rfl, -⟩ := nameT_bad h; exact ⟨.inr (.inl rfl), rfl⟩
  cases h
 rw [headT_u] at h
 split at h
 ·cases h; exact ⟨.inl rfl, rfl⟩
 rcases bind_bad h with h | ⟨_, _, _, h⟩
 ·obtain ⟨rfl, rfl, -⟩ := numT_bad h; exact ⟨.inr (.inl rfl), rfl⟩
 cases h
theorem headT_le {T : List Tk} {u full : Bool} {i j : Nat} {y : Ex} (h : headT T u full i { ex0 with at_ := i } = .ok y j) : j = i + 1 ∧ i < T.length := by
 obtain ⟨hh, -, rfl, -⟩ := headT_ok h
 refine ⟨rfl, ?_⟩
 cases u
 ·have hh' : nmT (tkA T i) = true := hh
  simp only [nmT, Bool.and_eq_true, decide_eq_true_eq] at hh'
  exact tkA_kind (by decide) hh'.1
 exact tkA_kind (k := 2) (by decide) hh
theorem rows_bad {T : List Tk} {E : Nat → Ex → Pr (List Ex)} {u : Bool} {i0 : Nat} (hE : ∀ i x e j, i0 ≤ i → i ≤ T.length → E i x = .bad e j → Bd e ∧ i ≤ j ∧ j ≤ T.length) (hEo : ∀ i x N j, E i x = .ok N j → i < j ∧ j ≤ T.length) :
  ∀ (g i k e j : Nat), i0 ≤ i → i ≤ T.length → T.length + 2 ≤ g + i → rowsT E T u g i k = .bad e j → Bd e ∧ i ≤ j ∧ j ≤ T.length
 | 0, i, k, e, j, h0, hi, hg, h => by omega
 | g + 1, i, k, e, j, h0, hi, hg, h => by
  rw [rowsT_s] at h
  rcases bind_bad h with h | ⟨y, i1, h1, h⟩
  ·obtain ⟨g1, rfl⟩ := headT_bd h; exact ⟨g1, Nat.le_refl _, hi⟩
  obtain ⟨rfl, hi1⟩ := headT_le h1
  rcases bind_bad h with h | ⟨_, i2, h2, h⟩
  ·obtain ⟨rfl, rfl, -⟩ := wantT_bad h; exact ⟨.inr (.inl rfl), by omega, by omega⟩
  obtain ⟨rfl, hi2⟩ := wantT_le (by decide) h2
  rcases bind_bad h with h | ⟨N, i3, h3, h⟩
  ·obtain ⟨a1, a2, a3⟩ := hE _ _ _ _ (by omega) (by omega) h; exact ⟨a1, by omega, a3⟩
  obtain ⟨b1, b2⟩ := hEo _ _ _ _ h3
  split at h
  ·rename_i hm
   have hm2 := isT_lt (by decide) hm
   rcases bind_bad h with h | ⟨r, i4, h4, h⟩
   ·obtain ⟨a1, a2, a3⟩ := rows_bad hE hEo g (i3 + 1) (k + 1) e j (by omega) (by omega) (by omega) h
    exact ⟨a1, by omega, a3⟩
   cases h
  rcases bind_bad h with h | ⟨r, i4, h4, h⟩
  ·obtain ⟨rfl, rfl, -⟩ := wantT_bad h; exact ⟨.inr (.inl rfl), by omega, by omega⟩
  cases h
theorem expr_bad {T : List Tk} : ∀ (f i : Nat) (x : Ex) (deep e j : Nat), i ≤ T.length → T.length + 2 ≤ f + i → exprT T f i x deep = .bad e j → Bd e ∧ i ≤ j ∧ j ≤ T.length
 | 0, i, x, deep, e, j, hi, hf, h => by omega
 | f + 1, i, x, deep, e, j, hi, hf, h => by
  rw [exprT_s] at h
  split at h
  ·cases h; exact ⟨.inr (.inl rfl), Nat.le_refl _, hi⟩
  rename_i hb
  have hil : i < T.length := tkA_kind (by decide) (bgn_kind (by simpa using hb))
  split at h
  ·cases h; exact ⟨.inr (.inr rfl), Nat.le_refl _, hi⟩
  split at h
  ·cases h
  split at h
  ·rcases bind_bad h with h | ⟨_, i1, h1, h⟩
   ·obtain ⟨rfl, rfl, -⟩ := wantT_bad h; exact ⟨.inr (.inl rfl), by omega, by omega⟩
   obtain ⟨rfl, hi1⟩ := wantT_le (by decide) h1
   rcases bind_bad h with h | ⟨N, i2, h2, h⟩
   ·obtain ⟨a1, a2, a3⟩ := expr_bad f _ _ _ _ _ (by omega) (by omega) h; exact ⟨a1, by omega, a3⟩
   obtain ⟨b1, b2⟩ := expr_lt h2
   rcases bind_bad h with h | ⟨_, i3, h3, h⟩
   ·obtain ⟨rfl, rfl, -⟩ := wantT_bad h; exact ⟨.inr (.inl rfl), by omega, by omega⟩
   obtain ⟨rfl, hi3⟩ := wantT_le (by decide) h3
   rcases bind_bad h with h | ⟨n, i4, h4, h⟩
   ·obtain ⟨rfl, rfl, -⟩ := numT_bad h; exact ⟨.inr (.inl rfl), by omega, by omega⟩
   obtain ⟨g4, -, rfl⟩ := numT_ok h4
   have hi4 := tkA_kind (by decide) g4
   rcases bind_bad h with h | ⟨_, i5, h5, h⟩
   ·obtain ⟨rfl, rfl, -⟩ := wantT_bad h; exact ⟨.inr (.inl rfl), by omega, by omega⟩
   cases h
  split at h
  ·rcases bind_bad h with h | ⟨_, i1, h1, h⟩
   ·obtain ⟨rfl, rfl, -⟩ := wantT_bad h; exact ⟨.inr (.inl rfl), by omega, by omega⟩
   obtain ⟨rfl, hi1⟩ := wantT_le (by decide) h1
   rcases bind_bad h with h | ⟨N, i2, h2, h⟩
   ·obtain ⟨a1, a2, a3⟩ := expr_bad f _ _ _ _ _ (by omega) (by omega) h; exact ⟨a1, by omega, a3⟩
   obtain ⟨b1, b2⟩ := expr_lt h2
   rcases bind_bad h with h | ⟨_, i3, h3, h⟩
   ·obtain ⟨rfl, rfl, -⟩ := wantT_bad h; exact ⟨.inr (.inl rfl), by omega, by omega⟩
   cases h
  have hrow : ∀ (u : Bool), (((wantT T (i + 1) 3 [123]).bind fun _ j => rowsT (fun i x => exprT T f i x (deep + 1)) T u f j 0).bind fun r j => (.ok ((atE i x).br u (r.2 : Nat) :: r.1) j : Pr (List Ex))) = .bad e j → Bd e ∧ i ≤ j ∧ j ≤ T.length := by
   intro u h
   rcases bind_bad h with h | ⟨_, _, _, h⟩
   ·rcases bind_bad h with h | ⟨_, i1, h1, h⟩
    ·obtain ⟨rfl, rfl, -⟩ := wantT_bad h; exact ⟨.inr (.inl rfl), by omega, by omega⟩
    obtain ⟨rfl, hi1⟩ := wantT_le (by decide) h1
    obtain ⟨a1, a2, a3⟩ := rows_bad (i0 := i + 1 + 1) (fun i x e j h0 hi hh => expr_bad f i x _ e j hi (by omega) hh) (fun i x N j hh => expr_lt hh) f _ _ _ _ (Nat.le_refl _) (by omega) (by omega) h
    exact ⟨a1, by omega, a3⟩
   cases h
  split at h
  ·exact hrow true h
  split at h
  ·exact hrow false h
  cases h
theorem defs_bad {T : List Tk} : ∀ (g i k e j : Nat), i ≤ T.length → T.length + 2 ≤ g + i → defsT T g i k = .bad e j → Bd e ∧ i ≤ j ∧ j ≤ T.length
 | 0, i, k, e, j, hi, hg, h => by omega
 | g + 1, i, k, e, j, hi, hg, h => by
  rw [defsT_s] at h
  split at h
  ·cases h
  rename_i hil
  split at h
  ·cases h; exact ⟨.inl rfl, Nat.le_refl _, hi⟩
  rcases bind_bad h with h | ⟨_, i1, h1, h⟩
  ·obtain ⟨rfl, rfl, -⟩ := wantT_bad h; exact ⟨.inr (.inl rfl), by omega, by omega⟩
  obtain ⟨rfl, hi1⟩ := wantT_le (by decide) h1
  rcases bind_bad h with h | ⟨s, i2, h2, h⟩
  ·obtain ⟨rfl, rfl, -⟩ := nameT_bad h; exact ⟨.inr (.inl rfl), by omega, by omega⟩
  obtain ⟨g2, -, rfl⟩ := nameT_ok h2
  have hi2 : i + 1 < T.length := by simp only [nmT, Bool.and_eq_true, decide_eq_true_eq] at g2; exact tkA_kind (by decide) g2.1
  rcases bind_bad h with h | ⟨_, i3, h3, h⟩
  ·obtain ⟨rfl, rfl, -⟩ := wantT_bad h; exact ⟨.inr (.inl rfl), by omega, by omega⟩
  obtain ⟨rfl, hi3⟩ := wantT_le (by decide) h3
  rcases bind_bad h with h | ⟨N, i4, h4, h⟩
  ·obtain ⟨a1, a2, a3⟩ := expr_bad _ _ _ _ _ _ (by omega) (by omega) h; exact ⟨a1, by omega, a3⟩
  obtain ⟨b1, b2⟩ := expr_lt h4
  rcases bind_bad h with h | ⟨_, i5, h5, h⟩
  ·obtain ⟨rfl, rfl, -⟩ := wantT_bad h; exact ⟨.inr (.inl rfl), by omega, by omega⟩
  obtain ⟨rfl, hi5⟩ := wantT_le (by decide) h5
  rcases bind_bad h with h | ⟨D, i6, h6, h⟩
  ·obtain ⟨a1, a2, a3⟩ := defs_bad g _ _ _ _ (by omega) (by omega) h; exact ⟨a1, by omega, a3⟩
  cases h


theorem parse_cases (xs : List UInt8) : ((parseA xs).2.1 ≠ 0 ∧ (parseA xs).1 = []) ∨ ((cutA xs).2 = (0, 0) ∧ ∃ D, PD (cutA xs).1 0 0 D ∧ parseA xs = (D.map (plD (cutA xs).1), 0, 0)) := by
 by_cases h0 : (parseA xs).2.1 = 0
 ·right
  unfold parseA at h0 ⊢
  split at h0
  ·rename_i h1
   split at h0
   ·rename_i D j h2
    rw [if_pos h1]
    refine ⟨Prod.ext h1 (cutA_ok h1), D, defs_pd _ _ _ _ _ (by omega) h2, ?_⟩
    first | rfl | rw [h2]
   rename_i e i h2
   have := (defs_bad _ _ _ _ _ (Nat.zero_le _) (by omega) h2).1; rcases this with rfl | rfl | rfl <;> cases h0
  rename_i h1; exact absurd h0 h1
 exact .inl ⟨h0, parseA_bad h0⟩

end Go.Proofs.YtpbflfgigfdohaaDoor

namespace Go.Proofs.YtpbflfgigfdohaaDoor
open Go Go.Vc Go.RowKit Go.Proofs

theorem tyD_at {D : List Df} {k : Nat} (hk : k < D.length) : tyD D k = D[k].ty := by simp [tyD, List.getD_eq_getElem?_getD, hk]
theorem getD_at {D : List Df} {k : Nat} (hk : k < D.length) : D.getD k df0 = D[k] := by simp [List.getD_eq_getElem?_getD, hk]
theorem DefR.atk {w : World} {D : List Df} {dv : Value} {V : Nat → Value} (h : DefR w D dv V) {k : Nat} (hk : k < D.length) : ∃ b o c, dv = .slice (some ⟨b, o, none⟩) D.length c ∧ Cells w b (o + k * 3) (dcell D[k] (V k)) ∧ Sl w 7 (V k) D[k].ty.length (exs D[k].ty) := by
 obtain ⟨b, o, c, h1, h2⟩ := h.at hk
 have h3 := h.tys k hk
 rw [getD_at hk] at h2
 rw [tyD_at hk] at h3
 exact ⟨b, o, c, h1, h2, h3⟩

end Go.Proofs.YtpbflfgigfdohaaDoor

namespace Go.Proofs.YtpbflfgigfdohaaDoor
open Go Go.Vc Go.RowKit Go.Proofs

def drowsK (D : List Df) (V : Nat → Value) (k : Nat) : List Value := (List.range k).flatMap fun j => dcell (D.getD j df0) (V j)
theorem drowsK_succ (D : List Df) (V : Nat → Value) {k : Nat} (v : Value) : drowsK D (fun j => if j = k then v else V j) (k + 1) = drowsK D V k ++ dcell (D.getD k df0) v := by
 rw [drowsK, List.range_succ, List.flatMap_append, List.flatMap_singleton, if_pos rfl]
 congr 1
 refine dfm_congr fun j hj => ?_
 have hj := List.mem_range.1 hj
 rw [if_neg (by omega)]
/-- sizes that a machine can hold -/
structure DOk (D : List Df) : Prop where
 len : D.length * 48 ≤ 140737488351232
 ty : ∀ d ∈ D, d.ty.length * 72 ≤ 140737488351232
 nm : ∀ d ∈ D, d.name.length ≤ 9223372036854775807
 ex : ∀ d ∈ D, ∀ x ∈ d.ty, x.name.length ≤ 9223372036854775807 ∧ x.label.length ≤ 9223372036854775807
theorem DOk.lim {D : List Df} (h : DOk D) : DLim D := fun d hd => ⟨h.nm d hd, by have := h.ty d hd; omega, h.ex d hd⟩
theorem one_exs (L : List Ex) : ∀ a ∈ exs L, a.oneCell' = true := by
 intro a ha
 obtain ⟨x, -, hx⟩ := List.mem_flatMap.1 ha
 have : ∀ a ∈ exV x, a.oneCell' = true := by simp [exV, Value.oneCell', st]
 exact this a hx
end Go.Proofs.YtpbflfgigfdohaaDoor

namespace Go.Vc
open Go Go.RowKit Go.ChangeShapes Go.WideShapes

theorem addr_add (a : Addr) (m k : Nat) : (a.add m).add k = a.add (m + k) := by
 unfold Addr.add
 by_cases hm : m = 0 <;> by_cases hk : k = 0 <;> simp [hm, hk, Nat.add_assoc]

theorem list_of {α : Type} (p : Nat → α → Prop) : ∀ n, (∀ i, i < n → ∃ o, p i o) → ∃ os : List α, os.length = n ∧ ∀ i (h : i < os.length), p i os[i]
 | 0, _ => ⟨[], rfl, fun i h => by simp at h⟩
 | n + 1, h => by
  obtain ⟨os, h1, h2⟩ := list_of p n (fun i hi => h i (by omega))
  obtain ⟨o, ho⟩ := h n (by omega)
  refine ⟨os ++ [o], by simp [h1], fun i hi => ?_⟩
  by_cases e : i < os.length
  ·rw [List.getElem_append_left e]; exact h2 i e
  simp at hi
  have e2 : i = n := by omega
  subst e2
  rw [List.getElem_append_right (by omega)]
  simpa [h1] using ho
theorem flatMap_get {α : Type} {cells : α → List Value} {s : Nat} (hlen : ∀ o, (cells o).length = s) : ∀ (os : List α) (idx : Nat) (v : Value), (os.flatMap cells)[idx]? = some v → ∃ i j, ∃ h : i < os.length, idx = i * s + j ∧ (cells os[i])[j]? = some v
 | [], idx, v, h => by simp at h
 | o :: os, idx, v, h => by
  rw [List.flatMap_cons] at h
  by_cases e : idx < s
  ·rw [List.getElem?_append_left (by rw [hlen]; exact e)] at h
   exact ⟨0, idx, by simp, by omega, h⟩
  rw [List.getElem?_append_right (by rw [hlen]; omega), hlen] at h
  obtain ⟨i, j, hi, h1, h2⟩ := flatMap_get hlen os (idx - s) v h
  refine ⟨i + 1, j, by simp; omega, ?_, by simpa using h2⟩
  rw [Nat.add_mul]; omega
section
variable {H : Type} {enc : TypeId × Value → H} {P : Program} {W : World} {held : Bool}
theorem open_struct_len {t : TypeId} {fs : Array Field} {s : Nat} (hu : P.underlying t = some (.struct fs)) (hs : P.cellsOf t = s) {fuel : Nat} {cs : List Value} {x : DataW H × List MemPlace} (h : DataW.trod enc P W 0 (fun _ => true) held fuel t cs = some x) : cs.length = s := by
 obtain ⟨xs, n, -, -, h1, -⟩ := DataW.trod_struct hu h
 rw [h1, hs]
end
end Go.Vc

namespace Go.Proofs.YtpbflfgigfdohaaDoor
open Go Go.Vc Go.RowKit Go.Proofs

theorem seven_cells {cs : List Value} (h : cs.length = 7) : ∃ a b c d e f g, cs = [a, b, c, d, e, f, g] := by
 match cs, h with
 | [a, b, c, d, e, f, g], _ => exact ⟨a, b, c, d, e, f, g, rfl⟩
theorem three_cells {cs : List Value} (h : cs.length = 3) : ∃ a b c, cs = [a, b, c] := by
 match cs, h with
 | [a, b, c], _ => exact ⟨a, b, c, rfl⟩
theorem str_list {s : ByteArray} : Value.string s = st s.data.toList := by
 cases s; simp [st]
theorem size_list {s : ByteArray} (h : s.size ≤ maxLen) : s.data.toList.length ≤ 9223372036854775807 := by
 rw [maxLen_eq] at h; simpa using h
def ExOk (x : Ex) : Prop := x.name.length ≤ 9223372036854775807 ∧ x.label.length ≤ 9223372036854775807
section
variable {H : Type} {enc : TypeId × Value → H} {W : World} {held : Bool}
abbrev DfV := Df × Value
def dfV (o : DfV) : List Value := dcell o.1 o.2
end
end Go.Proofs.YtpbflfgigfdohaaDoor

namespace Go.Proofs.YtpbflfgigfdohaaDoor
open Go Go.Vc Go.RowKit Go.Proofs

/-- lengths -/
theorem Rise.len {L : List Ex} : ∀ {a b : Int}, Rise a L b → (L.length : Int) ≤ b - a := by
 induction L with
 | nil => intro a b h; have : a ≤ b := h; simp; omega
 | cons y l ih => intro a b h; have h1 := ih h.2; have h2 := h.1; rw [List.length_cons]; omega
theorem px_lim {T : List Tk} {B : Nat} (hT : ∀ i, (tkA T i).text.length ≤ B) {r : Option (Bool × Nat)} {deep i : Nat} {x : Ex} {N : List Ex} {n j : Nat} (h : PX T r deep i x N n j) : x.name.length ≤ B → x.label.length ≤ B → ∀ y ∈ N, y.name.length ≤ B ∧ y.label.length ≤ B := by
 have ha : ∀ {i x}, (atE i x).name = x.name ∧ (atE i x).label = x.label := fun {i x} => by unfold atE; split <;> exact ⟨rfl, rfl⟩
 have hh : ∀ {u i}, (hdE T u i).name.length ≤ B ∧ (hdE T u i).label.length ≤ B := fun {u i} => by
  cases u
  ·exact ⟨Nat.zero_le _, hT i⟩
  exact ⟨Nat.zero_le _, Nat.zero_le _⟩
 induction h with
 | leaf => intro h1 h2 y hy; rw [List.mem_singleton] at hy; subst hy; exact ⟨by show (atE _ _).name.length ≤ B; rw [ha.1]; exact h1, by show (atE _ _).label.length ≤ B; rw [ha.2]; exact h2⟩
 | nm => intro h1 h2 y hy; rw [List.mem_singleton] at hy; subst hy; exact ⟨hT _, by show (atE _ _).label.length ≤ B; rw [ha.2]; exact h2⟩
 | vec hb hd hl hv h1 hN h2 h3 h4 ih =>
  intro g1 g2 y hy
  rcases List.mem_cons.1 hy with rfl | hy
  ·exact ⟨by show (atE _ _).name.length ≤ B; rw [ha.1]; exact g1, by show (atE _ _).label.length ≤ B; rw [ha.2]; exact g2⟩
  exact ih (Nat.zero_le _) (Nat.zero_le _) y hy
 | opt hb hd hl ho h1 hN h2 ih =>
  intro g1 g2 y hy
  rcases List.mem_cons.1 hy with rfl | hy
  ·exact ⟨by show (atE _ _).name.length ≤ B; rw [ha.1]; exact g1, by show (atE _ _).label.length ≤ B; rw [ha.2]; exact g2⟩
  exact ih (Nat.zero_le _) (Nat.zero_le _) y hy
 | br u hb hd hl hw h1 hM ih =>
  intro g1 g2 y hy
  rcases List.mem_cons.1 hy with rfl | hy
  ·exact ⟨by show (atE _ _).name.length ≤ B; rw [ha.1]; exact g1, by show (atE _ _).label.length ≤ B; rw [ha.2]; exact g2⟩
  exact ih (Nat.zero_le _) (Nat.zero_le _) y hy
 | last hk hd hc hN hm hr ih => intro _ _; exact ih hh.1 hh.2
 | more hk hd hc hN hm hR ih1 ih2 =>
  intro _ _ y hy
  rcases List.mem_append.1 hy with hy | hy
  ·exact ih1 hh.1 hh.2 y hy
  exact ih2 (Nat.zero_le _) (Nat.zero_le _) y hy
theorem pd_lim {T : List Tk} {B : Nat} (hT : ∀ i, (tkA T i).text.length ≤ B) {i k : Nat} {D : List Df} (h : PD T i k D) : ∀ d ∈ D, d.name.length ≤ B ∧ d.ty.length ≤ T.length ∧ ∀ y ∈ d.ty, y.name.length ≤ B ∧ y.label.length ≤ B := by
 induction h with
 | nil => intro d hd; cases hd
 | @cons i k j N D hk h0 h1 h2 hN h3 hD ih =>
  intro d hd
  rcases List.mem_cons.1 hd with rfl | hd
  ·obtain ⟨q1, q2, q3⟩ := px_rise hN
   obtain ⟨r1, r2⟩ := q3 (.inl ⟨by decide, rfl⟩)
   rw [if_pos (by decide)] at r1
   have := r1.len
   exact ⟨hT _, by show N.length ≤ _; omega, px_lim hT hN (Nat.zero_le _) (Nat.zero_le _)⟩
  exact ih d hd
/-- what Parse answers is of a size that a machine can hold -/
theorem parse_ok (xs : List UInt8) : DOk (parseA xs).1 := by
 rcases parse_cases xs with ⟨-, h⟩ | ⟨-, D, hp, h⟩
 ·rw [h]
  exact ⟨by decide, fun d hd => (by cases hd), fun d hd => (by cases hd), fun d hd => (by cases hd)⟩
 have hc := cutA_len xs
 have hT : ∀ i, (tkA (cutA xs).1 i).text.length ≤ 65536 := fun i => by
  by_cases hi : i < (cutA xs).1.length
  ·rw [tkA_lt hi]; exact hc.2 _ (List.getElem_mem hi)
  rw [tkA_ge (by omega)]; exact Nat.zero_le _
 have hl := pd_lim hT hp
 have hn := (pd_chk (cut_small xs) hp).2
 rw [h]
 refine ⟨by rw [List.length_map]; omega, ?_, ?_, ?_⟩
 ·intro d hd
  obtain ⟨d0, h0, rfl⟩ := List.mem_map.1 hd
  have := (hl d0 h0).2.1
  show (d0.ty.map _).length * 72 ≤ _
  rw [List.length_map]; omega
 ·intro d hd
  obtain ⟨d0, h0, rfl⟩ := List.mem_map.1 hd
  have := (hl d0 h0).1
  show d0.name.length ≤ _
  omega
 intro d hd x hx
 obtain ⟨d0, h0, rfl⟩ := List.mem_map.1 hd
 obtain ⟨x0, hx0, rfl⟩ := List.mem_map.1 (show x ∈ d0.ty.map _ from hx)
 have := (hl d0 h0).2.2 x0 hx0
 rw [name_pl, label_pl]
 omega
end Go.Proofs.YtpbflfgigfdohaaDoor

namespace Go.Proofs.YtpbflfgigfdohaaDoor
open Go Go.Vc Go.RowKit Go.Proofs
/-- the same, further behind -/
def shiftT (k : Nat) (t : Tk) : Tk := ⟨t.kind, t.text, t.n, k + t.at_, k + t.fin⟩
theorem runL_shift (p : UInt8 → Bool) (xs : List UInt8) (k j : Nat) : runL p xs (k + j) = k + runL p (xs.drop k) j := by
 unfold runL
 rw [List.drop_drop]; omega
theorem sub_shift (xs : List UInt8) (k l h : Nat) : sub xs (k + l) (k + h) = sub (xs.drop k) l h := by
 unfold sub
 rw [← List.drop_drop, List.drop_take, Nat.add_sub_cancel_left]
theorem oneL_shift (xs : List UInt8) (k j : Nat) (h : k + j < xs.length) (h' : j < (xs.drop k).length) : (oneL xs (k + j) h).1 = (oneL (xs.drop k) j h').1 ∧ ((oneL (xs.drop k) j h').1 = 0 → (oneL xs (k + j) h).2 = shiftT k (oneL (xs.drop k) j h').2) := by
 have he : (xs.drop k)[j] = xs[k + j] := by simp
 unfold oneL
 rw [he]
 by_cases h1 : letB xs[k + j] = true
 ·rw [if_pos h1, if_pos h1, runL_shift, sub_shift]
  by_cases h2 : 32 < k + runL goeB (xs.drop k) j - (k + j)
  ·rw [if_pos h2, if_pos (by omega)]; exact ⟨rfl, fun h => by simp at h⟩
  rw [if_neg h2, if_neg (by omega)]; exact ⟨rfl, fun _ => rfl⟩
 rw [if_neg h1, if_neg h1]
 by_cases h2 : digB xs[k + j] = true
 ·rw [if_pos h2, if_pos h2, runL_shift, sub_shift]; exact ⟨rfl, fun _ => rfl⟩
 rw [if_neg h2, if_neg h2]
 by_cases h3 : markB xs[k + j] = true
 ·rw [if_pos h3, if_pos h3, Nat.add_assoc, sub_shift]; exact ⟨rfl, fun _ => rfl⟩
 rw [if_neg h3, if_neg h3]; exact ⟨rfl, fun h => by simp at h⟩


theorem ca_ok {xs : List UInt8} (hl : xs.length ≤ 65536) (h : (cutL xs 0).2.1 = 0) : cutA xs = cutL xs 0 := by unfold cutA; rw [if_neg (by omega), if_pos h]
end Go.Proofs.YtpbflfgigfdohaaDoor

namespace Go.Proofs.YtpbflfgigfdohaaDoor
open Go Go.Vc Go.RowKit Go.Proofs

def bareE (x : Ex) : Ex := { x with at_ := 0 }
def bareD (d : Df) : Df := ⟨d.name, 0, d.ty.map bareE⟩
theorem parseA_ok {xs : List UInt8} (h : (cutA xs).2.1 = 0) {D : List Df} {j : Nat} (hd : defsT (cutA xs).1 ((cutA xs).1.length + 2) 0 0 = .ok D j) : parseA xs = (D.map (plD (cutA xs).1), 0, 0) := by
 unfold parseA; rw [if_pos h, hd]
end Go.Proofs.YtpbflfgigfdohaaDoor

namespace Go.Proofs.YtpbflfgigfdohaaDoor
open Go Go.Vc Go.RowKit Go.Proofs
/-- blanks and remarks; does a remark stand open at the end? -/
def gapS : Bool → List UInt8 → Option Bool
 | rm, [] => some rm
 | true, c :: cs => gapS (!decide (c.toNat = 10)) cs
 | false, c :: cs => if c.toNat = 35 then gapS true cs else if blankB c then gapS false cs else none
theorem gap_skip (xs : List UInt8) (m : Nat) (hm : m ≤ xs.length) (j : Nat) (hj : j ≤ m) (rm : Bool) (h : gapS rm ((xs.take m).drop j) = some false) : cutL xs (if rm then runL nnlB xs j else j) = cutL xs m := by
 by_cases hl : j < m
 ·have h3 : j < (xs.take m).length := by simp; omega
  have hx : j < xs.length := by omega
  have hd : (xs.take m).drop j = xs[j] :: (xs.take m).drop (j + 1) := by
   rw [← List.getElem_cons_drop h3]; simp
  have hc := cutL_eq xs j
  rw [dif_pos hx] at hc
  rw [hd] at h
  cases rm with
  | true =>
   rw [gapS] at h
   by_cases h10 : (xs[j]).toNat = 10
   ·simp [h10] at h
    have ih := gap_skip xs m hm (j + 1) (by omega) false h
    rw [if_pos rfl, runL_stop hx (by simp [nnlB, h10]), hc, if_neg (by omega), if_pos (by simp [blankB, h10])]
    exact ih
   simp [h10] at h
   have ih := gap_skip xs m hm (j + 1) (by omega) true h
   rw [if_pos rfl, runL_go hx (by simp [nnlB, h10])]
   exact ih
  | false =>
   rw [gapS] at h
   rw [if_neg (by decide), hc]
   by_cases h35 : (xs[j]).toNat = 35
   ·rw [if_pos h35] at h ⊢
    exact gap_skip xs m hm (j + 1) (by omega) true h
   rw [if_neg h35] at h ⊢
   by_cases hb : blankB xs[j] = true
   ·rw [if_pos hb] at h ⊢
    exact gap_skip xs m hm (j + 1) (by omega) false h
   rw [if_neg hb] at h; cases h
 have : j = m := by omega
 subst this
 rw [List.drop_eq_nil_of_le (by simp; omega)] at h
 cases rm with
 | true => cases h
 | false => rfl
termination_by m - j
theorem take_get {xs zs : List UInt8} {a k : Nat} (hp : zs.take a = xs.take a) (hk : k < a) (hx : k < xs.length) (hz : k < zs.length) : zs[k] = xs[k] := by
 have h1 : (zs.take a)[k]? = (xs.take a)[k]? := by rw [hp]
 simpa [List.getElem?_take, hk, hx, hz] using h1
theorem runL_front {p : UInt8 → Bool} {xs zs : List UInt8} {a : Nat} (hp : zs.take a = xs.take a) (hx : a ≤ xs.length) (hz : a ≤ zs.length) (k : Nat) (hk : k ≤ a) (hr : runL p xs k ≤ a)
  (hs : zs.length = a ∨ (∃ h : a < zs.length, p zs[a] = false) ∨ runL p xs k < a) : runL p zs k = runL p xs k := by
 by_cases hka : k < a
 ·have he := take_get hp hka (by omega) (by omega)
  cases hc : p xs[k] with
  | true =>
   rw [runL_go (by omega) hc] at hr hs ⊢
   rw [runL_go (xs := zs) (by omega) (by rw [he]; exact hc)]
   exact runL_front hp hx hz (k + 1) (by omega) hr hs
  | false => rw [runL_stop (xs := xs) (by omega) hc, runL_stop (xs := zs) (by omega) (by rw [he]; exact hc)]
 have hka : k = a := by omega
 subst hka
 have h1 := (runL_le (p := p) hx).1
 have h2 : runL p xs k = k := by omega
 rw [h2]
 rcases hs with hs | ⟨h, hs⟩ | hs
 ·exact runL_end (by omega)
 ·exact runL_stop h hs
 omega
termination_by a - k
theorem sub_front {xs zs : List UInt8} {a : Nat} (hp : zs.take a = xs.take a) (l h : Nat) (hh : h ≤ a) : sub zs l h = sub xs l h := by
 unfold sub
 have : ∀ ys : List UInt8, ys.take h = (ys.take a).take h := fun ys => by rw [List.take_take, Nat.min_eq_left hh]
 rw [this zs, this xs, hp]
theorem oneL_front {xs zs : List UInt8} {a : Nat} (hp : zs.take a = xs.take a) (hx : a ≤ xs.length) (hz : a ≤ zs.length) (hs : zs.length = a ∨ ∃ h : a < zs.length, goeB zs[a] = false) (k : Nat) (hk : k < a) (hk1 : k < xs.length) (hk2 : k < zs.length)
  (h0 : (oneL xs k hk1).1 = 0) (hf : (oneL xs k hk1).2.fin ≤ a) : oneL zs k hk2 = oneL xs k hk1 := by
 have he := take_get hp hk hk1 hk2
 have st : ∀ p : UInt8 → Bool, (∀ c : UInt8, goeB c = false → p c = false) → runL p xs k ≤ a → runL p zs k = runL p xs k := fun p hp32 hr =>
  runL_front hp hx hz k (by omega) hr (by rcases hs with hs | ⟨h, hs⟩; exact .inl hs; exact .inr (.inl ⟨h, hp32 _ hs⟩))
 unfold oneL at h0 hf ⊢
 rw [he]
 by_cases h1 : letB xs[k] = true
 ·rw [if_pos h1] at h0 hf ⊢
  rw [if_pos h1]
  have hr : runL goeB xs k ≤ a := by split at hf <;> exact hf
  have hg := st goeB (fun _ h => h) hr
  rw [hg, sub_front hp _ _ hr]
 rw [if_neg h1] at h0 hf ⊢
 rw [if_neg h1]
 by_cases h2 : digB xs[k] = true
 ·rw [if_pos h2] at h0 hf ⊢
  rw [if_pos h2]
  have hr : runL digB xs k ≤ a := hf
  have hg := st digB (by intro c hc; simp [goeB] at hc; exact hc.1.2) hr
  rw [hg, sub_front hp _ _ hr]
 rw [if_neg h2] at h0 hf ⊢
 rw [if_neg h2]
 by_cases h3 : markB xs[k] = true
 ·rw [if_pos h3] at h0 hf ⊢
  rw [if_pos h3]
  have hr : k + 1 ≤ a := hf
  rw [sub_front hp _ _ hr]
 rw [if_neg h3] at h0; simp at h0


theorem oneL_in {xs : List UInt8} {k : Nat} {h : k < xs.length} (he : (oneL xs k h).1 = 0) : blankB xs[k] = false ∧ ¬ (xs[k]).toNat = 35 := by
 have h3 : letB xs[k] = true ∨ digB xs[k] = true ∨ markB xs[k] = true := by
  unfold oneL at he
  by_cases h1 : letB xs[k] = true
  ·exact .inl h1
  by_cases h2 : digB xs[k] = true
  ·exact .inr (.inl h2)
  by_cases h3 : markB xs[k] = true
  ·exact .inr (.inr h3)
  rw [if_neg h1, if_neg h2, if_neg h3] at he; cases he
 generalize xs[k] = c at h3
 rw [mark_or] at h3
 simp only [letB, digB, blankB, Bool.and_eq_true, Bool.or_eq_true, decide_eq_true_eq, Bool.or_eq_false_iff, decide_eq_false_iff_not] at h3 ⊢
 omega
/-- blanks, then a token's bytes: cut asx the token -/
theorem put_step (B F T Z : List UInt8) (t' : Tk) (hT : 0 < T.length) (h1 : gapS false F = some false) (hfr : ∀ h, oneL (T ++ Z) 0 h = (0, t')) (hf : t'.fin = T.length) :
  cutL (B ++ F ++ T ++ Z) B.length = (⟨t'.kind, t'.text, t'.n, B.length + F.length + t'.at_, B.length + F.length + T.length⟩ :: (cutL (B ++ F ++ T ++ Z) (B ++ F ++ T).length).1, (cutL (B ++ F ++ T ++ Z) (B ++ F ++ T).length).2) := by
 generalize hX : B ++ F ++ T ++ Z = X
 have hXl : X.length = B.length + F.length + T.length + Z.length := by subst hX; simp; omega
 have e1 : (X.take (B.length + F.length)).drop B.length = F := by
  subst hX
  rw [show B ++ F ++ T ++ Z = (B ++ F) ++ (T ++ Z) by simp, ← List.length_append, List.take_left, List.drop_left]
 have s1 := gap_skip X (B.length + F.length) (by omega) B.length (by omega) false (by rw [e1]; exact h1)
 rw [if_neg (by decide)] at s1
 have hdr : X.drop (B.length + F.length) = T ++ Z := by
  subst hX
  rw [show B ++ F ++ T ++ Z = (B ++ F) ++ (T ++ Z) by simp, ← List.length_append, List.drop_left]
 have hp : B.length + F.length + 0 < X.length := by omega
 have hq : 0 < (X.drop (B.length + F.length)).length := by simp; omega
 have hsh := oneL_shift X (B.length + F.length) 0 hp hq
 have hq2 : oneL (X.drop (B.length + F.length)) 0 hq = (0, t') := by
  have : ∀ (Y : List UInt8) (h : 0 < Y.length), Y = T ++ Z → oneL Y 0 h = (0, t') := by rintro Y h rfl; exact hfr h
  exact this _ _ hdr
 rw [hq2] at hsh
 have hs2 := hsh.2 rfl
 have hone : oneL X (B.length + F.length) (by omega) = (0, shiftT (B.length + F.length) t') := Prod.ext hsh.1 hs2
 obtain ⟨hbl, h35⟩ := oneL_in (by rw [hone])
 have hc := cutL_eq X (B.length + F.length)
 rw [dif_pos (by omega), if_neg h35, if_neg (by simp [hbl]), dif_pos (by rw [hone]), hone] at hc
 have hfin : (shiftT (B.length + F.length) t').fin = B.length + F.length + T.length := by show B.length + F.length + t'.fin = _; rw [hf]
 simp only [hfin] at hc
 rw [s1, hc, show (B ++ F ++ T).length = B.length + F.length + T.length by simp; omega]
 congr 1
 show Tk.mk _ _ _ _ _ :: _ = _
 congr 2
def Stops (Z : List UInt8) : Prop := Z = [] ∨ ∃ c cs, Z = c :: cs ∧ goeB c = false
theorem tok_front {T Z : List UInt8} {t' : Tk} {hT : 0 < T.length} (ho : oneL T 0 hT = (0, t')) (hf : t'.fin = T.length) (hZ : Stops Z) : ∀ h, oneL (T ++ Z) 0 h = (0, t') := by
 intro h
 have := oneL_front (xs := T) (zs := T ++ Z) (a := T.length) (by rw [List.take_left, List.take_length]) (Nat.le_refl _) (by simp) (by
  rcases hZ with rfl | ⟨c, cs, rfl, hg⟩
  ·exact .inl (by simp)
  exact .inr ⟨by simp, by simp [hg]⟩) 0 hT hT h (by rw [ho]) (by rw [ho]; exact Nat.le_of_eq hf)
 rw [this, ho]
def tkey (t : Tk) : Nat × List UInt8 × Nat := (t.kind, t.text, t.n)
end Go.Proofs.YtpbflfgigfdohaaDoor

namespace Go.Proofs.YtpbflfgigfdohaaDoor
open Go Go.Vc Go.RowKit Go.Proofs

mutual
inductive Tr where
 | node (y : Ex) (ks : Trs)
inductive Trs where
 | nil
 | cons (t : Tr) (ts : Trs)
end
def Tr.top : Tr → Ex
 | .node y _ => y
def Trs.len : Trs → Nat
 | .nil => 0
 | .cons _ ts => ts.len + 1
mutual
def Tr.flat : Tr → List Ex
 | .node y ks => y :: ks.flat
def Trs.flat : Trs → List Ex
 | .nil => []
 | .cons t ts => t.flat ++ ts.flat
end
mutual
def Tr.wf (above : Int) (deep : Nat) : Tr → Prop
 | .node y ks => deep ≤ 16 ∧ manyB y = false ∧ rightB y above = true ∧ (ks.len : Int) = y.kids ∧ ks.wf y.kind (deep + 1)
def Trs.wf (above : Int) (deep : Nat) : Trs → Prop
 | .nil => True
 | .cons t ts => t.wf above deep ∧ ts.wf above deep
end
theorem chk_tr : ∀ (n : Nat) (L : List Ex), L.length ≤ n → ∀ (o : Opn) (S : List Opn) (k deep : Nat), 0 < o.left → o.deep = (deep : Int) → (chkE (o :: S) k L).2 = 0 →
  ∃ t rest, L = Tr.flat t ++ rest ∧ t.wf o.kind deep ∧ (chkE ({ o with left := o.left - 1 } :: S) (k + (Tr.flat t).length) rest).2 = 0 := by
 intro n
 induction n with
 | zero =>
  intro L hL o S k deep hl hd h
  have : L = [] := List.eq_nil_of_length_eq_zero (by omega)
  subst this
  rw [chkE_nil, if_pos (by simp [leftB, hl])] at h
  cases h
 | succ n ih =>
  intro L hL o S k deep hl hd h
  cases L with
  | nil =>
   rw [chkE_nil, if_pos (by simp [leftB, hl])] at h
   cases h
  | cons x xs =>
   rw [chkE_o (popZ_n (by omega))] at h
   by_cases h16 : 16 < o.deep
   ·rw [if_pos h16] at h; cases h
   rw [if_neg h16] at h
   by_cases hm : manyB x = true
   ·rw [if_pos hm] at h; cases h
   rw [if_neg hm] at h
   by_cases hr : rightB x o.kind = false
   ·rw [if_pos hr] at h; cases h
   rw [if_neg hr] at h
   have hm : manyB x = false := by simpa using hm
   have hr : rightB x o.kind = true := by simpa using hr
   obtain ⟨hk0, hk1⟩ := rightB_kids hr hm
   -- the kids
   have many : ∀ (m : Nat) (M : List Ex), M.length ≤ n → ∀ (o2 : Opn) (S2 : List Opn) (k2 : Nat), o2.left = (m : Int) → o2.deep = ((deep + 1 : Nat) : Int) → (chkE (o2 :: S2) k2 M).2 = 0 →
     ∃ ts rest, M = Trs.flat ts ++ rest ∧ ts.wf o2.kind (deep + 1) ∧ ts.len = m ∧ (chkE ({ o2 with left := 0 } :: S2) (k2 + (Trs.flat ts).length) rest).2 = 0 := by
    intro m
    induction m with
    | zero =>
     intro M hM o2 S2 k2 h1 h2 h3
     refine ⟨.nil, M, rfl, trivial, rfl, ?_⟩
     have : ({ o2 with left := 0 } : Opn) = o2 := by obtain ⟨a, b, c⟩ := o2; simp only at h1; simp [h1]
     rw [this]; exact h3
    | succ m ihm =>
     intro M hM o2 S2 k2 h1 h2 h3
     obtain ⟨t, rest, rfl, g2, g3⟩ := ih M hM o2 S2 k2 (deep + 1) (by omega) h2 h3
     have hlen : rest.length ≤ n := by rw [List.length_append] at hM; omega
     obtain ⟨ts, rest2, rfl, e2, e3, e4⟩ := ihm rest hlen { o2 with left := o2.left - 1 } S2 _ (by simp only; omega) h2 g3
     exact ⟨.cons t ts, rest2, by simp [Trs.flat], ⟨g2, e2⟩, by simp only [Trs.len, e3], by simp only [Trs.flat, List.length_append]; rw [← Nat.add_assoc]; exact e4⟩
   obtain ⟨ts, rest, rfl, e2, e3, e4⟩ := many x.kids.toNat xs (by simpa using hL) ⟨x.kind, x.kids, o.deep + 1⟩ _ _ (by simp only; omega) (by simp only; omega) h
   refine ⟨.node x ts, rest, by simp [Tr.flat], ⟨by omega, hm, hr, by omega, e2⟩, ?_⟩
   rw [chkE_pz0] at e4
   simp only [Tr.flat, List.length_cons]
   rw [show k + ((Trs.flat ts).length + 1) = k + 1 + (Trs.flat ts).length by omega]
   exact e4
/-- what Check takes is a tree -/
theorem chkT_tr {l : List Ex} (h : (chkT l).2 = 0) : ∃ t : Tr, l = t.flat ∧ t.wf 0 0 := by
 obtain ⟨t, rest, h1, h2, h3⟩ := chk_tr l.length l (Nat.le_refl _) ⟨0, 1, 0⟩ [] 0 0 (by decide) rfl h
 have hr : rest = [] := by
  cases rest with
  | nil => rfl
  | cons x xs =>
   rw [chkE_z (by simp [popZ])] at h3
   cases h3
 subst hr
 exact ⟨t, by rw [h1, List.append_nil], h2⟩
abbrev Key := Nat × List UInt8 × Nat
def kN (s : List UInt8) : Key := (1, s, 0)
def kM (s : List UInt8) : Key := (3, s, 0)
def kD (n : Nat) : Key := (2, [], n)
def uWord (n : Int) : List UInt8 := if n = 1 then [117, 56] else if n = 2 then [117, 49, 54] else if n = 4 then [117, 51, 50] else [117, 54, 52]
def hdK (u : Bool) (y : Ex) : List Key := [if u then kD y.tag.toNat else kN y.label, kM [58]]
mutual
def Tr.keys : Tr → List Key
 | .node y ks =>
  if y.kind = 1 then [kN (uWord y.n)]
  else if y.kind = 2 then [kN [98, 111, 111, 108]]
  else if y.kind = 3 then [kN [118, 97, 114, 105, 110, 116]]
  else if y.kind = 9 then [kN y.name]
  else if y.kind = 4 ∨ y.kind = 5 then kN (if y.kind = 5 then [108, 105, 115, 116] else [118, 101, 99, 116, 111, 114]) :: kM [60] :: (ks.keys ++ [kM [44], kD y.n.toNat, kM [62]])
  else if y.kind = 6 then kN [111, 112, 116, 105, 111, 110] :: kM [60] :: (ks.keys ++ [kM [62]])
  else kN (if y.kind = 7 then [117, 110, 105, 111, 110] else [115, 116, 114, 117, 99, 116]) :: kM [123] :: (ks.rows (decide (y.kind = 7)) ++ [kM [125]])
/-- of types one behind the other -/
def Trs.keys : Trs → List Key
 | .nil => []
 | .cons t ts => t.keys ++ ts.keys
/-- of rows, a comma ahead of each but the first -/
def Trs.rows (u : Bool) : Trs → List Key
 | .nil => []
 | .cons t ts => hdK u t.top ++ t.keys ++ ts.more u
def Trs.more (u : Bool) : Trs → List Key
 | .nil => []
 | .cons t ts => kM [44] :: (hdK u t.top ++ t.keys ++ ts.more u)
end

end Go.Proofs.YtpbflfgigfdohaaDoor

namespace Go.Proofs.YtpbflfgigfdohaaDoor
open Go Go.Vc Go.RowKit Go.Proofs

mutual
def Tr.idx (i a : Nat) : Tr → List Ex
 | .node y ks => { y with at_ := (a : Int) } :: (if y.kind = 7 ∨ y.kind = 8 then ks.idxR (i + 2) else ks.idxK (i + 2))
def Trs.idxK (i : Nat) : Trs → List Ex
 | .nil => []
 | .cons t ts => t.idx i i ++ ts.idxK (i + t.keys.length)
def Trs.idxR (i : Nat) : Trs → List Ex
 | .nil => []
 | .cons t ts => t.idx (i + 2) i ++ ts.idxR (i + 2 + t.keys.length + 1)
end
def AtK (T : List Tk) (i : Nat) (ks : List Key) : Prop := ∀ k (h : k < ks.length), tkey (tkA T (i + k)) = ks[k]
theorem AtK.cons {T : List Tk} {i : Nat} {a : Key} {ks : List Key} (h : AtK T i (a :: ks)) : tkey (tkA T i) = a ∧ AtK T (i + 1) ks :=
 ⟨h 0 (by simp), fun k hk => by have := h (k + 1) (by simpa using hk); rw [show i + 1 + k = i + (k + 1) by omega]; exact this⟩
theorem AtK.app {T : List Tk} {i : Nat} {a b : List Key} (h : AtK T i (a ++ b)) : AtK T i a ∧ AtK T (i + a.length) b :=
 ⟨fun k hk => by have := h k (by rw [List.length_append]; omega); rw [this, List.getElem_append_left hk], fun k hk => by
  have := h (a.length + k) (by rw [List.length_append]; omega)
  rw [Nat.add_assoc, this, List.getElem_append_right (by omega)]; simp⟩
theorem key_N {t : Tk} {s : List UInt8} (h : tkey t = kN s) : t.kind = 1 ∧ t.text = s ∧ t.n = 0 := by
 simp only [tkey, kN, Prod.mk.injEq] at h; exact h
theorem key_M {t : Tk} {s : List UInt8} (h : tkey t = kM s) : isT t 3 s = true := by
 simp only [tkey, kM, Prod.mk.injEq] at h; simp [isT, h.1, h.2.1]
theorem key_D {t : Tk} {n : Nat} (h : tkey t = kD n) : t.kind = 2 ∧ t.n = n := by
 simp only [tkey, kD, Prod.mk.injEq] at h; exact ⟨h.1, h.2.2⟩
theorem more_rows {u : Bool} {t : Tr} {ts : Trs} : (Trs.cons t ts).more u = kM [44] :: (Trs.cons t ts).rows u := rfl
theorem name_not {s : List UInt8} (h : nameB s = true) : leafE s = none ∧ ¬ (s = [118, 101, 99, 116, 111, 114] ∨ s = [108, 105, 115, 116]) ∧ ¬ s = [111, 112, 116, 105, 111, 110] ∧ ¬ s = [117, 110, 105, 111, 110] ∧ ¬ s = [115, 116, 114, 117, 99, 116] := by
 have h2 : ∀ x ∈ words, ¬ s = x := fun x hx he => by
  subst he
  have : wordB s = true := decide_eq_true hx
  simp [nameB, this] at h
 refine ⟨?_, ?_, h2 _ (by decide), h2 _ (by decide), h2 _ (by decide)⟩
 ·unfold leafE
  rw [if_neg (h2 _ (by decide)), if_neg (h2 _ (by decide)), if_neg (h2 _ (by decide)), if_neg (h2 _ (by decide)), if_neg (h2 _ (by decide)), if_neg (h2 _ (by decide))]
 exact fun h => h.elim (h2 _ (by decide)) (h2 _ (by decide))
theorem okB_cases {x : Ex} (h : okB x = true) : (x.kind = 1 ∧ (x.n = 1 ∨ x.n = 2 ∨ x.n = 4 ∨ x.n = 8) ∧ x.kids = 0) ∨ ((x.kind = 2 ∨ x.kind = 3 ∨ x.kind = 9) ∧ x.n = 0 ∧ x.kids = 0) ∨ ((x.kind = 4 ∨ x.kind = 5) ∧ 0 ≤ x.n ∧ x.n ≤ 2147483647 ∧ x.kids = 1) ∨ (x.kind = 6 ∧ x.n = 0 ∧ x.kids = 1) ∨ ((x.kind = 7 ∨ x.kind = 8) ∧ x.n = 0 ∧ 1 ≤ x.kids) := by
 unfold okB at h
 repeat' split at h
 all_goals first | (cases h; done) | (simp only [Bool.and_eq_true, Bool.or_eq_true, decide_eq_true_eq] at h; omega)
theorem trs_one {ts : Trs} (h : ts.len = 1) : ∃ t, ts = .cons t .nil := by
 cases ts with
 | nil => cases h
 | cons t ts => cases ts with
  | nil => exact ⟨t, rfl⟩
  | cons t2 ts2 => simp only [Trs.len] at h; omega
theorem trs_nil {ts : Trs} (h : ts.len = 0) : ts = .nil := by
 cases ts with
 | nil => rfl
 | cons t ts => simp only [Trs.len] at h; omega
theorem rightB_iff {x : Ex} {a : Int} (h : rightB x a = true) : okB x = true ∧ namB x = true ∧ labB x a = true ∧ tagB x a = true := by
 simp only [rightB, Bool.and_eq_true] at h; exact ⟨h.1.1.1, h.1.1.2, h.1.2, h.2⟩
mutual
theorem px_tr {T : List Tk} : ∀ (t : Tr) (above : Int) (deep i a : Nat) (x : Ex), t.wf above deep → AtK T i t.keys → atE i x = ⟨0, 0, [], t.top.label, t.top.tag, 0, (a : Int)⟩ → PX T none deep i x (t.idx i a) 0 (i + t.keys.length)
 | .node y ks, above, deep, i, a, x, hw, hk, hx => by
  obtain ⟨hd, hm, hr, hl, hks⟩ := hw
  obtain ⟨hok, hnm, -, -⟩ := rightB_iff hr
  simp only [Tr.top] at hx
  rcases okB_cases hok with ⟨k1, hn, k0⟩ | ⟨k1, hn, k0⟩ | ⟨k1, hn, hn2, k0⟩ | ⟨k1, hn, k0⟩ | ⟨k1, hn, k0⟩
  ·have hnil := trs_nil (ts := ks) (by omega)
   subst hnil
   simp only [Tr.keys, if_pos k1] at hk ⊢
   obtain ⟨h1, h2, -⟩ := key_N hk.cons.1
   have hname : y.name = [] := by unfold namB at hnm; rw [if_neg (by omega)] at hnm; simpa using hnm
   have hlf : leafE (tkA T i).text = some (1, y.n) := by rw [h2]; rcases hn with e | e | e | e <;> (rw [e]; rfl)
   have hb : bgnT (tkA T i) = true := by simp [bgnT, h1, hlf]
   have hN : [(atE i x).lf 1 y.n] = Tr.idx i a (.node y .nil) := by
    rw [hx]; obtain ⟨a1, a2, a3, a4, a5, a6, a7⟩ := y
    simp only at k1 k0 hname; subst k1 k0 hname; simp [Tr.idx, Trs.idxK, Ex.lf]
   rw [← hN]
   exact .leaf (kn := (1, y.n)) hb hd hlf
  ·have hnil := trs_nil (ts := ks) (by omega)
   subst hnil
   rcases k1 with k1 | k1 | k1
   ·simp only [Tr.keys, if_neg (show ¬ y.kind = 1 by omega), if_pos k1] at hk ⊢
    obtain ⟨h1, h2, -⟩ := key_N hk.cons.1
    have hname : y.name = [] := by unfold namB at hnm; rw [if_neg (by omega)] at hnm; simpa using hnm
    have hlf : leafE (tkA T i).text = some (2, 0) := by rw [h2]; rfl
    have hb : bgnT (tkA T i) = true := by simp [bgnT, h1, hlf]
    have hN : [(atE i x).lf 2 0] = Tr.idx i a (.node y .nil) := by
     rw [hx]; obtain ⟨a1, a2, a3, a4, a5, a6, a7⟩ := y
     simp only at k1 k0 hname hn; subst k1 k0 hname hn; simp [Tr.idx, Trs.idxK, Ex.lf]
    rw [← hN]
    exact .leaf (kn := (2, 0)) hb hd hlf
   ·simp only [Tr.keys, if_neg (show ¬ y.kind = 1 by omega), if_neg (show ¬ y.kind = 2 by omega), if_pos k1] at hk ⊢
    obtain ⟨h1, h2, -⟩ := key_N hk.cons.1
    have hname : y.name = [] := by unfold namB at hnm; rw [if_neg (by omega)] at hnm; simpa using hnm
    have hlf : leafE (tkA T i).text = some (3, 0) := by rw [h2]; rfl
    have hb : bgnT (tkA T i) = true := by simp [bgnT, h1, hlf]
    have hN : [(atE i x).lf 3 0] = Tr.idx i a (.node y .nil) := by
     rw [hx]; obtain ⟨a1, a2, a3, a4, a5, a6, a7⟩ := y
     simp only at k1 k0 hname hn; subst k1 k0 hname hn; simp [Tr.idx, Trs.idxK, Ex.lf]
    rw [← hN]
    exact .leaf (kn := (3, 0)) hb hd hlf
   simp only [Tr.keys, if_neg (show ¬ y.kind = 1 by omega), if_neg (show ¬ y.kind = 2 by omega), if_neg (show ¬ y.kind = 3 by omega), if_pos k1] at hk ⊢
   obtain ⟨h1, h2, -⟩ := key_N hk.cons.1
   have hname : nameB y.name = true := by unfold namB at hnm; rw [if_pos k1] at hnm; exact hnm
   obtain ⟨n1, n2, n3, n4, n5⟩ := name_not hname
   have hb : bgnT (tkA T i) = true := by simp [bgnT, h1, h2, hname]
   have hN : [(atE i x).nm (tkA T i).text] = Tr.idx i a (.node y .nil) := by
    rw [hx, h2]; obtain ⟨a1, a2, a3, a4, a5, a6, a7⟩ := y
    simp only at k1 k0 hn; subst k1 k0 hn; simp [Tr.idx, Trs.idxK, Ex.nm]
   rw [← hN]
   exact .nm hb hd (by rw [h2]; exact n1) (by rw [h2]; exact n2) (by rw [h2]; exact n3) (by rw [h2]; exact n4) (by rw [h2]; exact n5)
  ·obtain ⟨t, rfl⟩ := trs_one (ts := ks) (by omega)
   simp only [Tr.keys, if_neg (show ¬ y.kind = 1 by omega), if_neg (show ¬ y.kind = 2 by omega), if_neg (show ¬ y.kind = 3 by omega), if_neg (show ¬ y.kind = 9 by omega), if_pos k1, Trs.keys, List.append_nil] at hk ⊢
   obtain ⟨q1, hk⟩ := hk.cons
   obtain ⟨q2, hk⟩ := hk.cons
   obtain ⟨hkt, hk⟩ := hk.app
   obtain ⟨q3, hk⟩ := hk.cons
   obtain ⟨q4, hk⟩ := hk.cons
   obtain ⟨q5, -⟩ := hk.cons
   obtain ⟨h1, h2, -⟩ := key_N q1
   obtain ⟨d1, d2⟩ := key_D q4
   have hv : (tkA T i).text = [118, 101, 99, 116, 111, 114] ∨ (tkA T i).text = [108, 105, 115, 116] := by rw [h2]; by_cases e : y.kind = 5 <;> simp [e]
   have hlf : leafE (tkA T i).text = none := by rcases hv with e | e <;> (rw [e]; rfl)
   have hb : bgnT (tkA T i) = true := by rcases hv with e | e <;> simp [bgnT, h1, e]
   have hname : y.name = [] := by unfold namB at hnm; rw [if_neg (by omega)] at hnm; simpa using hnm
   have hkid := px_tr t y.kind (deep + 1) (i + 2) (i + 2) exM hks.1 hkt (by
    obtain ⟨-, -, g1, g2⟩ := rightB_iff (show rightB t.top y.kind = true by cases t; exact hks.1.2.2.1)
    unfold labB at g1; rw [if_neg (by omega)] at g1
    have e1 : t.top.label = [] := by simpa using g1
    have e2 : t.top.tag = 0 := by
     unfold tagB at g2
     simp only [Bool.or_eq_true, Bool.and_eq_true, decide_eq_true_eq] at g2
     rcases g2 with g2 | g2
     ·exact g2
     omega
    rw [e1, e2]; rfl)
   have hN : (atE i x).vec (decide ((tkA T i).text = [108, 105, 115, 116])) (tkA T (i + 2 + t.keys.length + 1)).n :: t.idx (i + 2) (i + 2) = Tr.idx i a (.node y (.cons t .nil)) := by
    have hdl : decide ((tkA T i).text = [108, 105, 115, 116]) = decide (y.kind = 5) := by rw [h2]; by_cases e : y.kind = 5 <;> simp [e]
    rw [hdl, d2, hx]
    simp only [Tr.idx, Trs.idxK, if_neg (show ¬ (y.kind = 7 ∨ y.kind = 8) by omega), List.append_nil, Ex.vec]
    congr 1
    obtain ⟨a1, a2, a3, a4, a5, a6, a7⟩ := y
    simp only at k1 k0 hname hn hn2 ⊢
    subst k0 hname
    rw [Ex.mk.injEq]
    refine ⟨?_, by omega, rfl, rfl, rfl, rfl, rfl⟩
    rcases k1 with e | e <;> simp [e]
   rw [← hN]
   have := PX.vec (x := x) hb hd hlf hv (key_M q2) hkid (key_M q3) d1 (key_M q5)
   simp only [List.length_cons, List.length_append, List.length_nil]
   rw [show i + (t.keys.length + (0 + 1 + 1 + 1) + 1 + 1) = i + 2 + t.keys.length + 3 by omega]
   exact this
  ·obtain ⟨t, rfl⟩ := trs_one (ts := ks) (by omega)
   simp only [Tr.keys, if_neg (show ¬ y.kind = 1 by omega), if_neg (show ¬ y.kind = 2 by omega), if_neg (show ¬ y.kind = 3 by omega), if_neg (show ¬ y.kind = 9 by omega), if_neg (show ¬ (y.kind = 4 ∨ y.kind = 5) by omega), if_pos k1, Trs.keys, List.append_nil] at hk ⊢
   obtain ⟨q1, hk⟩ := hk.cons
   obtain ⟨q2, hk⟩ := hk.cons
   obtain ⟨hkt, hk⟩ := hk.app
   obtain ⟨q3, -⟩ := hk.cons
   obtain ⟨h1, h2, -⟩ := key_N q1
   have hlf : leafE (tkA T i).text = none := by rw [h2]; rfl
   have hb : bgnT (tkA T i) = true := by simp [bgnT, h1, h2]
   have hname : y.name = [] := by unfold namB at hnm; rw [if_neg (by omega)] at hnm; simpa using hnm
   have hkid := px_tr t y.kind (deep + 1) (i + 2) (i + 2) exM hks.1 hkt (by
    obtain ⟨-, -, g1, g2⟩ := rightB_iff (show rightB t.top y.kind = true by cases t; exact hks.1.2.2.1)
    unfold labB at g1; rw [if_neg (by omega)] at g1
    have e1 : t.top.label = [] := by simpa using g1
    have e2 : t.top.tag = 0 := by
     unfold tagB at g2
     simp only [Bool.or_eq_true, Bool.and_eq_true, decide_eq_true_eq] at g2
     rcases g2 with g2 | g2
     ·exact g2
     omega
    rw [e1, e2]; rfl)
   have hN : (atE i x).opt :: t.idx (i + 2) (i + 2) = Tr.idx i a (.node y (.cons t .nil)) := by
    rw [hx]
    simp only [Tr.idx, Trs.idxK, if_neg (show ¬ (y.kind = 7 ∨ y.kind = 8) by omega), List.append_nil, Ex.opt]
    congr 1
    obtain ⟨a1, a2, a3, a4, a5, a6, a7⟩ := y
    simp only at k1 k0 hname hn ⊢
    subst k0 hname hn k1
    rfl
   rw [← hN]
   have := PX.opt (x := x) hb hd hlf h2 (key_M q2) hkid (key_M q3)
   simp only [List.length_cons, List.length_append, List.length_nil]
   rw [show i + (t.keys.length + (0 + 1) + 1 + 1) = i + 2 + t.keys.length + 1 by omega]
   exact this
  have hm64 : y.kids ≤ 64 := (rightB_kids hr hm).2
  obtain ⟨u, hu⟩ : ∃ u : Bool, u = decide (y.kind = 7) := ⟨_, rfl⟩
  have hku : y.kind = if u then 7 else 8 := by rcases k1 with e | e <;> simp [hu, e]
  simp only [Tr.keys, if_neg (show ¬ y.kind = 1 by omega), if_neg (show ¬ y.kind = 2 by omega), if_neg (show ¬ y.kind = 3 by omega), if_neg (show ¬ y.kind = 9 by omega), if_neg (show ¬ (y.kind = 4 ∨ y.kind = 5) by omega), if_neg (show ¬ y.kind = 6 by omega), ← hu] at hk ⊢
  obtain ⟨q1, hk⟩ := hk.cons
  obtain ⟨q2, hk⟩ := hk.cons
  obtain ⟨h1, h2, -⟩ := key_N q1
  have hw2 : (tkA T i).text = if u then [117, 110, 105, 111, 110] else [115, 116, 114, 117, 99, 116] := by rw [h2]; rcases k1 with e | e <;> simp [hu, e]
  have hlf : leafE (tkA T i).text = none := by rw [hw2]; cases u <;> rfl
  have hb : bgnT (tkA T i) = true := by rw [bgnT, hw2]; cases u <;> simp [h1]
  have hname : y.name = [] := by unfold namB at hnm; rw [if_neg (by omega)] at hnm; simpa using hnm
  have hrow := px_trs ks u deep (i + 2) 0 (fun e => by rw [e] at hl; simp only [Trs.len] at hl; omega) (by omega) (by rw [← hku]; exact hks) hk
  have hN : (atE i x).br u ((0 + ks.len : Nat) : Int) :: ks.idxR (i + 2) = Tr.idx i a (.node y ks) := by
   rw [hx]
   simp only [Tr.idx, if_pos k1, Ex.br]
   congr 1
   obtain ⟨a1, a2, a3, a4, a5, a6, a7⟩ := y
   simp only at k1 k0 hname hn hku hl ⊢
   subst hname hn
   rw [Ex.mk.injEq]
   exact ⟨hku.symm, rfl, rfl, rfl, rfl, by omega, rfl⟩
  rw [← hN]
  have := PX.br (x := x) u hb hd hlf hw2 (key_M q2) hrow
  simp only [List.length_cons, List.length_append, List.length_nil]
  rw [show i + ((ks.rows u).length + (0 + 1) + 1 + 1) = i + 2 + (ks.rows u).length + 1 by omega]
  exact this
theorem px_trs {T : List Tk} : ∀ (ts : Trs) (u : Bool) (deep i k : Nat), ts ≠ .nil → k + ts.len ≤ 64 → ts.wf (if u then 7 else 8) (deep + 1) → AtK T i (ts.rows u ++ [kM [125]]) → PX T (some (u, k)) deep i ex0 (ts.idxR i) (k + ts.len) (i + (ts.rows u).length + 1)
 | .nil, u, deep, i, k, hne, _, _, _ => absurd rfl hne
 | .cons t ts, u, deep, i, k, hne, hlen, hw, hk => by
  simp only [Trs.rows, List.append_assoc] at hk ⊢
  obtain ⟨hkh, hk⟩ := hk.app
  have hhl : (hdK u t.top).length = 2 := rfl
  rw [hhl] at hk
  obtain ⟨hkt, hk⟩ := hk.app
  have q1 := hkh.cons.1
  have q2 := hkh.cons.2.cons.1
  have hrt := rightB_iff (show rightB t.top (if u then 7 else 8) = true by cases t; exact hw.1.2.2.1)
  obtain ⟨-, -, g1, g2⟩ := hrt
  have hh : hdOk T u i := by
   cases u
   ·obtain ⟨e1, e2, -⟩ := key_N q1
    unfold labB at g1
    have g1 : nameB t.top.label = true := by simpa using g1
    show nmT (tkA T i) = true
    simp [nmT, e1, e2, g1]
   exact (key_D q1).1
  have hx : atE (i + 2) (hdE T u i) = ⟨0, 0, [], t.top.label, t.top.tag, 0, (i : Int)⟩ := by
   have ha : ¬ ((i : Int)) < 0 := by omega
   cases u
   ·obtain ⟨e1, e2, -⟩ := key_N q1
    have e3 : t.top.tag = 0 := by
     unfold tagB at g2
     simpa using g2
    simp only [atE, hdE, ex0, ha, if_false, Bool.false_eq_true, e2, e3]
   obtain ⟨e1, e2⟩ := key_D q1
   have e3 : t.top.label = [] := by unfold labB at g1; simpa using g1
   have e4 : (t.top.tag.toNat : Int) = t.top.tag := by
    unfold tagB at g2
    simp only [Bool.or_eq_true, Bool.and_eq_true, decide_eq_true_eq] at g2
    omega
   simp only [atE, hdE, ex0, ha, if_false, if_true, e2, e3, e4]
  have hkid := px_tr t _ (deep + 1) (i + 2) i (hdE T u i) hw.1 hkt hx
  simp only [Trs.len] at hlen ⊢
  cases ts with
  | nil =>
   simp only [Trs.more, List.nil_append] at hk ⊢
   have q3 := key_M hk.cons.1
   have hc : isT (tkA T (i + 2 + t.keys.length)) 3 [44] = false := by
    simp only [isT, Bool.and_eq_true, decide_eq_true_eq] at q3
    simp [isT, q3.2]
   have := PX.last (show k < 64 by simp only [Trs.len] at hlen; omega) hh (key_M q2) hkid hc q3
   simp only [Trs.idxR, Trs.len, List.append_nil, List.length_append, hhl, List.length_nil]
   rw [show i + (2 + t.keys.length) + 1 = i + 2 + t.keys.length + 1 by omega]
   exact this
  | cons t2 ts2 =>
   rw [more_rows] at hk ⊢
   obtain ⟨q3, hk⟩ := hk.cons
   have hrest := px_trs (.cons t2 ts2) u deep (i + 2 + t.keys.length + 1) (k + 1) (fun h => by cases h) (by omega) hw.2 hk
   have := PX.more (show k < 64 by omega) hh (key_M q2) hkid (key_M q3) hrest
   rw [show (Trs.cons t (.cons t2 ts2)).idxR i = t.idx (i + 2) i ++ (Trs.cons t2 ts2).idxR (i + 2 + t.keys.length + 1) from rfl]
   simp only [List.length_append, List.length_cons, hhl]
   rw [show k + ((Trs.cons t2 ts2).len + 1) = k + 1 + (Trs.cons t2 ts2).len by omega, show i + (2 + (t.keys.length + (((Trs.cons t2 ts2).rows u).length + 1))) + 1 = i + 2 + t.keys.length + 1 + ((Trs.cons t2 ts2).rows u).length + 1 by omega]
   exact this
end

end Go.Proofs.YtpbflfgigfdohaaDoor

namespace Go.Proofs.YtpbflfgigfdohaaDoor
open Go Go.Vc Go.RowKit Go.Proofs

theorem want_is {T : List Tk} {i k : Nat} {s : List UInt8} (h : isT (tkA T i) k s = true) : wantT T i k s = .ok () (i + 1) := by unfold wantT; rw [if_pos h]
theorem num_is {T : List Tk} {i : Nat} (h : (tkA T i).kind = 2) : numT T i = .ok (tkA T i).n (i + 1) := by unfold numT; rw [if_pos h]
theorem name_is {T : List Tk} {i : Nat} (h : nmT (tkA T i) = true) : nameT T i = .ok (tkA T i).text (i + 1) := by unfold nameT; rw [if_pos h]
theorem head_is {T : List Tk} {u : Bool} {i k : Nat} (hk : k < 64) (hh : hdOk T u i) : headT T u (decide (k = 64)) i { ex0 with at_ := i } = .ok (hdE T u i) (i + 1) := by
 have h0 : decide (k = 64) = false := decide_eq_false (by omega)
 cases u
 ·rw [headT_s, if_neg (by simp [h0]), name_is hh, Pr.bind_ok]; rfl
 rw [headT_u, if_neg (by simp [h0]), num_is hh, Pr.bind_ok]; rfl
def PxM (T : List Tk) (r : Option (Bool × Nat)) (deep i : Nat) (x : Ex) (N : List Ex) (n j : Nat) : Prop := match r with
 | none => ∀ f, T.length + 2 ≤ f + i → exprT T f i x deep = .ok N j
 | some (u, k) => ∀ f g, T.length + 1 ≤ f + i → T.length + 2 ≤ g + i → rowsT (fun i x => exprT T f i x (deep + 1)) T u g i k = .ok (N, n) j
theorem px_expr {T : List Tk} {r : Option (Bool × Nat)} {deep i : Nat} {x : Ex} {N : List Ex} {n j : Nat} (h : PX T r deep i x N n j) : PxM T r deep i x N n j := by
 induction h with
 | @leaf deep i x kn hb hd hl =>
  intro f hf
  have hil := tkA_kind (by decide) (bgn_kind hb)
  obtain ⟨f, rfl⟩ : ∃ g, f = g + 1 := ⟨f - 1, by omega⟩
  rw [exprT_s, if_neg (by simp [hb]), if_neg (by omega), hl]
 | @nm deep i x hb hd hl hv ho hu hs =>
  intro f hf
  have hil := tkA_kind (by decide) (bgn_kind hb)
  obtain ⟨f, rfl⟩ : ∃ g, f = g + 1 := ⟨f - 1, by omega⟩
  rw [exprT_s, if_neg (by simp [hb]), if_neg (by omega), hl]
  simp only
  rw [if_neg hv, if_neg ho, if_neg hu, if_neg hs]
 | @vec deep i x N j hb hd hl hv h1 hN h2 h3 h4 ih =>
  intro f hf
  have hil := tkA_kind (by decide) (bgn_kind hb)
  obtain ⟨f, rfl⟩ : ∃ g, f = g + 1 := ⟨f - 1, by omega⟩
  rw [exprT_s, if_neg (by simp [hb]), if_neg (by omega), hl]
  simp only
  rw [if_pos hv, want_is h1, Pr.bind_ok, ih f (by omega), Pr.bind_ok, want_is h2, Pr.bind_ok, num_is h3, Pr.bind_ok, want_is h4, Pr.bind_ok]
 | @opt deep i x N j hb hd hl ho h1 hN h2 ih =>
  intro f hf
  have hil := tkA_kind (by decide) (bgn_kind hb)
  obtain ⟨f, rfl⟩ : ∃ g, f = g + 1 := ⟨f - 1, by omega⟩
  have hv : ¬ ((tkA T i).text = [118, 101, 99, 116, 111, 114] ∨ (tkA T i).text = [108, 105, 115, 116]) := by rw [ho]; decide
  rw [exprT_s, if_neg (by simp [hb]), if_neg (by omega), hl]
  simp only
  rw [if_neg hv, if_pos ho, want_is h1, Pr.bind_ok, ih f (by omega), Pr.bind_ok, want_is h2, Pr.bind_ok]
 | @br deep i x u M n j hb hd hl hw h1 hM ih =>
  intro f hf
  have hil := tkA_kind (by decide) (bgn_kind hb)
  have hil2 := isT_lt (by decide) h1
  obtain ⟨f, rfl⟩ : ∃ g, f = g + 1 := ⟨f - 1, by omega⟩
  have hv : ¬ ((tkA T i).text = [118, 101, 99, 116, 111, 114] ∨ (tkA T i).text = [108, 105, 115, 116]) := by rw [hw]; cases u <;> decide
  have ho : ¬ (tkA T i).text = [111, 112, 116, 105, 111, 110] := by rw [hw]; cases u <;> decide
  rw [exprT_s, if_neg (by simp [hb]), if_neg (by omega), hl]
  simp only
  rw [if_neg hv, if_neg ho]
  have := ih f f (by omega) (by omega)
  cases u
  ·rw [if_neg (by rw [hw]; decide), if_pos (by rw [hw]; rfl), want_is h1, Pr.bind_ok, this, Pr.bind_ok]
  rw [if_pos (by rw [hw]; rfl), want_is h1, Pr.bind_ok, this, Pr.bind_ok]
 | @last deep i u k N j hk hh hc hN hm hr ih =>
  intro f g hf hg
  have hil := isT_lt (by decide) hc
  obtain ⟨g, rfl⟩ : ∃ q, g = q + 1 := ⟨g - 1, by omega⟩
  rw [rowsT_s, head_is hk hh, Pr.bind_ok, want_is hc, Pr.bind_ok, ih f (by omega), Pr.bind_ok, if_neg (by simp [hm]), want_is hr, Pr.bind_ok]
 | @more deep i u k N M j n e hk hh hc hN hm hR ih1 ih2 =>
  intro f g hf hg
  have hil := isT_lt (by decide) hc
  have hij := (px_rise hN).1
  obtain ⟨g, rfl⟩ : ∃ q, g = q + 1 := ⟨g - 1, by omega⟩
  rw [rowsT_s, head_is hk hh, Pr.bind_ok, want_is hc, Pr.bind_ok, ih1 f (by omega), Pr.bind_ok, if_pos hm, ih2 f g (by omega) (by omega), Pr.bind_ok]
theorem pd_defs {T : List Tk} {i k : Nat} {D : List Df} (h : PD T i k D) : ∀ g, i ≤ T.length → T.length + 2 ≤ g + i → ∃ j, defsT T g i k = .ok D j := by
 induction h with
 | @nil i k h hk =>
  intro g hi hg
  obtain ⟨g, rfl⟩ : ∃ q, g = q + 1 := ⟨g - 1, by omega⟩
  exact ⟨i, by rw [defsT_s, if_pos h]⟩
 | @cons i k j N D hk h0 h1 h2 hN h3 hD ih =>
  intro g hi hg
  have hil := isT_lt (by decide) h0
  have hij := (px_rise hN).1
  have hjl := isT_lt (by decide) h3
  obtain ⟨g, rfl⟩ : ∃ q, g = q + 1 := ⟨g - 1, by omega⟩
  obtain ⟨q, hq⟩ := ih g (by omega) (by omega)
  refine ⟨q, ?_⟩
  rw [defsT_s, if_neg (by omega), if_neg (by omega), want_is h0, Pr.bind_ok, name_is h1, Pr.bind_ok, want_is h2, Pr.bind_ok, px_expr hN _ (by omega), Pr.bind_ok, want_is h3, Pr.bind_ok, hq, Pr.bind_ok]
abbrev DefT := List UInt8 × Tr
def defK (p : DefT) : List Key := kN [116, 121, 112, 101] :: kN p.1 :: kM [61] :: (p.2.keys ++ [kM [59]])
def defsK : List DefT → List Key
 | [] => []
 | p :: l => defK p ++ defsK l
def defIdx (i : Nat) : List DefT → List Df
 | [] => []
 | p :: l => ⟨p.1, ((i + 1 : Nat) : Int), p.2.idx (i + 3) (i + 3)⟩ :: defIdx (i + (defK p).length) l
def DefW (p : DefT) : Prop := nameB p.1 = true ∧ p.2.wf 0 0
theorem wf_top {t : Tr} {a : Int} {deep : Nat} (h : t.wf a deep) : rightB t.top a = true := by cases t; exact h.2.2.1
theorem top_plain {t : Tr} {a : Int} {deep : Nat} (h : t.wf a deep) (h7 : ¬ a = 7) (h8 : ¬ a = 8) : t.top.label = [] ∧ t.top.tag = 0 := by
 obtain ⟨-, -, g1, g2⟩ := rightB_iff (wf_top h)
 unfold labB at g1; rw [if_neg h8] at g1
 refine ⟨by simpa using g1, ?_⟩
 unfold tagB at g2
 simp only [Bool.or_eq_true, Bool.and_eq_true, decide_eq_true_eq] at g2
 rcases g2 with g2 | g2
 ·exact g2
 exact absurd g2.1.1 h7
theorem key_ty {t : Tk} (h : tkey t = kN [116, 121, 112, 101]) : isT t 1 [116, 121, 112, 101] = true := by
 obtain ⟨h1, h2, -⟩ := key_N h; simp [isT, h1, h2]
theorem pd_of {T : List Tk} : ∀ (l : List DefT) (i k : Nat), (∀ p ∈ l, DefW p) → k + l.length ≤ 256 → AtK T i (defsK l) → T.length = i + (defsK l).length → PD T i k (defIdx i l)
 | [], i, k, _, hk, _, hl => .nil (by simp only [defsK, List.length_nil] at hl; omega) (by simpa using hk)
 | p :: l, i, k, hw, hk, hat, hl => by
  obtain ⟨hn, ht⟩ := hw p (List.mem_cons_self ..)
  simp only [defsK] at hat hl
  obtain ⟨h1, h2⟩ := hat.app
  simp only [defK] at h1
  obtain ⟨q1, h1⟩ := h1.cons
  obtain ⟨q2, h1⟩ := h1.cons
  obtain ⟨q3, h1⟩ := h1.cons
  obtain ⟨h3, h4⟩ := h1.app
  have q4 := h4.cons.1
  obtain ⟨e1, e2, -⟩ := key_N q2
  have hnm : nmT (tkA T (i + 1)) = true := by simp [nmT, e1, e2, hn]
  obtain ⟨p1, p2⟩ := top_plain ht (by decide) (by decide)
  have hX := px_tr p.2 0 0 (i + 3) (i + 3) exM ht h3 (by rw [p1, p2]; rfl)
  have hdl : (defK p).length = p.2.keys.length + 4 := by simp [defK]
  have ih := pd_of l (i + (defK p).length) (k + 1) (fun q hq => hw q (List.mem_cons_of_mem _ hq)) (by simp only [List.length_cons] at hk; omega) h2 (by rw [List.length_append] at hl; omega)
  have hjj : i + 3 + p.2.keys.length + 1 = i + (defK p).length := by omega
  have := PD.cons (by simp only [List.length_cons] at hk; omega) (key_ty q1) hnm (key_M q3) hX (key_M q4) (hjj ▸ ih)
  rw [e2, hjj] at this
  exact this
/-- a text whose tokens are those of checked definitions -/
theorem parse_keys {xs : List UInt8} {T : List Tk} {l : List DefT} (hc : cutA xs = (T, 0, 0)) (hk : T.map tkey = defsK l) (hw : ∀ p ∈ l, DefW p) (hl : l.length ≤ 256) : parseA xs = ((defIdx 0 l).map (plD T), 0, 0) := by
 have hlen : T.length = (defsK l).length := by rw [← hk, List.length_map]
 have hat : AtK T 0 (defsK l) := fun k h => by
  have h2 : (T.map tkey)[k]? = (defsK l)[k]? := by rw [hk]
  rw [List.getElem?_map, List.getElem?_eq_getElem (by omega), List.getElem?_eq_getElem h] at h2
  simp only [Option.map_some, Option.some.injEq] at h2
  rw [Nat.zero_add, tkA_lt (by omega)]
  exact h2
 obtain ⟨j, hj⟩ := pd_defs (pd_of l 0 0 hw (by omega) hat (by omega)) (T.length + 2) (Nat.zero_le _) (by omega)
 have h0 : (cutA xs).2.1 = 0 := by rw [hc]
 have := @parseA_ok xs h0 (defIdx 0 l) j (by rw [hc]; exact hj)
 rw [hc] at this
 exact this
/-- what Check takes: names and trees -/
theorem chkA_trees : ∀ (D : List Df) (i : Nat), (chkA i D).2.2 = 0 → ∃ l : List DefT, (∀ p ∈ l, DefW p) ∧ D.map (fun d => (d.name, d.ty)) = l.map (fun p => (p.1, p.2.flat))
 | [], _, _ => ⟨[], fun p h => (by cases h), rfl⟩
 | d :: D, i, h => by
  rw [chkA_cons] at h
  by_cases h1 : nameB d.name = false
  ·rw [if_pos h1] at h; cases h
  rw [if_neg h1] at h
  by_cases h2 : (chkT d.ty).2 = 0
  ·rw [if_pos h2] at h
   obtain ⟨l, g1, g2⟩ := chkA_trees D (i + 1) h
   obtain ⟨t, t1, t2⟩ := chkT_tr h2
   refine ⟨(d.name, t) :: l, fun p hp => ?_, ?_⟩
   ·rcases List.mem_cons.1 hp with rfl | hp
    ·exact ⟨by simpa using h1, t2⟩
    exact g1 p hp
   rw [List.map_cons, List.map_cons, g2, t1]
  rw [if_neg h2] at h; exact absurd h h2
theorem chkS_trees {D : List Df} (h : (chkS D).2.2 = 0) : D.length ≤ 256 ∧ ∃ l : List DefT, (∀ p ∈ l, DefW p) ∧ D.map (fun d => (d.name, d.ty)) = l.map (fun p => (p.1, p.2.flat)) := by
 unfold chkS at h
 by_cases hl : 256 < D.length
 ·rw [if_pos hl] at h; cases h
 rw [if_neg hl] at h
 exact ⟨by omega, chkA_trees D 0 h⟩

end Go.Proofs.YtpbflfgigfdohaaDoor

namespace Go.Proofs.YtpbflfgigfdohaaDoor
open Go Go.Vc Go.RowKit Go.Proofs

def digL (n : Nat) : List UInt8 := if n < 10 then [UInt8.ofNat (48 + n)] else digL (n / 10) ++ [UInt8.ofNat (48 + n % 10)]
termination_by n
decreasing_by omega
theorem digL_lt {n : Nat} (h : n < 10) : digL n = [UInt8.ofNat (48 + n)] := by rw [digL, if_pos h]
theorem digL_ge {n : Nat} (h : ¬ n < 10) : digL n = digL (n / 10) ++ [UInt8.ofNat (48 + n % 10)] := by rw [digL, if_neg h]
theorem d8 {k : Nat} (h : k < 10) : (UInt8.ofNat (48 + k)).toNat = 48 + k := by simp; omega
theorem digL_dig : ∀ n, (digL n).all digB = true := by
 intro n
 induction n using Nat.strongRecOn with
 | _ n ih =>
  by_cases h : n < 10
  ·rw [digL_lt h]; simp only [List.all_cons, List.all_nil, Bool.and_true, digB, d8 h]; simp; omega
  rw [digL_ge h, List.all_append, ih (n / 10) (by omega)]
  simp only [List.all_cons, List.all_nil, Bool.and_true, digB, d8 (show n % 10 < 10 by omega)]; simp; omega
theorem valF_snoc (n : Nat) (xs : List UInt8) (c : UInt8) : valF n (xs ++ [c]) = 10 * valF n xs + (c.toNat - 48) := by
 simp only [valF, List.foldl_append, List.foldl_cons, List.foldl_nil]
theorem digL_val : ∀ n, valF 0 (digL n) = n := by
 intro n
 induction n using Nat.strongRecOn with
 | _ n ih =>
  by_cases h : n < 10
  ·rw [digL_lt h, show [UInt8.ofNat (48 + n)] = [] ++ [UInt8.ofNat (48 + n)] from rfl, valF_snoc, d8 h]
   show 10 * 0 + _ = n; omega
  rw [digL_ge h, valF_snoc, ih (n / 10) (by omega), d8 (show n % 10 < 10 by omega)]; omega
theorem digL_head : ∀ n, 1 ≤ n → ∃ c cs, digL n = c :: cs ∧ 49 ≤ c.toNat := by
 intro n
 induction n using Nat.strongRecOn with
 | _ n ih =>
  intro h1
  by_cases h : n < 10
  ·exact ⟨_, _, digL_lt h, by rw [d8 h]; omega⟩
  obtain ⟨c, cs, g1, g2⟩ := ih (n / 10) (by omega) (by omega)
  exact ⟨c, cs ++ [UInt8.ofNat (48 + n % 10)], by rw [digL_ge h, g1]; rfl, g2⟩
theorem digL_pos (n : Nat) : 0 < (digL n).length := by
 by_cases h : n < 10
 ·rw [digL_lt h]; exact Nat.one_pos
 rw [digL_ge h]; simp
theorem digL_num {n : Nat} (h : n ≤ 2147483647) : numL (digL n) = (n, 0) := by
 have hl : lead (digL n) = false := by
  by_cases h0 : n < 10
  ·rw [digL_lt h0]; rfl
  obtain ⟨c, cs, g1, g2⟩ := digL_head n (by omega)
  rw [g1]
  have : ¬ c.toNat = 48 := by omega
  simp [lead, this]
 rw [numL_val _ hl, digL_val, if_pos h]
def Own (b : List UInt8) (k : Key) : Prop := ∃ hT : 0 < b.length, oneL b 0 hT = (0, ⟨k.1, k.2.1, k.2.2, 0, b.length⟩)
theorem sub_whole (b : List UInt8) : sub b 0 b.length = b := by unfold sub; simp
theorem own_name {s : List UInt8} (h1 : s.head?.any letB = true) (h2 : s.length ≤ 32) (h3 : s.all goeB = true) : Own s (kN s) := by
 cases s with
 | nil => cases h1
 | cons c cs =>
  have hT : 0 < (c :: cs).length := by simp
  have hc : letB (c :: cs)[0] = true := h1
  have hr : runL goeB (c :: cs) 0 = (c :: cs).length := (runL_all goeB _).2 h3
  refine ⟨hT, ?_⟩
  unfold oneL
  rw [if_pos hc, hr, if_neg (by omega), sub_whole]
  rfl
theorem own_nameB {s : List UInt8} (h : nameB s = true) : Own s (kN s) := by
 simp only [nameB, Bool.and_eq_true, decide_eq_true_eq] at h
 exact own_name h.1.1.2 h.1.1.1.2 h.1.2
theorem own_num {n : Nat} (h : n ≤ 2147483647) : Own (digL n) (kD n) := by
 have hT := digL_pos n
 have hd : digB (digL n)[0] = true := List.all_eq_true.1 (digL_dig n) _ (List.getElem_mem hT)
 have hl : ¬ letB (digL n)[0] = true := by
  generalize (digL n)[0] = c at hd
  simp only [digB, letB, Bool.and_eq_true, decide_eq_true_eq] at hd ⊢
  omega
 have hr : runL digB (digL n) 0 = (digL n).length := (runL_all digB _).2 (digL_dig n)
 refine ⟨hT, ?_⟩
 unfold oneL
 rw [if_neg hl, if_pos hd, hr, sub_whole, digL_num h]
 rfl
theorem mark_goe {c : UInt8} (h : markB c = true) : goeB c = false ∧ letB c = false ∧ digB c = false := by
 rw [mark_or] at h
 simp only [Bool.or_eq_true, decide_eq_true_eq] at h
 simp only [goeB, letB, digB, Bool.or_eq_false_iff, Bool.and_eq_false_iff, decide_eq_false_iff_not]
 omega
theorem own_mark {c : UInt8} (h : markB c = true) (Z : List UInt8) : ∀ hT, oneL ([c] ++ Z) 0 hT = (0, ⟨3, [c], 0, 0, 1⟩) := by
 intro hT
 obtain ⟨h1, h2, h3⟩ := mark_goe h
 unfold oneL
 rw [if_neg (by show ¬ letB c = true; simp [h2]), if_neg (by show ¬ digB c = true; simp [h3]), if_pos (show markB ([c] ++ Z)[0] = true from h)]
 rfl
def Cut2 (bs : List UInt8) (us : List Tk) (m : Bool) : Prop := ∀ Z, (m = true ∨ Stops Z) → cutL (bs ++ Z) 0 = (us ++ (cutL (bs ++ Z) bs.length).1, (cutL (bs ++ Z) bs.length).2)
theorem c2_nil : Cut2 [] [] true := fun Z _ => rfl
theorem Cut2.weak {bs : List UInt8} {us : List Tk} {m : Bool} (h : Cut2 bs us m) : Cut2 bs us false := fun Z hZ => h Z (.inr (hZ.resolve_left (by decide)))
theorem Cut2.gap {bs F : List UInt8} {us : List Tk} {m : Bool} (h : Cut2 bs us m) (hg : gapS false F = some false) (hF : ∃ c cs, F = c :: cs ∧ goeB c = false) : Cut2 (bs ++ F) us true := by
 intro Z _
 obtain ⟨c, cs, rfl, hc⟩ := hF
 have h1 := h ((c :: cs) ++ Z) (.inr (.inr ⟨c, cs ++ Z, rfl, hc⟩))
 rw [← List.append_assoc] at h1
 have e1 : ((bs ++ (c :: cs) ++ Z).take (bs ++ (c :: cs)).length).drop bs.length = c :: cs := by rw [List.take_left, List.drop_left]
 have s1 := gap_skip (bs ++ (c :: cs) ++ Z) (bs ++ (c :: cs)).length (by simp) bs.length (by simp) false (by rw [e1]; exact hg)
 rw [if_neg (by decide)] at s1
 rw [h1, s1]
def tkP (p : Nat) (b : List UInt8) (k : Key) : Tk := ⟨k.1, k.2.1, k.2.2, p, p + b.length⟩
theorem tkP_key (p : Nat) (b : List UInt8) (k : Key) : tkey (tkP p b k) = k := rfl
theorem Cut2.tok {bs b : List UInt8} {us : List Tk} {k : Key} (h : Cut2 bs us true) (ho : Own b k) : Cut2 (bs ++ b) (us ++ [tkP bs.length b k]) false := by
 intro Z hZ
 have hZ := hZ.resolve_left (by decide)
 obtain ⟨hT, ho⟩ := ho
 have h1 := h (b ++ Z) (.inl rfl)
 rw [← List.append_assoc] at h1
 have h2 := put_step bs [] b Z _ hT rfl (tok_front ho rfl hZ) rfl
 simp only [List.append_nil, List.length_nil, Nat.add_zero] at h2
 rw [h1, h2]
 simp only [tkP, List.append_assoc, List.cons_append, List.nil_append]
theorem Cut2.mark {bs : List UInt8} {us : List Tk} {m : Bool} (h : Cut2 bs us m) (c : UInt8) (hc : markB c = true) : Cut2 (bs ++ [c]) (us ++ [tkP bs.length [c] (kM [c])]) true := by
 intro Z _
 have h1 := h ([c] ++ Z) (.inr (.inr ⟨c, Z, rfl, (mark_goe hc).1⟩))
 rw [← List.append_assoc] at h1
 have h2 := put_step bs [] [c] Z _ (by simp) rfl (own_mark hc Z) rfl
 simp only [List.append_nil, List.length_nil, Nat.add_zero] at h2
 rw [h1, h2]
 simp only [tkP, kM, List.append_assoc, List.cons_append, List.nil_append, List.length_singleton]
theorem Cut2.done {bs : List UInt8} {us : List Tk} {m : Bool} (h : Cut2 bs us m) : cutL bs 0 = (us, 0, 0) := by
 have := h [] (.inr (.inl rfl))
 rw [List.append_nil, show cutL bs bs.length = ([], 0, 0) by rw [cutL_eq, dif_neg (by omega)], List.append_nil] at this
 exact this

end Go.Proofs.YtpbflfgigfdohaaDoor

namespace Go.Proofs.YtpbflfgigfdohaaDoor
open Go Go.Vc Go.RowKit Go.Proofs

theorem own_word {s : List UInt8} (h : (decide (s.length ≤ 32) && s.head?.any letB && s.all goeB) = true) : Own s (kN s) := by
 simp only [Bool.and_eq_true, decide_eq_true_eq] at h
 exact own_name h.1.2 h.1.1 h.2
end Go.Proofs.YtpbflfgigfdohaaDoor

namespace Go.Proofs.YtpbflfgigfdohaaDoor
open Go Go.Vc Go.RowKit Go.Proofs

theorem digL_len : ∀ (k n : Nat), n < 10 ^ k → 0 < k → (digL n).length ≤ k := by
 intro k
 induction k with
 | zero => intro n h h0; omega
 | succ k ih =>
  intro n h _
  by_cases h10 : n < 10
  ·rw [digL_lt h10]; simp
  rw [digL_ge h10, List.length_append, List.length_singleton]
  have hk : 0 < k := by
   rcases Nat.eq_zero_or_pos k with h0 | h0
   ·subst h0; simp at h; omega
   exact h0
  have := ih (n / 10) (by rw [Nat.pow_succ] at h; omega) hk
  omega

end Go.Proofs.YtpbflfgigfdohaaDoor
