/-
  Walks and lemmas. Written by program out of specs of mine.
-/
import Derived.WalkKit
import Derived.WalkSpells
import Derived.WalkLawsBesides
import Derived.Deep.Quiet
import Derived.StillTail
import Derived.StringKeys
import Derived.Laws.StructEq
import Derived.Laws.Externs
import Derived.Laws.Tables
import Derived.Scope
import Derived.Test.YtpbflfgigfdohaaProg
import Derived.Laws.AppendOwn
import Derived.Maps.AppendAt
import Derived.Recover
import Derived.Lib.Bytealg
import Derived.SizedLaws
import Derived.ChangeArms
import Derived.ChangeSlices
import Derived.Maps.OwnSet
import Derived.Test.YtpbflfgigfdohaaRows
import Derived.ProofKit
import Derived.OpenShut
import Derived.ShutString
import Derived.ChangeOld
import Derived.Below
import Derived.Test.YtpbflfgigfdohaaKr2
set_option linter.unusedSimpArgs false
set_option linter.unusedVariables false
set_option maxRecDepth 100000
namespace Go.Proofs.Ytpbflfgigfdohaa
open Go Go.Vc Go.RowKit Go.Proofs

theorem defsT_s {T : List Tk} {g i k : Nat} : defsT T (g + 1) i k = (if T.length ≤ i then .ok [] i
  else if k = 256 ∧ isT (tkA T i) 1 [116, 121, 112, 101] = true then .bad 5 i
  else (wantT T i 1 [116, 121, 112, 101]).bind fun _ i => (nameT T i).bind fun s j => (wantT T j 3 [61]).bind fun _ j => (exprT T (T.length + 2) j exM 0).bind fun N j => (wantT T j 3 [59]).bind fun _ j =>
   (defsT T g j (k + 1)).bind fun D j => .ok (⟨s, i, N⟩ :: D) j) := rfl
theorem own_base {w : World} {base base' : Nat} {el : TypeId} {s n : Nat} {v : Value} {xs : List Value} (h : w.ownsRow base el s v n xs) (hb : ∀ k, v.ownBlock = some k → base' ≤ k) : w.ownsRow base' el s v n xs := by
 obtain ⟨hl, h⟩ := h
 rcases h with h | ⟨g, cap, cur, rfl, hb2, r⟩
 ·exact ⟨hl, .inl h⟩
 exact ⟨hl, .inr ⟨g, cap, cur, rfl, hb g rfl, r⟩⟩
theorem Psr.move2 {w w' : World} {B0 p fin at_ c : Nat} {lv : Value} {T : List Tk} (h : Psr w B0 p lv T fin at_) (ho : Only (fun k => k = c) w w') (h1 : ¬ p = c) (h2 : ∀ b, lv.ownBlock = some b → ¬ b = c) : Psr w' B0 p lv T fin at_ :=
 ⟨ho.blk h.cell h1, h.toks.only ho h2, h.off, h.hp, h.le, h.small, Nat.le_trans h.b0 ho.size⟩
theorem dcell_one {s : List UInt8} {a : Int} {v : Value} (h : v.oneCell' = true) : ∀ x ∈ (Value.agg #[st s, .int .i64 a, v]).cells.toList, x.oneCell' = true := by
 intro x hx
 simp [Value.cells] at hx
 rcases hx with rfl | rfl | rfl
 ·rfl
 ·rfl
 exact h
theorem cutL_ok : ∀ (xs : List UInt8) (k : Nat), (cutL xs k).2.1 = 0 → (cutL xs k).2.2 = 0 := by
 intro xs k
 induction hn : xs.length - k using Nat.strongRecOn generalizing k with
 | _ n ih =>
  rw [cutL_eq]
  split
  ·rename_i hk
   split
   ·have h1 := (runL_le (p := nnlB) (k := k + 1) (xs := xs) (by omega)).1
    exact ih (xs.length - runL nnlB xs (k + 1)) (by omega) _ rfl
   split
   ·exact ih (xs.length - (k + 1)) (by omega) _ rfl
   split
   ·rename_i he
    have h1 := oneL_fin xs k hk he
    exact ih (xs.length - (oneL xs k hk).2.fin) (by omega) _ rfl
   rename_i he
   exact fun h => absurd h he
  exact fun _ => rfl
theorem cutA_ok {xs : List UInt8} (h : (cutA xs).2.1 = 0) : (cutA xs).2.2 = 0 := by
 unfold cutA at h ⊢
 split at h
 ·cases h
 rename_i h1
 rw [if_neg h1]
 split at h
 ·rename_i h2; rw [if_pos h2]; exact cutL_ok _ _ h2
 rename_i h2; exact absurd h h2
/-- where Parse's body ends -/
def ParseQ (xs : List UInt8) (c2 c3 : Nat) (w0 : World) : Exit → Env → World → Prop
 | .ret, e, w => ∃ (dv : Value) (V : Nat → Value), e 2 = .pointer (some ⟨c2, 0, none⟩) ∧ e 3 = .pointer (some ⟨c3, 0, none⟩) ∧ (parseA xs).2 = (0, 0) ∧ w.heap[c2]? = some (.cells #[dv] 25 (0, 0)) ∧ w.heap[c3]? = some (.cells #[.int .i64 0, .int .i64 0] 28 (0, 0)) ∧ Defs w w0.heap.size (parseA xs).1 dv V ∧ Ext w0 w
 | .panic ch, e, w => ∃ (er j : Nat) (dv y1 y2 : Value), e 2 = .pointer (some ⟨c2, 0, none⟩) ∧ e 3 = .pointer (some ⟨c3, 0, none⟩) ∧ parseA xs = ([], er, plc (cutA xs).1 xs.length j) ∧ ch = [pan er (plc (cutA xs).1 xs.length j)] ∧ w.heap[c2]? = some (.cells #[dv] 25 (0, 0)) ∧ w.heap[c3]? = some (.cells #[y1, y2] 28 (0, 0)) ∧ Ext w0 w
 | _, _, _ => False

set_option maxHeartbeats 2000000 in
theorem parse_spec (xs : List UInt8) (w0 : World) (hlen : xs.length ≤ 9223372036854775807) : Ca Try.prog 7 #[st xs] w0 (fun v w' => ∃ dv V, v = .tuple #[.agg #[dv], .agg (faultV (parseA xs).2.1 (parseA xs).2.2)] ∧ Defs w' w0.heap.size (parseA xs).1 dv V ∧ Ext w0 w') := by
 obtain ⟨BB, hBB⟩ : ∃ B, B = w0.heap.size := ⟨_, rfl⟩
 rw [← hBB]
 refine calls_ofF (l := [st xs]) Try.func7 Try.ntmps7 rfl rfl (WF.seq (WF.of (W.region (WL.c rfl (o_alB TI25 ?_)))))
 intro w2 hC2 hx2 hs2
 obtain ⟨c2, hc2⟩ : ∃ c, c = w0.heap.size := ⟨_, rfl⟩
 rw [← hc2] at hC2 hs2 ⊢
 refine WL.c rfl (o_alB TI28 ?_)
 intro w3 hC3 hx3 hs3
 obtain ⟨c3, hc3⟩ : ∃ c, c = w2.heap.size := ⟨_, rfl⟩
 rw [← hc3] at hC3 hs3 ⊢
 replace hC2 := hx3.blk hC2 (fun h => h)
 have hx := hx2.tr hx3
 refine WL.nil (WF.seq (WF.of (W.region (WL.c rfl (o_mvh (show _ = Value.string _ from rfl) (WL.c rfl (o_call Try.call19 (lc rfl ln) ((cut_spec xs _ hlen).mono ?_))))))))
 rintro v9 w9 ⟨v1, rfl, hown, hx9⟩
 replace hC2 := hx9.blk hC2 (fun h => h)
 replace hC3 := hx9.blk hC3 (fun h => h)
 replace hx := hx.tr hx9
 have hs9 := hx9.size
 replace hown : w9.ownsRow w3.heap.size _ 5 v1 (cutA xs).1.length _ := hown
 have hTl := cutA_len xs
 obtain ⟨ta, tc, hv1⟩ : ∃ a c, v1 = .slice a (cutA xs).1.length c := (Sl.own hown).isSlice
 subst hv1
 have hTt := cut_texts xs
 have hPN : ¬ (cutA xs).2.1 = 0 → parseA xs = ([], (cutA xs).2) := fun h => by rw [parseA, if_neg h]
 have hPA : (cutA xs).2.1 = 0 → ∀ e i, defsT (cutA xs).1 ((cutA xs).1.length + 2) 0 0 = .bad e i → parseA xs = ([], e, plc (cutA xs).1 xs.length i) := fun h e i h2 => by rw [parseA, if_pos h, h2]
 have hPO : (cutA xs).2.1 = 0 → ∀ D i, defsT (cutA xs).1 ((cutA xs).1.length + 2) 0 0 = .ok D i → parseA xs = (D.map (plD (cutA xs).1), 0, 0) := fun h D i h2 => by rw [parseA, if_pos h, h2]
 refine WL.c rfl (o_mvh (by first | exact (show _ = Value.tuple _ from rfl) | exact rfl) (WL.c rfl (o_ext rfl rfl (WL.c rfl (o_ext rfl rfl (WL.c rfl (o_ash (by first | exact vS | exact rfl) (WL.u (o_stA TI28 rfl (show _ = Value.agg (faultV (cutA xs).2.1 (cutA xs).2.2) from rfl) rfl rfl hC3 rfl ?_)))))))))
 intro w5 hC3' ho5 hs5
 replace hC2 := ho5.blk hC2 (show ¬ c2 = c3 by omega)
 replace hC3 : w5.heap[c3]? = some (.cells (faultV (cutA xs).2.1 (cutA xs).2.2) 28 (0, 0)) := hC3'
 replace hx := hx.trans' ho5 (fun _ h => h) (fun k hk he => by omega)
 replace hown := own_only hown ho5 (fun k hk he => by have := (hown.lt k hk).1; omega)
 clear hC3'
 refine WL.nil (WF.seq (WF.seq (WF.of (W.region (WL.c rfl (o_fa 0 TI28 rfl TI26 rfl rfl (WL.c rfl (o_ld TI26 rfl rfl (cell_of hC3 rfl) (WL.c rfl (o_ne rfl rfl (WL.nil (WF.cond rfl (fun c14 => ?_) (fun c14 => ?_)))))))))))))
 ·try simp only [cs8] at c14
  have hce : ¬ (cutA xs).2.1 = 0 := by omega
  refine WF.seq (WF.of (W.cut (fun e1 w1 => e1 2 = .pointer (some ⟨c2, 0, none⟩) ∧ e1 3 = .pointer (some ⟨c3, 0, none⟩) ∧ w1.heap[c2]? = some (.cells #[.slice none 0 0] 25 (0, 0)) ∧ w1.heap[c3]? = some (.cells (faultV (cutA xs).2.1 (cutA xs).2.2) 28 (0, 0)) ∧ Ext w0 w1) ?_ ?_))
  ·-- region 3
   refine W.enum rfl ?_
   have hdr := Only.drew w5
   replace hown := own_ext hown hdr
   replace hC2 := hdr.blk hC2 (fun h => h)
   replace hC3 := hdr.blk hC3 (fun h => h)
   replace hx := hx.tr hdr
   clear hdr
   generalize w5.drew = wd at *
   refine WA.step (r := [0, 1]) (by kernel_rfl) (by decide) (all2 ?_ ?_)
   ·skip
    refine WO.c rfl rfl (o_bldC (cs := [(.slice none 0 0)]) TI25 (Sizes.cons TI23 Sizes.nil) rfl lnp rfl rfl (WA.step (r := [1, 2]) (by kernel_rfl) (by decide) (all2 ?_ ?_)))
    ·skip
     refine WO.c rfl rfl (o_ldA TI28 rfl rfl (cells_all hC3) rfl (WA.step (r := [2]) (by kernel_rfl) (by decide) (all1 (WO.u rfl (o_stA TI25 rfl (show _ = Value.agg #[.slice none 0 0] from rfl) rfl rfl hC2 rfl ?_)))))
     intro w6 hC2' ho6 hs6
     replace hown := own_only hown ho6 (fun k hk he => by have := (hown.lt k hk).1; omega)
     replace hC3 := ho6.blk hC3 (show ¬ c3 = c2 by omega)
     replace hC2 := hC2'
     replace hx := hx.trans' ho6 (fun _ h => h) (fun k hk he => by omega)
     refine WA.step (r := [3]) (by kernel_rfl) (by decide) (all1 (WO.u rfl (o_stA TI28 rfl (show _ = Value.agg (faultV (cutA xs).2.1 (cutA xs).2.2) from rfl) rfl rfl hC3 rfl ?_)))
     intro w5 hC3' ho5 hs5
     replace hC2 := ho5.blk hC2 (show ¬ c2 = c3 by omega)
     replace hC3 : w5.heap[c3]? = some (.cells (faultV (cutA xs).2.1 (cutA xs).2.2) 28 (0, 0)) := hC3'
     replace hx := hx.trans' ho5 (fun _ h => h) (fun k hk he => by omega)
     replace hown := own_only hown ho5 (fun k hk he => by have := (hown.lt k hk).1; omega)
     clear hC3'
     refine WA.done (by kernel_rfl) ?_
     exact ⟨rfl, rfl, hC2, hC3, hx⟩
    skip
    refine WO.u rfl (o_stA TI25 rfl (show _ = Value.agg #[.slice none 0 0] from rfl) rfl rfl hC2 rfl ?_)
    intro w6 hC2' ho6 hs6
    replace hown := own_only hown ho6 (fun k hk he => by have := (hown.lt k hk).1; omega)
    replace hC3 := ho6.blk hC3 (show ¬ c3 = c2 by omega)
    replace hC2 := hC2'
    replace hx := hx.trans' ho6 (fun _ h => h) (fun k hk he => by omega)
    refine WA.step (r := [1]) (by kernel_rfl) (by decide) (all1 (WO.c rfl rfl (o_ldA TI28 rfl rfl (cells_all hC3) rfl (WA.step (r := [3]) (by kernel_rfl) (by decide) (all1 (WO.u rfl (o_stA TI28 rfl (show _ = Value.agg (faultV (cutA xs).2.1 (cutA xs).2.2) from rfl) rfl rfl hC3 rfl ?_)))))))
    intro w5 hC3' ho5 hs5
    replace hC2 := ho5.blk hC2 (show ¬ c2 = c3 by omega)
    replace hC3 : w5.heap[c3]? = some (.cells (faultV (cutA xs).2.1 (cutA xs).2.2) 28 (0, 0)) := hC3'
    replace hx := hx.trans' ho5 (fun _ h => h) (fun k hk he => by omega)
    replace hown := own_only hown ho5 (fun k hk he => by have := (hown.lt k hk).1; omega)
    clear hC3'
    refine WA.done (by kernel_rfl) ?_
    exact ⟨rfl, rfl, hC2, hC3, hx⟩
   skip
   refine WO.c rfl rfl (o_ldA TI28 rfl rfl (cells_all hC3) rfl (WA.step (r := [0]) (by kernel_rfl) (by decide) (all1 (WO.c rfl rfl (o_bldC (cs := [(.slice none 0 0)]) TI25 (Sizes.cons TI23 Sizes.nil) rfl lnp rfl rfl (WA.step (r := [2]) (by kernel_rfl) (by decide) (all1 (WO.u rfl (o_stA TI25 rfl (show _ = Value.agg #[.slice none 0 0] from rfl) rfl rfl hC2 rfl ?_)))))))))
   intro w6 hC2' ho6 hs6
   replace hown := own_only hown ho6 (fun k hk he => by have := (hown.lt k hk).1; omega)
   replace hC3 := ho6.blk hC3 (show ¬ c3 = c2 by omega)
   replace hC2 := hC2'
   replace hx := hx.trans' ho6 (fun _ h => h) (fun k hk he => by omega)
   refine WA.step (r := [3]) (by kernel_rfl) (by decide) (all1 (WO.u rfl (o_stA TI28 rfl (show _ = Value.agg (faultV (cutA xs).2.1 (cutA xs).2.2) from rfl) rfl rfl hC3 rfl ?_)))
   intro w5 hC3' ho5 hs5
   replace hC2 := ho5.blk hC2 (show ¬ c2 = c3 by omega)
   replace hC3 : w5.heap[c3]? = some (.cells (faultV (cutA xs).2.1 (cutA xs).2.2) 28 (0, 0)) := hC3'
   replace hx := hx.trans' ho5 (fun _ h => h) (fun k hk he => by omega)
   replace hown := own_only hown ho5 (fun k hk he => by have := (hown.lt k hk).1; omega)
   clear hC3'
   refine WA.done (by kernel_rfl) ?_
   exact ⟨rfl, rfl, hC2, hC3, hx⟩
  rintro e w ⟨h2, h3, hC2, hC3, hx⟩
  refine WF.of (W.ret (Lv.ret (R := fun v w' => v = .tuple #[.agg #[.slice none 0 0], .agg (faultV (cutA xs).2.1 (cutA xs).2.2)] ∧ w' = w) (retAA rfl TI25 rfl TI28 rfl h2 h3 (show Cells w c2 0 [.slice none 0 0] from Cells.of hC2 0 _ (by simp)) rfl (show Cells w c3 0 (faultV (cutA xs).2.1 (cutA xs).2.2).toList from Cells.of hC3 0 _ (by simp [faultV])) rfl ⟨rfl, rfl⟩) ?_))
  rintro v w' ⟨rfl, rfl⟩
  rw [hPN hce]
  exact ⟨.slice none 0 0, fun _ => undef, rfl, Defs.nil _ _ _, hx⟩
 try simp only [cs8] at c14
 have hce : (cutA xs).2.1 = 0 := by omega
 have hPC : (cutA xs).2.2 = 0 := cutA_ok hce
 have hC30 : w5.heap[c3]? = some (.cells #[.int .i64 0, .int .i64 0] 28 (0, 0)) := by rw [hce, hPC] at hC3; exact hC3
 clear hC3
 have hC3 := hC30
 refine WF.of (W.skip (WF.seq (WF.region (WLF.c rfl (o_mkF (lc rfl (lc rfl ln)) (WLF.d rfl (WLF.nil (WF.of (W.mono (Q' := ParseQ xs c2 c3 w0) ?_ ?_)))))))))
 rotate_left
 ·rintro x e w hq
  cases x with
  | ret =>
   obtain ⟨dv, V, g2, g3, gA, gC2, gC3, gD, gx⟩ := hq
   refine Lv.one Try.call20 (by simp) (S := fun u2 w' => u2 = .returning ∧ w' = w) ((parse1_ret c2 c3 w).mono (fun en u w' h => by cases en <;> exact h)) ?_
   rintro u' w11 ⟨rfl, rfl⟩
   refine Lv.ret (R := fun v w' => v = .tuple #[.agg #[dv], .agg #[.int .i64 0, .int .i64 0]] ∧ w' = w11) (retAA rfl TI25 rfl TI28 rfl g2 g3 (show Cells w11 c2 0 [dv] from Cells.of gC2 0 _ (by simp)) rfl (show Cells w11 c3 0 [.int .i64 0, .int .i64 0] from Cells.of gC3 0 _ (by simp)) rfl ⟨rfl, rfl⟩) ?_
   rintro v w' ⟨rfl, rfl⟩
   exact ⟨dv, V, by rw [gA]; rfl, by rw [hBB]; exact gD, gx⟩
  | panic ch =>
   obtain ⟨er, j, dv, y1, y2, g2, g3, gA, rfl, gC2, gC3, gx⟩ := hq
   refine Lv.one Try.call20 (by simp) (S := fun u2 w' => u2 = .panicking [{ pan er (plc (cutA xs).1 xs.length j) with recovered := true }] ∧ (w'.heap[c2]? = some (.cells #[.slice none 0 0] 25 (0, 0)) ∧ w'.heap[c3]? = some (.cells #[.int .i64 (er : Int), .int .i64 (plc (cutA xs).1 xs.length j : Int)] 28 (0, 0)) ∧ Only (fun k => k = c2 ∨ k = c3) w w')) ((parse1_panic c2 c3 er (plc (cutA xs).1 xs.length j) _ _ _ w gC2 gC3).mono (fun en u w' h => by cases en <;> exact h)) ?_
   rintro u' w9 ⟨rfl, hB2, hB3, ho9⟩
   refine Lv.ret (R := fun v w' => v = .tuple #[.agg #[.slice none 0 0], .agg #[.int .i64 (er : Int), .int .i64 (plc (cutA xs).1 xs.length j : Int)]] ∧ w' = w9) (retAA rfl TI25 rfl TI28 rfl g2 g3 (show Cells w9 c2 0 [.slice none 0 0] from Cells.of hB2 0 _ (by simp)) rfl (show Cells w9 c3 0 [.int .i64 (er : Int), .int .i64 (plc (cutA xs).1 xs.length j : Int)] from Cells.of hB3 0 _ (by simp)) rfl ⟨rfl, rfl⟩) ?_
   rintro v w' ⟨rfl, rfl⟩
   rw [gA]
   exact ⟨.slice none 0 0, fun _ => undef, rfl, Defs.nil _ _ _, gx.trans' ho9 (fun _ h => h) (fun k hk hF => by omega)⟩
  | _ => exact hq.elim
 refine W.seq (W.region (WL.c rfl (o_mvh (by first | exact vS | exact rfl) (WL.c rfl (o_mvh (show _ = Value.string _ from rfl) (WL.c rfl (o_lenT TI9 rfl (WL.c rfl (o_bldC (cs := [_, (.int .i64 0), _]) TI69 (Sizes.cons TI62 (Sizes.cons TI3 (Sizes.cons TI3 Sizes.nil))) rfl (lcp (show _ = Value.slice ta (cutA xs).1.length tc from rfl) (lcp vI lnp)) rfl rfl (WL.c rfl (o_boxB rfl ?_)))))))))))
 intro w22 hC22 hx22 hs22
 obtain ⟨p, hp⟩ : ∃ c, c = w5.heap.size := ⟨_, rfl⟩
 rw [← hp] at hC22 hs22 ⊢
 replace hC22 : w22.heap[p]? = some (.cells #[.slice ta (cutA xs).1.length tc, .int .i64 ((0 : Nat) : Int), .int .i64 (xs.length : Int)] 69 (0, 0)) := hC22
 have h5s : w5.heap.size = w9.heap.size := hs5
 obtain ⟨B, hB⟩ : ∃ B, B = p + 1 := ⟨_, rfl⟩
 have h : Psr w22 B p (.slice ta (cutA xs).1.length tc) (cutA xs).1 xs.length 0 := ⟨hC22, Sl.ext (Sl.own hown) hx22, fun b hb => by have := (hown.lt b hb).2; omega, by omega, Nat.zero_le _, by omega, by omega⟩
 replace hC2 := hx22.blk hC2 (fun h => h)
 replace hC3 := hx22.blk hC3 (fun h => h)
 replace hx := hx.tr hx22
 have hc2p : ¬ c2 = p := by omega
 have hc3p : ¬ c3 = p := by omega
 have hfu : ∀ k, k < w9.heap.size → ¬ B ≤ k := fun k hk => by omega
 have hBw : w0.heap.size ≤ B := by omega
 refine WL.c rfl (o_ash (by first | exact (show _ = Value.pointer _ from rfl) | exact rfl) (WL.nil (W.seq (W.block (W.loopN (fun g e w => ∃ (i : Nat) (D : List Df) (dv : Value) (V : Nat → Value), e 2 = .pointer (some ⟨c2, 0, none⟩) ∧ e 3 = .pointer (some ⟨c3, 0, none⟩) ∧ e 5 = .pointer (some ⟨p, 0, none⟩) ∧ Psr w B p (.slice ta (cutA xs).1.length tc) (cutA xs).1 xs.length i ∧ w.heap[c2]? = some (.cells #[dv] 25 (0, 0)) ∧ w.heap[c3]? = some (.cells #[.int .i64 0, .int .i64 0] 28 (0, 0)) ∧ Defs w B (D.map (plD (cutA xs).1)) dv V ∧ D.length ≤ i ∧ (cutA xs).1.length + 2 ≤ g + i ∧ defsT (cutA xs).1 ((cutA xs).1.length + 2) 0 0 = ((defsT (cutA xs).1 g i D.length).bind fun D' j => .ok (D ++ D') j) ∧ Ext w0 w) ?_ ?_)))))
 ·refine ⟨(cutA xs).1.length + 2, 0, [], .slice none 0 0, fun _ => undef, rfl, rfl, rfl, h, hC2, hC3, Defs.nil _ _ _, Nat.le_refl _, Nat.le_refl _, ?_, hx⟩
  cases defsT (cutA xs).1 ((cutA xs).1.length + 2) 0 0 <;> simp [Pr.bind]
 rintro g e w ⟨i, D, dv, V, h2, h3, h5, h, hC2, hC3, hD, hDi, hgi, hres, hx⟩
 refine W.seq (W.seq (W.quiet rfl (by kernel_rfl) (WQ.c rfl ((QO.o rfl fun _ => o_mvh h5 ⟨rfl, rfl⟩)) (WQ.c rfl ((QO.r fun _ => r_nil rfl)) (WQ.c rfl ((QO.o rfl fun _ => o_fa 1 TI69 rfl TI3 rfl rfl ⟨rfl, rfl⟩)) (WQ.c rfl ((QO.o rfl fun _ => o_ld TI3 rfl rfl (cell_of h.cell rfl) ⟨rfl, rfl⟩)) (WQ.c rfl ((QO.o rfl fun _ => o_mvh h5 ⟨rfl, rfl⟩)) (WQ.c rfl ((QO.r fun _ => r_nil rfl)) (WQ.c rfl ((QO.o rfl fun _ => o_fa 0 TI69 rfl TI62 rfl rfl ⟨rfl, rfl⟩)) (WQ.c rfl ((QO.o rfl fun _ => o_ld TI62 rfl rfl (cell_of h.cell rfl) ⟨rfl, rfl⟩)) (WQ.c rfl ((QO.r fun _ => r_lenR TI62 rfl h.toks)) (WQ.c rfl ((QO.o rfl fun _ => o_lt rfl rfl ⟨rfl, rfl⟩)) (WQ.nil ?_)))))))))))))
 intro nq
 have hxq := Only.drewN w nq
 replace h := h.ext hxq
 replace hC2 := hxq.blk hC2 (fun h => h)
 replace hC3 := hxq.blk hC3 (fun h => h)
 replace hD := hD.ext hxq
 replace hx := hx.tr hxq
 clear hxq
 generalize w.drewN nq = wq at *
 refine W.cond rfl (fun c32 => ?_) (fun c32 => ?_)
 ·try simp only [cs8] at c32
  have hil : i < (cutA xs).1.length := by omega
  obtain ⟨g, rfl⟩ : ∃ g', g = g' + 1 := ⟨g - 1, by omega⟩
  refine W.skip (W.block (W.seq (W.seq (W.region (WL.cut (fun e1 w1 => e1 2 = .pointer (some ⟨c2, 0, none⟩) ∧ e1 3 = .pointer (some ⟨c3, 0, none⟩) ∧ e1 5 = .pointer (some ⟨p, 0, none⟩) ∧ e1 40 = .bool (decide (D.length = 256 ∧ isT (tkA (cutA xs).1 i) 1 [116, 121, 112, 101] = true)) ∧ Ext wq w1) ?_ ?_)))))
  ·-- region 7
   refine WL.c rfl (o_fa 0 TI25 rfl TI23 rfl h2 (WL.c rfl (o_ld TI23 rfl rfl (cell_of hC2 rfl) (WL.c rfl (o_lenR TI23 rfl (Sl.own hD.row) (WL.c rfl (o_eq rfl rfl (WL.c rfl (o_mvh vB (WL.sp 4 rfl (fun g37 => ?_) (fun g37 => ?_)))))))))))
   ·skip
    refine WL.g rfl (g37) rfl (o_mvh h5 (WL.g rfl (g37) rfl (o_call Try.call21 (lc rfl (lc rfl (lc rfl ln))) ((is_spec B p (.slice ta (cutA xs).1.length tc) (cutA xs).1 xs.length i _ h 1 [116, 121, 112, 101]).mono ?_))))
    rintro v39 w39 ⟨rfl, hx39⟩
    refine WL.c rfl (o_pickA rfl rfl ?_)
    exact WL.nil (⟨h2, h3, h5, congrArg Value.bool (by rw [List.length_map] at g37; rw [Bool.eq_iff_iff]; simp_all <;> omega), by first | exact hx39 | exact Only.refl _ _⟩)
   skip
   refine WL.s rfl (g37) rfl (WL.s rfl (g37) rfl (WL.c rfl (o_pickF rfl (g37) ?_)))
   exact WL.nil (⟨h2, h3, h5, congrArg Value.bool (by rw [List.length_map] at g37; rw [Bool.eq_iff_iff]; simp_all <;> omega), by first | exact hx39 | exact Only.refl _ _⟩)
  rintro e w ⟨h2, h3, h5, h40, hx7⟩
  replace h := h.ext hx7
  replace hC2 := hx7.blk hC2 (fun h => h)
  replace hC3 := hx7.blk hC3 (fun h => h)
  replace hD := hD.ext hx7
  replace hx := hx.tr hx7
  refine W.cond h40 (fun c40 => ?_) (fun c40 => ?_)
  ·try simp only [cs8] at c40
   have hnm : D.length = 256 ∧ isT (tkA (cutA xs).1 i) 1 [116, 121, 112, 101] = true := by simpa using c40
   refine W.region (WL.c rfl (o_mvh h5 (WL.cx rfl (ox_call Try.call22 (lc rfl (lc rfl ln)) ((fails_spec B p (.slice ta (cutA xs).1.length tc) (cutA xs).1 xs.length i _ h 5).mono ?_ (fun ch w' hh => by obtain ⟨g2, g3⟩ := hh; exact ⟨5, i, dv, _, _, h2, h3, hPA hce _ _ (by rw [hres, defsT_s, if_neg (by omega), if_pos hnm]; rfl), g2, g3.blk hC2 (fun h => h), g3.blk hC3 (fun h => h), hx.tr g3⟩))))))
   exact fun _ _ hf => hf.elim
  try simp only [cs8] at c40
  have hnm : ¬ (D.length = 256 ∧ isT (tkA (cutA xs).1 i) 1 [116, 121, 112, 101] = true) := by simpa using c40
  refine W.skip (W.seq (W.region (WL.c rfl (o_mvh h5 (WL.cx rfl (ox_call Try.call23 (lc rfl (lc rfl (lc rfl ln))) ((want_spec B p (.slice ta (cutA xs).1.length tc) (cutA xs).1 xs.length i _ h 1 (by decide) [116, 121, 112, 101]).mono ?_ (fun ch w' hh => by obtain ⟨er, j, g1, g2, g3⟩ := hh; exact ⟨er, j, dv, _, _, h2, h3, hPA hce _ _ (by rw [hres, defsT_s, if_neg (by omega), if_neg hnm, g1]; rfl), g2, g3.blk hC2 (fun h => h), g3.blk hC3 (fun h => h), hx.tr g3⟩))))))))
  rintro v44 w44 ⟨hw1, h', ho⟩
  replace h := h'
  replace hC2 := ho.blk hC2 hc2p
  replace hC3 := ho.blk hC3 hc3p
  replace hD := hD.only ho (fun k hk he => by have := (hD.lt k hk).1; omega)
  replace hx := hx.trans' ho (fun _ h => h) (fun k hk he => by omega)
  refine WL.nil (W.seq (W.region (WL.c rfl (o_mvh h5 (WL.c rfl (o_call Try.call24 (lc rfl ln) ((place_spec B p (.slice ta (cutA xs).1.length tc) (cutA xs).1 xs.length (i + 1) _ h).mono ?_)))))))
  rintro v46 w46 ⟨rfl, hx46⟩
  replace h := h.ext hx46
  replace hC2 := hx46.blk hC2 (fun h => h)
  replace hC3 := hx46.blk hC3 (fun h => h)
  replace hD := hD.ext hx46
  replace hx := hx.tr hx46
  have hp46 := (Array.getElem?_eq_some_iff.1 h.cell).1
  have hc246 := (Array.getElem?_eq_some_iff.1 hC2).1
  have hc346 := (Array.getElem?_eq_some_iff.1 hC3).1
  have hx46s := hx.size
  have hD46 := hD
  refine WL.c rfl (o_bldC (cs := [(.string ⟨#[]⟩), _, (.slice none 0 0)]) TI39 (Sizes.cons TI9 (Sizes.cons TI3 (Sizes.cons TI37 Sizes.nil))) rfl (lcp vI lnp) rfl rfl (WL.c rfl (o_alB TI39 ?_)))
  intro wa hCa hxa hsa
  refine WL.u (o_stA TI39 rfl (show _ = Value.agg #[st [], .int .i64 (plc (cutA xs).1 xs.length (i + 1) : Int), .slice none 0 0] from rfl) rfl rfl hCa rfl ?_)
  intro wb hC6 hob hsb
  have hxb := Ext.own hxa (Nat.le_refl _) hob
  clear hCa hxa hob
  replace h := h.ext hxb
  replace hC2 := hxb.blk hC2 (fun h => h)
  replace hC3 := hxb.blk hC3 (fun h => h)
  replace hD := hD.ext hxb
  replace hx := hx.tr hxb
  obtain ⟨c6, hc6⟩ : ∃ c, c = w46.heap.size := ⟨_, rfl⟩
  rw [← hc6] at hC6 ⊢
  have hc6p : ¬ c6 = p := by omega
  have hc26 : ¬ c2 = c6 := by omega
  have hc36 : ¬ c3 = c6 := by omega
  have hc6B : B ≤ c6 := by omega
  have hDc6 : ∀ k, DF dv V (D.map (plD (cutA xs).1)).length k → ¬ k = c6 := fun k hk he => by have := (hD46.lt k hk).2; omega
  refine WL.nil (W.seq (W.region (WL.c rfl (o_mvh h5 (WL.cx rfl (ox_call Try.call25 (lc rfl ln) ((namep_spec B p (.slice ta (cutA xs).1.length tc) (cutA xs).1 xs.length (i + 1) _ h (hTt _)).mono ?_ (fun ch w' hh => by obtain ⟨er, j, g1, g2, g3⟩ := hh; exact ⟨er, j, dv, _, _, h2, h3, hPA hce _ _ (by rw [hres, defsT_s, if_neg (by omega), if_neg hnm, hw1, Pr.bind_ok, g1]; rfl), g2, g3.blk hC2 (fun h => h), g3.blk hC3 (fun h => h), hx.tr g3⟩))))))))
  rintro v49 w49 ⟨sn, hw2, rfl, h', ho⟩
  replace h := h'
  replace hC2 := ho.blk hC2 hc2p
  replace hC3 := ho.blk hC3 hc3p
  replace hD := hD.only ho (fun k hk he => by have := (hD.lt k hk).1; omega)
  replace hC6 := ho.blk hC6 hc6p
  replace hx := hx.trans' ho (fun _ h => h) (fun k hk he => by omega)
  have hnl : i + 1 < (cutA xs).1.length := by have := h.le; omega
  refine WL.c rfl (o_fa 0 TI39 rfl TI9 rfl rfl (WL.u (o_stB TI9 rfl (show _ = Value.string _ from rfl) rfl hC6 (show 0 < 3 by decide) ?_)))
  intro w50 hC6' ho6 hs6
  replace hC6 : w50.heap[c6]? = some (.cells #[st sn, .int .i64 (plc (cutA xs).1 xs.length (i + 1) : Int), .slice none 0 0] 39 (0, 0)) := hC6'
  clear hC6'
  replace h := h.keep ho6 (fun k hk => by omega)
  replace hC2 := ho6.blk hC2 hc26
  replace hC3 := ho6.blk hC3 hc36
  replace hD := hD.only ho6 hDc6
  replace hx := hx.trans' ho6 (fun _ h => h) (fun k hk he => by omega)
  refine WL.nil (W.seq (W.region (WL.c rfl (o_mvh h5 (WL.cx rfl (ox_call Try.call26 (lc rfl (lc rfl ln)) ((mark_spec B p (.slice ta (cutA xs).1.length tc) (cutA xs).1 xs.length (i + 1 + 1) _ h [61]).mono ?_ (fun ch w' hh => by obtain ⟨er, j, g1, g2, g3⟩ := hh; exact ⟨er, j, dv, _, _, h2, h3, hPA hce _ _ (by rw [hres, defsT_s, if_neg (by omega), if_neg hnm, hw1, Pr.bind_ok, hw2, Pr.bind_ok, g1]; rfl), g2, g3.blk hC2 (fun h => h), g3.blk hC3 (fun h => h), hx.tr g3⟩))))))))
  rintro v52 w52 ⟨hw3, h', ho⟩
  replace h := h'
  replace hC2 := ho.blk hC2 hc2p
  replace hC3 := ho.blk hC3 hc3p
  replace hD := hD.only ho (fun k hk he => by have := (hD.lt k hk).1; omega)
  replace hC6 := ho.blk hC6 hc6p
  replace hx := hx.trans' ho (fun _ h => h) (fun k hk he => by omega)
  refine WL.nil (W.seq (W.region (WL.c rfl (o_mvh h5 (WL.c rfl (o_bldC (cs := [(.int .i64 0), (.int .i64 0), (.string ⟨#[]⟩), (.string ⟨#[]⟩), (.int .i64 0), (.int .i64 0), (.int .i64 (-1))]) TI41 (Sizes.cons TI3 (Sizes.cons TI3 (Sizes.cons TI9 (Sizes.cons TI9 (Sizes.cons TI3 (Sizes.cons TI3 (Sizes.cons TI3 Sizes.nil))))))) rfl (lcp vI lnp) rfl rfl ?_))))))
  have hE2 := expr_spec (B0 := B) (p := p) (lv := .slice ta (cutA xs).1.length tc) (fin := xs.length) hTt ((cutA xs).1.length + 2) 0 0 (by omega) (by omega) (i + 1 + 1 + 1) exM [] (.slice none 0 0) _ (Nat.zero_le _) rfl h (World.ownsRow_nil _ _ _ _) (Nat.zero_le _)
  rw [plE_exM] at hE2
  have hs55 := hx.size
  have hD55 := hD
  have h55b := h.b0
  have hnil : True := trivial
  refine WL.cx rfl (ox_call Try.call27 (lc rfl (lc rfl (lc rfl (lc rfl ln)))) ((hE2).mono ?_ (fun ch w' hh => by obtain ⟨er, j, g1, g2, g3⟩ := hh; replace g1 : exprT (cutA xs).1 ((cutA xs).1.length + 2) (i + 1 + 1 + 1) exM 0 = .bad er j := g1; replace g3 : Only (fun k => k = p) _ w' := g3.mono (fun k _ hk => by rcases hk with hk | hk; exact hk; cases hk); exact ⟨er, j, dv, _, _, h2, h3, hPA hce _ _ (by rw [hres, defsT_s, if_neg (by omega), if_neg hnm, hw1, Pr.bind_ok, hw2, Pr.bind_ok, hw3, Pr.bind_ok, g1]; rfl), g2, g3.blk hC2 hc2p, g3.blk hC3 hc3p, hx.trans' g3 (fun _ h => h) (fun k hk he => by omega)⟩)))
  rintro v55 w55 ⟨N, j, hN, hty, hNl, hij, hvb, h', ho0⟩
  replace hN : exprT (cutA xs).1 ((cutA xs).1.length + 2) (i + 1 + 1 + 1) exM 0 = .ok N j := hN
  have ho : Only (fun k => k = p) _ w55 := ho0.mono (fun k _ hk => by rcases hk with hk | hk; exact hk; cases hk)
  clear ho0
  have hvb2 : ∀ k, v55.ownBlock = some k → w52.heap.size ≤ k := fun k hk => by rcases hvb k hk with h1 | h1; cases h1; exact h1
  replace hty := own_base hty hvb2
  have hc652 := (Array.getElem?_eq_some_iff.1 hC6).1
  replace h := h'
  replace hC2 := ho.blk hC2 hc2p
  replace hC3 := ho.blk hC3 hc3p
  replace hD := hD.only ho (fun k hk he => by have := (hD.lt k hk).1; omega)
  replace hC6 := ho.blk hC6 hc6p
  replace hx := hx.trans' ho (fun _ h => h) (fun k hk he => by omega)
  refine WL.c rfl (o_fa 2 TI39 rfl TI37 rfl rfl (WL.u (o_stB TI37 rfl (show _ = v55 from rfl) (own_one hty) hC6 (show 2 < 3 by decide) ?_)))
  intro w56 hC6' ho6 hs6
  replace hC6 : w56.heap[c6]? = some (.cells #[st sn, .int .i64 (plc (cutA xs).1 xs.length (i + 1) : Int), v55] 39 (0, 0)) := hC6'
  clear hC6'
  replace h := h.keep ho6 (fun k hk => by omega)
  replace hC2 := ho6.blk hC2 hc26
  replace hC3 := ho6.blk hC3 hc36
  replace hD := hD.only ho6 hDc6
  replace hx := hx.trans' ho6 (fun _ h => h) (fun k hk he => by omega)
  replace hty := own_only hty ho6 (fun k hk he => by have := hvb2 k hk; omega)
  refine WL.nil (W.seq (W.region (WL.c rfl (o_mvh h5 (WL.cx rfl (ox_call Try.call26 (lc rfl (lc rfl ln)) ((mark_spec B p (.slice ta (cutA xs).1.length tc) (cutA xs).1 xs.length j _ h [59]).mono ?_ (fun ch w' hh => by obtain ⟨er, j, g1, g2, g3⟩ := hh; exact ⟨er, j, dv, _, _, h2, h3, hPA hce _ _ (by rw [hres, defsT_s, if_neg (by omega), if_neg hnm, hw1, Pr.bind_ok, hw2, Pr.bind_ok, hw3, Pr.bind_ok, hN, Pr.bind_ok, g1]; rfl), g2, g3.blk hC2 (fun h => h), g3.blk hC3 (fun h => h), hx.tr g3⟩))))))))
  rintro v58 w58 ⟨hw4, h', ho⟩
  replace hty := own_only hty ho (fun k hk he => by have := hvb2 k hk; omega)
  replace h := h'
  replace hC2 := ho.blk hC2 hc2p
  replace hC3 := ho.blk hC3 hc3p
  replace hD := hD.only ho (fun k hk he => by have := (hD.lt k hk).1; omega)
  replace hC6 := ho.blk hC6 hc6p
  replace hx := hx.trans' ho (fun _ h => h) (fun k hk he => by omega)
  refine WL.nil (W.region (WL.c rfl (o_fa 0 TI25 rfl TI23 rfl h2 (WL.c rfl (o_ld TI23 rfl rfl (cell_of hC2 rfl) (WL.c rfl (o_ldA TI39 rfl rfl (show Cells _ c6 0 [st sn, .int .i64 (plc (cutA xs).1 xs.length (i + 1) : Int), v55] from Cells.of hC6 0 _ (by simp)) rfl ?_)))))))
  have hty1 := own_one hty
  refine WL.apO (B) rfl rfl TI23 TI39 rfl rfl hD.row (by decide) (by decide) rfl (dcell_one hty1) rfl (by rw [maxLen_eq, List.length_map]; omega) (by rw [List.length_map]; omega) (by have := h.b0; omega) ?_
  intro v63 w63 hown1 ho63 hob63 _
  replace hob63 : v63.ownBlock = dv.ownBlock ∨ _ := hob63
  replace ho63 : Only (fun k => dv.ownBlock = some k) _ _ := ho63
  have hdl : ∀ k, dv.ownBlock = some k → B ≤ k := fun k hk => (hD.row.lt k hk).1
  replace h := h.keep ho63 (fun k hk => by have := hdl k hk; omega)
  replace hC3 := ho63.blk hC3 (fun hk => by have := hdl _ hk; omega)
  have hC2o := hC2
  replace hC2 := ho63.blk hC2 (fun hk => by have := hdl _ hk; omega)
  have htys := hD.tys.only ho63 (fun j hj k hk hF => own_row_off hD.row (hD.tys.row j hj) (by decide) k hk hF)
  replace hty := own_only hty ho63 (fun k hk hF => own_row_off hD.row hty (by decide) k hk hF)
  replace hx := hx.trans' ho63 (fun _ h => h) (fun k hk hF => by have := hdl k hF; omega)
  have hV55 : ∀ j, j < (D.map (plD (cutA xs).1)).length → ∀ k, (V j).ownBlock = some k → k < w52.heap.size := fun j hj k hk => (hD55.tys.lt hj hk).2
  have hB52 : B ≤ w52.heap.size := by have := h55b; omega
  have hpd : dcell (plD (cutA xs).1 ⟨sn, ((i + 1 : Nat) : Int), N⟩) v55 = [st sn, .int .i64 (plc (cutA xs).1 xs.length (i + 1) : Int), v55] := by rw [plc_lt hnl]; rfl
  have hDn := Defs.snoc (d := plD (cutA xs).1 ⟨sn, ((i + 1 : Nat) : Int), N⟩) (by rw [hpd]; exact hown1) htys hty hB52 hV55
  have h63c : ¬ v63.ownBlock = some c2 := own_off hown1 hC2 (by decide)
  refine WL.c rfl (o_fa 0 TI25 rfl TI23 rfl h2 (WL.u (o_stB TI23 rfl (show _ = v63 from rfl) (own_one hown1) hC2 (show 0 < 1 by decide) ?_)))
  intro w64 hC2' ho64 hs64
  replace hC2 : w64.heap[c2]? = some (.cells #[v63] 25 (0, 0)) := hC2'
  replace hC3 := ho64.blk hC3 (show ¬ c3 = c2 by omega)
  replace h := h.move2 ho64 (show ¬ p = c2 by omega) (fun b hb => by have := (hown.lt b hb).1; omega)
  have hDm := hDn.only ho64 (fun k hk he => by have := (hDn.lt k hk).1; omega)
  replace hx := hx.trans' ho64 (fun _ h => h) (fun k hk he => by omega)
  refine WL.nil (⟨g, by omega, j + 1, D ++ [⟨sn, ((i + 1 : Nat) : Int), N⟩], v63, _, h2, h3, h5, h, hC2, hC3, (by rw [List.map_append, List.map_singleton]; exact hDm), by rw [List.length_append, List.length_singleton]; omega, by omega, ?_, hx⟩)
  rw [hres, defsT_s, if_neg (by omega), if_neg hnm, hw1, Pr.bind_ok, hw2, Pr.bind_ok, hw3, Pr.bind_ok, hN, Pr.bind_ok, hw4, Pr.bind_ok, List.length_append, List.length_singleton]
  cases defsT (cutA xs).1 g (j + 1) (D.length + 1) <;> simp [Pr.bind]
 try simp only [cs8] at c32
 have hil : (cutA xs).1.length ≤ i := by omega
 obtain ⟨g, rfl⟩ : ∃ g', g = g' + 1 := ⟨g - 1, by have := h.le; omega⟩
 have hfin := hPO hce _ _ (hres.trans (by rw [defsT_s, if_pos hil]; rfl))
 refine W.exit (W.seq (W.region (WL.c rfl (o_ldA TI25 rfl h2 (show Cells _ c2 0 [dv] from Cells.of hC2 0 _ (by simp)) rfl (WL.c rfl (o_bldC (cs := [(.int .i64 0), (.int .i64 0)]) TI28 (Sizes.cons TI26 (Sizes.cons TI3 Sizes.nil)) rfl lnp rfl rfl (WL.u (o_stA TI25 h2 (show _ = Value.agg #[dv] from rfl) rfl (by simp [own_one hD.row]) hC2 rfl ?_))))))))
 intro wa hC2' hoa hsa
 replace hC3 := hoa.blk hC3 (show ¬ c3 = c2 by omega)
 replace hD := hD.only hoa (fun k hk he => by have := (hD.lt k hk).1; omega)
 replace hx := hx.trans' hoa (fun _ h => h) (fun k hk he => by omega)
 refine WL.u (o_stA TI28 h3 (show _ = Value.agg #[.int .i64 0, .int .i64 0] from rfl) rfl rfl hC3 rfl ?_)
 intro wb hC3' hob hsb
 replace hC2 := hob.blk hC2' (show ¬ c2 = c3 by omega)
 replace hD := hD.only hob (fun k hk he => by have := (hD.lt k hk).1; omega)
 replace hx := hx.trans' hob (fun _ h => h) (fun k hk he => by omega)
 refine WL.nil (W.ret ?_)
 rw [List.append_nil] at hfin
 exact ⟨dv, V, h2, h3, by rw [hfin], hC2, hC3', by rw [hfin]; exact hD.mono hBw, hx⟩
end Go.Proofs.Ytpbflfgigfdohaa

namespace Go.Proofs.Ytpbflfgigfdohaa
open Go Go.Vc Go.RowKit Go.Proofs

def Asc (lo : Nat) : List Tk → Prop
 | [] => True
 | t :: ts => lo ≤ t.at_ ∧ t.at_ < t.fin ∧ Asc t.fin ts
theorem oneL_at {xs : List UInt8} {k : Nat} {h : k < xs.length} (he : (oneL xs k h).1 = 0) : (oneL xs k h).2.at_ = k := by
 unfold oneL at he ⊢
 repeat' split
 all_goals first | rfl | skip
theorem cutL_asc (xs : List UInt8) : ∀ k, Asc k (cutL xs k).1 ∧ ∀ t ∈ (cutL xs k).1, ∃ h : t.at_ < xs.length, oneL xs t.at_ h = (0, t) := by
 intro k
 induction hn : xs.length - k using Nat.strongRecOn generalizing k with
 | _ n ih =>
  have asc_le : ∀ {a b : Nat} {l : List Tk}, a ≤ b → Asc b l → Asc a l := fun {a b l} hab h => by
   cases l with
   | nil => trivial
   | cons t ts => exact ⟨Nat.le_trans hab h.1, h.2⟩
  rw [cutL_eq]
  split
  ·rename_i hk
   split
   ·have h1 := (runL_le (p := nnlB) (k := k + 1) (xs := xs) (by omega)).1
    have h2 := ih (xs.length - runL nnlB xs (k + 1)) (by omega) _ rfl
    exact ⟨asc_le (by omega) h2.1, h2.2⟩
   split
   ·have h2 := ih (xs.length - (k + 1)) (by omega) _ rfl
    exact ⟨asc_le (by omega) h2.1, h2.2⟩
   split
   ·rename_i he
    have h1 := oneL_fin xs k hk he
    have h3 := oneL_at he
    have h2 := ih (xs.length - (oneL xs k hk).2.fin) (by omega) _ rfl
    refine ⟨⟨by omega, by omega, h2.1⟩, fun t ht => ?_⟩
    rcases List.mem_cons.1 ht with rfl | ht
    ·refine ⟨by omega, ?_⟩
     simp only [h3]
     exact Prod.ext he rfl
    exact h2.2 t ht
   exact ⟨trivial, fun t ht => by cases ht⟩
  exact ⟨trivial, fun t ht => by cases ht⟩
/-- a token that stands in a text -/
structure TokIn (xs : List UInt8) (t : Tk) : Prop where
 lt : t.at_ < t.fin
 le : t.fin ≤ xs.length
 kind : t.kind = 1 ∨ t.kind = 2 ∨ t.kind = 3
 text : t.kind ≠ 2 → t.text = sub xs t.at_ t.fin
 num : t.kind = 2 → t.text = []
 zero : t.kind ≠ 2 → t.n = 0
 small : t.n ≤ 2147483647
theorem numF_le : ∀ (xs : List UInt8) (n : Nat), (numF n xs).1 ≤ 2147483647 ∨ (numF n xs).2 ≠ 0 ∨ (numF n xs).1 = n := by
 intro xs
 induction xs with
 | nil => intro n; exact .inr (.inr rfl)
 | cons c cs ih =>
  intro n
  unfold numF
  split
  ·exact .inl (Nat.zero_le _)
  rename_i hh
  rcases ih (10 * n + (c.toNat - 48)) with h1 | h1 | h1
  ·exact .inl h1
  ·exact .inr (.inl h1)
  exact .inl (by rw [h1]; omega)


theorem tok_in {xs : List UInt8} {t : Tk} (h : t.at_ < xs.length) (ho : oneL xs t.at_ h = (0, t)) : TokIn xs t := by
 have hf := oneL_fin xs t.at_ h (by rw [ho])
 rw [ho] at hf
 obtain ⟨k, tx, n, a, f⟩ := t
 simp only at h ho hf
 unfold oneL at ho
 split at ho
 ·split at ho
  ·cases ho
  simp only [Prod.mk.injEq, Tk.mk.injEq] at ho
  obtain ⟨-, rfl, rfl, rfl, -, rfl⟩ := ho
  exact ⟨hf.1, hf.2, .inl rfl, fun _ => rfl, fun h => (by cases h), fun _ => rfl, Nat.zero_le _⟩
 split at ho
 ·simp only [Prod.mk.injEq, Tk.mk.injEq] at ho
  obtain ⟨h0, rfl, rfl, rfl, -, rfl⟩ := ho
  refine ⟨hf.1, hf.2, .inr (.inl rfl), fun h => absurd rfl h, fun _ => rfl, fun h => absurd rfl h, ?_⟩
  show (numL _).1 ≤ _
  unfold numL at h0 ⊢
  split
  ·exact Nat.zero_le _
  rename_i hl
  rw [if_neg hl] at h0
  rcases numF_le (sub xs a (runL digB xs a)) 0 with g | g | g
  ·exact g
  ·exact absurd h0 g
  rw [g]; exact Nat.zero_le _
 split at ho
 ·simp only [Prod.mk.injEq, Tk.mk.injEq] at ho
  obtain ⟨-, rfl, rfl, rfl, -, rfl⟩ := ho
  exact ⟨hf.1, hf.2, .inr (.inr rfl), fun _ => rfl, fun h => (by cases h), fun _ => rfl, Nat.zero_le _⟩
 cases ho
theorem cutA_toks (xs : List UInt8) : Asc 0 (cutA xs).1 ∧ ∀ t ∈ (cutA xs).1, TokIn xs t := by
 unfold cutA
 split
 ·exact ⟨trivial, fun t ht => by cases ht⟩
 split
 ·have h := cutL_asc xs 0
  exact ⟨h.1, fun t ht => by obtain ⟨h1, h2⟩ := h.2 t ht; exact tok_in h1 h2⟩
 exact ⟨trivial, fun t ht => by cases ht⟩
theorem cut_in {xs : List UInt8} {i : Nat} (h : i < (cutA xs).1.length) : TokIn xs (tkA (cutA xs).1 i) := by
 rw [tkA_lt h]; exact (cutA_toks xs).2 _ (List.getElem_mem h)
theorem parseA_bad {xs : List UInt8} (h : (parseA xs).2.1 ≠ 0) : (parseA xs).1 = [] := by
 unfold parseA at h ⊢
 split
 ·rename_i h1
  rw [if_pos h1] at h
  split
  ·rename_i D j h2; rw [h2] at h; exact absurd rfl h
  rfl
 rfl
def hdOk (T : List Tk) (u : Bool) (i : Nat) : Prop := if u then (tkA T i).kind = 2 else nmT (tkA T i) = true
def hdE (T : List Tk) (u : Bool) (i : Nat) : Ex := if u then { ex0 with at_ := i, tag := (tkA T i).n } else { ex0 with at_ := i, label := (tkA T i).text }
/-- a type (none) or rows behind their bracket, of which k were ahead -/
inductive PX (T : List Tk) : Option (Bool × Nat) → Nat → Nat → Ex → List Ex → Nat → Nat → Prop
 | leaf {deep i : Nat} {x : Ex} {kn : Int × Int} (hb : bgnT (tkA T i) = true) (hd : deep ≤ 16) (hl : leafE (tkA T i).text = some kn) : PX T none deep i x [(atE i x).lf kn.1 kn.2] 0 (i + 1)
 | nm {deep i : Nat} {x : Ex} (hb : bgnT (tkA T i) = true) (hd : deep ≤ 16) (hl : leafE (tkA T i).text = none) (hv : ¬ ((tkA T i).text = [118, 101, 99, 116, 111, 114] ∨ (tkA T i).text = [108, 105, 115, 116])) (ho : ¬ (tkA T i).text = [111, 112, 116, 105, 111, 110]) (hu : ¬ (tkA T i).text = [117, 110, 105, 111, 110]) (hs : ¬ (tkA T i).text = [115, 116, 114, 117, 99, 116]) : PX T none deep i x [(atE i x).nm (tkA T i).text] 0 (i + 1)
 | vec {deep i : Nat} {x : Ex} {N : List Ex} {j : Nat} (hb : bgnT (tkA T i) = true) (hd : deep ≤ 16) (hl : leafE (tkA T i).text = none) (hv : (tkA T i).text = [118, 101, 99, 116, 111, 114] ∨ (tkA T i).text = [108, 105, 115, 116]) (h1 : isT (tkA T (i + 1)) 3 [60] = true) (hN : PX T none (deep + 1) (i + 2) exM N 0 j) (h2 : isT (tkA T j) 3 [44] = true) (h3 : (tkA T (j + 1)).kind = 2) (h4 : isT (tkA T (j + 2)) 3 [62] = true) : PX T none deep i x ((atE i x).vec (decide ((tkA T i).text = [108, 105, 115, 116])) (tkA T (j + 1)).n :: N) 0 (j + 3)
 | opt {deep i : Nat} {x : Ex} {N : List Ex} {j : Nat} (hb : bgnT (tkA T i) = true) (hd : deep ≤ 16) (hl : leafE (tkA T i).text = none) (ho : (tkA T i).text = [111, 112, 116, 105, 111, 110]) (h1 : isT (tkA T (i + 1)) 3 [60] = true) (hN : PX T none (deep + 1) (i + 2) exM N 0 j) (h2 : isT (tkA T j) 3 [62] = true) : PX T none deep i x ((atE i x).opt :: N) 0 (j + 1)
 | br {deep i : Nat} {x : Ex} (u : Bool) {M : List Ex} {n j : Nat} (hb : bgnT (tkA T i) = true) (hd : deep ≤ 16) (hl : leafE (tkA T i).text = none) (hw : (tkA T i).text = if u then [117, 110, 105, 111, 110] else [115, 116, 114, 117, 99, 116]) (h1 : isT (tkA T (i + 1)) 3 [123] = true) (hM : PX T (some (u, 0)) deep (i + 2) ex0 M n j) : PX T none deep i x ((atE i x).br u (n : Nat) :: M) 0 j
 | last {deep i : Nat} {u : Bool} {k : Nat} {N : List Ex} {j : Nat} (hk : k < 64) (hh : hdOk T u i) (hc : isT (tkA T (i + 1)) 3 [58] = true) (hN : PX T none (deep + 1) (i + 2) (hdE T u i) N 0 j) (hm : isT (tkA T j) 3 [44] = false) (hr : isT (tkA T j) 3 [125] = true) : PX T (some (u, k)) deep i ex0 N (k + 1) (j + 1)
 | more {deep i : Nat} {u : Bool} {k : Nat} {N M : List Ex} {j n e : Nat} (hk : k < 64) (hh : hdOk T u i) (hc : isT (tkA T (i + 1)) 3 [58] = true) (hN : PX T none (deep + 1) (i + 2) (hdE T u i) N 0 j) (hm : isT (tkA T j) 3 [44] = true) (hR : PX T (some (u, k + 1)) deep (j + 1) ex0 M n e) : PX T (some (u, k)) deep i ex0 (N ++ M) n e
theorem bind_ok {α β : Type} {r : Pr α} {f : α → Nat → Pr β} {b : β} {j : Nat} (h : r.bind f = .ok b j) : ∃ a i, r = .ok a i ∧ f a i = .ok b j := by
 cases r with
 | ok a i => exact ⟨a, i, rfl, h⟩
 | bad e i => cases h
theorem wantT_ok {T : List Tk} {i k j : Nat} {s : List UInt8} {a : Unit} (h : wantT T i k s = .ok a j) : isT (tkA T i) k s = true ∧ j = i + 1 := by
 unfold wantT at h
 split at h
 ·rename_i h1; cases h; exact ⟨h1, rfl⟩
 cases h
theorem numT_ok {T : List Tk} {i j n : Nat} (h : numT T i = .ok n j) : (tkA T i).kind = 2 ∧ n = (tkA T i).n ∧ j = i + 1 := by
 unfold numT at h
 split at h
 ·rename_i h1; cases h; exact ⟨h1, rfl, rfl⟩
 cases h
theorem nameT_ok {T : List Tk} {i j : Nat} {s : List UInt8} (h : nameT T i = .ok s j) : nmT (tkA T i) = true ∧ s = (tkA T i).text ∧ j = i + 1 := by
 unfold nameT at h
 split at h
 ·rename_i h1; cases h; exact ⟨h1, rfl, rfl⟩
 cases h
theorem headT_ok {T : List Tk} {u full : Bool} {i j : Nat} {y : Ex} (h : headT T u full i { ex0 with at_ := i } = .ok y j) : hdOk T u i ∧ y = hdE T u i ∧ j = i + 1 ∧ full = false := by
 cases u
 ·rw [headT_s] at h
  split at h
  ·cases h
  rename_i hn
  obtain ⟨s, i2, h1, h2⟩ := bind_ok h
  obtain ⟨g1, rfl, rfl⟩ := nameT_ok h1
  cases h2
  refine ⟨g1, rfl, rfl, ?_⟩
  cases full
  ·rfl
  exact absurd ⟨rfl, g1⟩ hn
 rw [headT_u] at h
 split at h
 ·cases h
 rename_i hn
 obtain ⟨s, i2, h1, h2⟩ := bind_ok h
 obtain ⟨g1, rfl, rfl⟩ := numT_ok h1
 cases h2
 refine ⟨g1, rfl, rfl, ?_⟩
 cases full
 ·rfl
 exact absurd ⟨rfl, g1⟩ hn
theorem rows_px {T : List Tk} {E : Nat → Ex → Pr (List Ex)} {u : Bool} {deep : Nat} (hE : ∀ i x N j, E i x = .ok N j → PX T none (deep + 1) i x N 0 j) : ∀ (g i k : Nat) (M : List Ex) (n e : Nat), k ≤ 64 → rowsT E T u g i k = .ok (M, n) e → PX T (some (u, k)) deep i ex0 M n e
 | 0, i, k, M, n, e, hk, h => by cases h
 | g + 1, i, k, M, n, e, hk, h => by
  rw [rowsT_s] at h
  obtain ⟨y, i1, h1, h⟩ := bind_ok h
  obtain ⟨hh, rfl, rfl, hf⟩ := headT_ok h1
  obtain ⟨_, i2, h2, h⟩ := bind_ok h
  obtain ⟨hc, rfl⟩ := wantT_ok h2
  obtain ⟨N, j, h3, h⟩ := bind_ok h
  have hk2 : k < 64 := by simp at hf; omega
  split at h
  ·rename_i hm
   obtain ⟨⟨M', n'⟩, e', h4, h⟩ := bind_ok h
   cases h
   exact .more hk2 hh hc (hE _ _ _ _ h3) hm (rows_px hE g _ _ _ _ _ (by omega) h4)
  rename_i hm
  obtain ⟨_, e', h4, h⟩ := bind_ok h
  obtain ⟨hr, rfl⟩ := wantT_ok h4
  cases h
  exact .last hk2 hh hc (hE _ _ _ _ h3) (by simpa using hm) hr
theorem expr_px {T : List Tk} : ∀ (f i : Nat) (x : Ex) (deep : Nat) (N : List Ex) (j : Nat), exprT T f i x deep = .ok N j → PX T none deep i x N 0 j
 | 0, i, x, deep, N, j, h => by cases h
 | f + 1, i, x, deep, N, j, h => by
  rw [exprT_s] at h
  split at h
  ·cases h
  rename_i hb
  have hb : bgnT (tkA T i) = true := by simpa using hb
  split at h
  ·cases h
  rename_i hd
  have hd : deep ≤ 16 := by omega
  split at h
  ·rename_i kn hl
   cases h
   exact .leaf hb hd hl
  rename_i hl
  split at h
  ·rename_i hv
   obtain ⟨_, i1, h1, h⟩ := bind_ok h
   obtain ⟨g1, rfl⟩ := wantT_ok h1
   obtain ⟨M, j1, h2, h⟩ := bind_ok h
   obtain ⟨_, j2, h3, h⟩ := bind_ok h
   obtain ⟨g3, rfl⟩ := wantT_ok h3
   obtain ⟨n, j3, h4, h⟩ := bind_ok h
   obtain ⟨g4, rfl, rfl⟩ := numT_ok h4
   obtain ⟨_, j4, h5, h⟩ := bind_ok h
   obtain ⟨g5, rfl⟩ := wantT_ok h5
   cases h
   exact .vec hb hd hl hv g1 (expr_px f _ _ _ _ _ h2) g3 g4 g5
  rename_i hv
  split at h
  ·rename_i ho
   obtain ⟨_, i1, h1, h⟩ := bind_ok h
   obtain ⟨g1, rfl⟩ := wantT_ok h1
   obtain ⟨M, j1, h2, h⟩ := bind_ok h
   obtain ⟨_, j2, h3, h⟩ := bind_ok h
   obtain ⟨g3, rfl⟩ := wantT_ok h3
   cases h
   exact .opt hb hd hl ho g1 (expr_px f _ _ _ _ _ h2) g3
  rename_i ho
  split at h
  ·rename_i hu
   obtain ⟨⟨M, n⟩, j1, h2, h⟩ := bind_ok h
   obtain ⟨_, i1, h1, h2⟩ := bind_ok h2
   obtain ⟨g1, rfl⟩ := wantT_ok h1
   cases h
   exact .br true hb hd hl hu g1 (rows_px (fun i x N j hh => expr_px f i x _ N j hh) _ _ _ _ _ _ (by omega) h2)
  rename_i hu
  split at h
  ·rename_i hs
   obtain ⟨⟨M, n⟩, j1, h2, h⟩ := bind_ok h
   obtain ⟨_, i1, h1, h2⟩ := bind_ok h2
   obtain ⟨g1, rfl⟩ := wantT_ok h1
   cases h
   exact .br false hb hd hl hs g1 (rows_px (fun i x N j hh => expr_px f i x _ N j hh) _ _ _ _ _ _ (by omega) h2)
  rename_i hs
  cases h
  exact .nm hb hd hl hv ho hu hs

end Go.Proofs.Ytpbflfgigfdohaa

namespace Go.Proofs.Ytpbflfgigfdohaa
open Go Go.Vc Go.RowKit Go.Proofs

def okB (x : Ex) : Bool :=
 if x.kind = 1 then (decide (x.n = 1) || decide (x.n = 2) || decide (x.n = 4) || decide (x.n = 8)) && decide (x.kids = 0)
 else if x.kind = 2 ∨ x.kind = 3 ∨ x.kind = 9 then decide (x.n = 0) && decide (x.kids = 0)
 else if x.kind = 4 ∨ x.kind = 5 then decide (0 ≤ x.n) && decide (x.n ≤ 2147483647) && decide (x.kids = 1)
 else if x.kind = 6 then decide (x.n = 0) && decide (x.kids = 1)
 else if x.kind = 7 ∨ x.kind = 8 then decide (x.n = 0) && decide (1 ≤ x.kids)
 else false
def namB (x : Ex) : Bool := if x.kind = 9 then nameB x.name else decide (x.name = [])
def labB (x : Ex) (above : Int) : Bool := if above = 8 then nameB x.label else decide (x.label = [])
def tagB (x : Ex) (above : Int) : Bool := decide (x.tag = 0) || (decide (above = 7) && decide (0 < x.tag) && decide (x.tag ≤ 2147483647))
def rightB (x : Ex) (above : Int) : Bool := okB x && namB x && labB x above && tagB x above
set_option maxHeartbeats 2000000 in
theorem right_spec (x : Ex) (above : Int) (w0 : World) (hn : x.name.length ≤ 9223372036854775807) (hl : x.label.length ≤ 9223372036854775807) : Ca Try.prog 77 #[.agg (exV x).toArray, .int .i64 above] w0 (fun v w' => v = .bool (rightB x above) ∧ Ext w0 w') := by
 refine Ca.of Try.func77 Try.ntmps77 rfl rfl (W.seq (W.region (WL.c rfl (o_boxB rfl ?_))))
 intro w2 hC2 hx2 hs2
 obtain ⟨c2, hc2⟩ : ∃ c, c = w0.heap.size := ⟨_, rfl⟩
 rw [← hc2] at hC2 ⊢
 replace hC2 : w2.heap[c2]? = some (.cells (exV x).toArray 41 (0, 0)) := hC2
 refine WL.c rfl (o_ash vB (WL.nil (W.seq (W.region (WL.c rfl (o_ash vB (WL.nil (W.seq (W.seq (W.region (WL.c rfl (o_fa 0 TI41 rfl TI3 rfl rfl (WL.c rfl (o_ld TI3 rfl rfl (cell_of hC2 rfl) (WL.nil (W.block (W.seq (W.region (WL.c rfl (o_eq rfl rfl (WL.c rfl (o_ash vB (WL.nil (W.cut (fun e1 w1 => e1 1 = .int .i64 above ∧ e1 2 = .pointer (some ⟨c2, 0, none⟩) ∧ e1 5 = .bool (okB x) ∧ w1 = w2) ?_ ?_))))))))))))))))))))))))
 ·-- both ways
  refine W.cond rfl (fun c11 => ?_) (fun c11 => ?_)
  ·try simp only [cs8] at c11
   refine W.region (WL.c rfl (o_fa 1 TI41 rfl TI3 rfl rfl (WL.c rfl (o_ld TI3 rfl rfl (cell_of hC2 rfl) (WL.c rfl (o_eq rfl rfl (WL.c rfl (o_mvh vB (WL.sp 3 rfl (fun g16 => ?_) (fun g16 => ?_))))))))))
   ·skip
    refine WL.s rfl (g16) rfl (WL.s rfl (g16) rfl (WL.s rfl (g16) rfl (WL.c rfl (o_pickT rfl (g16) (WL.c rfl (o_mvh vB (WL.s rfl (rfl) rfl (WL.s rfl (rfl) rfl (WL.s rfl (rfl) rfl (WL.c rfl (o_pickT rfl (rfl) (WL.c rfl (o_mvh vB (WL.s rfl (rfl) rfl (WL.s rfl (rfl) rfl (WL.s rfl (rfl) rfl (WL.c rfl (o_pickT rfl (rfl) (WL.c rfl (o_mvh vB (WL.g rfl (rfl) rfl (o_fa 5 TI41 rfl TI3 rfl rfl (WL.g rfl (rfl) rfl (o_ld TI3 rfl rfl (cell_of hC2 rfl) (WL.g rfl (rfl) rfl (o_eq rfl rfl (WL.c rfl (o_pickA rfl rfl (WL.c rfl (o_ash vB (WL.nil ?_)))))))))))))))))))))))))))))))
    exact ⟨rfl, rfl, congrArg Value.bool (by rw [Bool.eq_iff_iff]; simp_all [okB] <;> omega), rfl⟩
   skip
   refine WL.g rfl (g16) rfl (o_fa 1 TI41 rfl TI3 rfl rfl (WL.g rfl (g16) rfl (o_ld TI3 rfl rfl (cell_of hC2 rfl) (WL.g rfl (g16) rfl (o_eq rfl rfl (WL.c rfl (o_pickO rfl rfl (WL.c rfl (o_mvh vB (WL.sp 8 rfl (fun g21 => ?_) (fun g21 => ?_)))))))))))
   ·skip
    refine WL.s rfl (g21) rfl (WL.s rfl (g21) rfl (WL.s rfl (g21) rfl (WL.c rfl (o_pickT rfl (g21) (WL.c rfl (o_mvh vB (WL.s rfl (rfl) rfl (WL.s rfl (rfl) rfl (WL.s rfl (rfl) rfl (WL.c rfl (o_pickT rfl (rfl) (WL.c rfl (o_mvh vB (WL.g rfl (rfl) rfl (o_fa 5 TI41 rfl TI3 rfl rfl (WL.g rfl (rfl) rfl (o_ld TI3 rfl rfl (cell_of hC2 rfl) (WL.g rfl (rfl) rfl (o_eq rfl rfl (WL.c rfl (o_pickA rfl rfl (WL.c rfl (o_ash vB (WL.nil ?_))))))))))))))))))))))))
    exact ⟨rfl, rfl, congrArg Value.bool (by rw [Bool.eq_iff_iff]; simp_all [okB] <;> omega), rfl⟩
   skip
   refine WL.g rfl (g21) rfl (o_fa 1 TI41 rfl TI3 rfl rfl (WL.g rfl (g21) rfl (o_ld TI3 rfl rfl (cell_of hC2 rfl) (WL.g rfl (g21) rfl (o_eq rfl rfl (WL.c rfl (o_pickO rfl rfl (WL.c rfl (o_mvh vB (WL.sp 13 rfl (fun g26 => ?_) (fun g26 => ?_)))))))))))
   ·skip
    refine WL.s rfl (g26) rfl (WL.s rfl (g26) rfl (WL.s rfl (g26) rfl (WL.c rfl (o_pickT rfl (g26) (WL.c rfl (o_mvh vB (WL.g rfl (rfl) rfl (o_fa 5 TI41 rfl TI3 rfl rfl (WL.g rfl (rfl) rfl (o_ld TI3 rfl rfl (cell_of hC2 rfl) (WL.g rfl (rfl) rfl (o_eq rfl rfl (WL.c rfl (o_pickA rfl rfl (WL.c rfl (o_ash vB (WL.nil ?_)))))))))))))))))
    exact ⟨rfl, rfl, congrArg Value.bool (by rw [Bool.eq_iff_iff]; simp_all [okB] <;> omega), rfl⟩
   skip
   refine WL.g rfl (g26) rfl (o_fa 1 TI41 rfl TI3 rfl rfl (WL.g rfl (g26) rfl (o_ld TI3 rfl rfl (cell_of hC2 rfl) (WL.g rfl (g26) rfl (o_eq rfl rfl (WL.c rfl (o_pickO rfl rfl (WL.c rfl (o_mvh vB (WL.sp 18 rfl (fun g31 => ?_) (fun g31 => ?_)))))))))))
   ·skip
    refine WL.g rfl (g31) rfl (o_fa 5 TI41 rfl TI3 rfl rfl (WL.g rfl (g31) rfl (o_ld TI3 rfl rfl (cell_of hC2 rfl) (WL.g rfl (g31) rfl (o_eq rfl rfl (WL.c rfl (o_pickA rfl rfl (WL.c rfl (o_ash vB (WL.nil ?_))))))))))
    exact ⟨rfl, rfl, congrArg Value.bool (by rw [Bool.eq_iff_iff]; simp_all [okB] <;> omega), rfl⟩
   skip
   refine WL.s rfl (g31) rfl (WL.s rfl (g31) rfl (WL.s rfl (g31) rfl (WL.c rfl (o_pickF rfl (g31) (WL.c rfl (o_ash vB (WL.nil ?_)))))))
   exact ⟨rfl, rfl, congrArg Value.bool (by rw [Bool.eq_iff_iff]; simp_all [okB] <;> omega), rfl⟩
  try simp only [cs8] at c11
  refine W.seq (W.seq (W.region (WL.c rfl (o_eq rfl rfl (WL.c rfl (o_ash vB (WL.nil (W.cond rfl (fun c36 => ?_) (fun c36 => ?_)))))))))
  ·try simp only [cs8] at c36
   refine W.skip (W.cond rfl (fun c36 => ?_) (fun c36 => ?_))
   ·try simp only [cs8] at c36
    refine W.region (WL.c rfl (o_fa 1 TI41 rfl TI3 rfl rfl (WL.c rfl (o_ld TI3 rfl rfl (cell_of hC2 rfl) (WL.c rfl (o_eq rfl rfl (WL.c rfl (o_mvh vB (WL.sp 3 rfl (fun g43 => ?_) (fun g43 => ?_))))))))))
    ·skip
     refine WL.g rfl (g43) rfl (o_fa 5 TI41 rfl TI3 rfl rfl (WL.g rfl (g43) rfl (o_ld TI3 rfl rfl (cell_of hC2 rfl) (WL.g rfl (g43) rfl (o_eq rfl rfl (WL.c rfl (o_pickA rfl rfl (WL.c rfl (o_ash vB (WL.nil ?_))))))))))
     exact ⟨rfl, rfl, congrArg Value.bool (by rw [Bool.eq_iff_iff]; simp_all [okB] <;> omega), rfl⟩
    skip
    refine WL.s rfl (g43) rfl (WL.s rfl (g43) rfl (WL.s rfl (g43) rfl (WL.c rfl (o_pickF rfl (g43) (WL.c rfl (o_ash vB (WL.nil ?_)))))))
    exact ⟨rfl, rfl, congrArg Value.bool (by rw [Bool.eq_iff_iff]; simp_all [okB] <;> omega), rfl⟩
   try simp only [cs8] at c36
   refine W.seq (W.seq (W.region (WL.c rfl (o_eq rfl rfl (WL.c rfl (o_ash vB (WL.nil (W.cond rfl (fun c48 => ?_) (fun c48 => ?_)))))))))
   ·try simp only [cs8] at c48
    refine W.skip (W.cond rfl (fun c48 => ?_) (fun c48 => ?_))
    ·try simp only [cs8] at c48
     refine W.region (WL.c rfl (o_fa 1 TI41 rfl TI3 rfl rfl (WL.c rfl (o_ld TI3 rfl rfl (cell_of hC2 rfl) (WL.c rfl (o_ge rfl rfl (WL.c rfl (o_mvh vB (WL.sp 3 rfl (fun g54 => ?_) (fun g54 => ?_))))))))))
     ·skip
      refine WL.g rfl (g54) rfl (o_fa 1 TI41 rfl TI3 rfl rfl (WL.g rfl (g54) rfl (o_ld TI3 rfl rfl (cell_of hC2 rfl) (WL.g rfl (g54) rfl (o_le rfl rfl (WL.c rfl (o_pickA rfl rfl (WL.c rfl (o_mvh vB (WL.sp 8 rfl (fun g59 => ?_) (fun g59 => ?_)))))))))))
      ·skip
       refine WL.g rfl (g59) rfl (o_fa 5 TI41 rfl TI3 rfl rfl (WL.g rfl (g59) rfl (o_ld TI3 rfl rfl (cell_of hC2 rfl) (WL.g rfl (g59) rfl (o_eq rfl rfl (WL.c rfl (o_pickA rfl rfl (WL.c rfl (o_ash vB (WL.nil ?_))))))))))
       exact ⟨rfl, rfl, congrArg Value.bool (by rw [Bool.eq_iff_iff]; simp_all [okB] <;> omega), rfl⟩
      skip
      refine WL.s rfl (g59) rfl (WL.s rfl (g59) rfl (WL.s rfl (g59) rfl (WL.c rfl (o_pickF rfl (g59) (WL.c rfl (o_ash vB (WL.nil ?_)))))))
      exact ⟨rfl, rfl, congrArg Value.bool (by rw [Bool.eq_iff_iff]; simp_all [okB] <;> omega), rfl⟩
     skip
     refine WL.s rfl (g54) rfl (WL.s rfl (g54) rfl (WL.s rfl (g54) rfl (WL.c rfl (o_pickF rfl (g54) (WL.c rfl (o_mvh vB (WL.s rfl (rfl) rfl (WL.s rfl (rfl) rfl (WL.s rfl (rfl) rfl (WL.c rfl (o_pickF rfl (rfl) (WL.c rfl (o_ash vB (WL.nil ?_))))))))))))))
     exact ⟨rfl, rfl, congrArg Value.bool (by rw [Bool.eq_iff_iff]; simp_all [okB] <;> omega), rfl⟩
    try simp only [cs8] at c48
    refine W.seq (W.region (WL.c rfl (o_eq rfl rfl (WL.c rfl (o_ash vB (WL.nil (W.cond rfl (fun c64 => ?_) (fun c64 => ?_))))))))
    ·try simp only [cs8] at c64
     refine W.region (WL.c rfl (o_fa 1 TI41 rfl TI3 rfl rfl (WL.c rfl (o_ld TI3 rfl rfl (cell_of hC2 rfl) (WL.c rfl (o_eq rfl rfl (WL.c rfl (o_mvh vB (WL.sp 3 rfl (fun g69 => ?_) (fun g69 => ?_))))))))))
     ·skip
      refine WL.g rfl (g69) rfl (o_fa 5 TI41 rfl TI3 rfl rfl (WL.g rfl (g69) rfl (o_ld TI3 rfl rfl (cell_of hC2 rfl) (WL.g rfl (g69) rfl (o_eq rfl rfl (WL.c rfl (o_pickA rfl rfl (WL.c rfl (o_ash vB (WL.nil ?_))))))))))
      exact ⟨rfl, rfl, congrArg Value.bool (by rw [Bool.eq_iff_iff]; simp_all [okB] <;> omega), rfl⟩
     skip
     refine WL.s rfl (g69) rfl (WL.s rfl (g69) rfl (WL.s rfl (g69) rfl (WL.c rfl (o_pickF rfl (g69) (WL.c rfl (o_ash vB (WL.nil ?_)))))))
     exact ⟨rfl, rfl, congrArg Value.bool (by rw [Bool.eq_iff_iff]; simp_all [okB] <;> omega), rfl⟩
    try simp only [cs8] at c64
    refine W.seq (W.seq (W.region (WL.c rfl (o_eq rfl rfl (WL.c rfl (o_ash vB (WL.nil (W.cond rfl (fun c74 => ?_) (fun c74 => ?_)))))))))
    ·try simp only [cs8] at c74
     refine W.skip (W.cond rfl (fun c74 => ?_) (fun c74 => ?_))
     ·try simp only [cs8] at c74
      refine W.region (WL.c rfl (o_fa 1 TI41 rfl TI3 rfl rfl (WL.c rfl (o_ld TI3 rfl rfl (cell_of hC2 rfl) (WL.c rfl (o_eq rfl rfl (WL.c rfl (o_mvh vB (WL.sp 3 rfl (fun g80 => ?_) (fun g80 => ?_))))))))))
      ·skip
       refine WL.g rfl (g80) rfl (o_fa 5 TI41 rfl TI3 rfl rfl (WL.g rfl (g80) rfl (o_ld TI3 rfl rfl (cell_of hC2 rfl) (WL.g rfl (g80) rfl (o_ge rfl rfl (WL.c rfl (o_pickA rfl rfl (WL.c rfl (o_ash vB (WL.nil ?_))))))))))
       exact ⟨rfl, rfl, congrArg Value.bool (by rw [Bool.eq_iff_iff]; simp_all [okB] <;> omega), rfl⟩
      skip
      refine WL.s rfl (g80) rfl (WL.s rfl (g80) rfl (WL.s rfl (g80) rfl (WL.c rfl (o_pickF rfl (g80) (WL.c rfl (o_ash vB (WL.nil ?_)))))))
      exact ⟨rfl, rfl, congrArg Value.bool (by rw [Bool.eq_iff_iff]; simp_all [okB] <;> omega), rfl⟩
     try simp only [cs8] at c74
     refine W.seq (W.region (WL.c rfl (o_ash vB (WL.nil (W.ret (ret1v rfl vB ?_))))))
     have h9 : okB x = false := by
      unfold okB
      repeat' split
      all_goals first | rfl | omega
     exact ⟨congrArg Value.bool (by rw [rightB, h9]; rfl), hx2⟩
    try simp only [cs8] at c74
    refine W.region (WL.c rfl (o_eq rfl rfl (WL.c rfl (o_ash vB (WL.nil (W.cond rfl (fun c74 => ?_) (fun c74 => ?_)))))))
    ·try simp only [cs8] at c74
     refine W.region (WL.c rfl (o_fa 1 TI41 rfl TI3 rfl rfl (WL.c rfl (o_ld TI3 rfl rfl (cell_of hC2 rfl) (WL.c rfl (o_eq rfl rfl (WL.c rfl (o_mvh vB (WL.sp 3 rfl (fun g80 => ?_) (fun g80 => ?_))))))))))
     ·skip
      refine WL.g rfl (g80) rfl (o_fa 5 TI41 rfl TI3 rfl rfl (WL.g rfl (g80) rfl (o_ld TI3 rfl rfl (cell_of hC2 rfl) (WL.g rfl (g80) rfl (o_ge rfl rfl (WL.c rfl (o_pickA rfl rfl (WL.c rfl (o_ash vB (WL.nil ?_))))))))))
      exact ⟨rfl, rfl, congrArg Value.bool (by rw [Bool.eq_iff_iff]; simp_all [okB] <;> omega), rfl⟩
     skip
     refine WL.s rfl (g80) rfl (WL.s rfl (g80) rfl (WL.s rfl (g80) rfl (WL.c rfl (o_pickF rfl (g80) (WL.c rfl (o_ash vB (WL.nil ?_)))))))
     exact ⟨rfl, rfl, congrArg Value.bool (by rw [Bool.eq_iff_iff]; simp_all [okB] <;> omega), rfl⟩
    try simp only [cs8] at c74
    refine W.seq (W.region (WL.c rfl (o_ash vB (WL.nil (W.ret (ret1v rfl vB ?_))))))
    have h9 : okB x = false := by
     unfold okB
     repeat' split
     all_goals first | rfl | omega
    exact ⟨congrArg Value.bool (by rw [rightB, h9]; rfl), hx2⟩
   try simp only [cs8] at c48
   refine W.region (WL.c rfl (o_eq rfl rfl (WL.c rfl (o_ash vB (WL.nil (W.cond rfl (fun c48 => ?_) (fun c48 => ?_)))))))
   ·try simp only [cs8] at c48
    refine W.region (WL.c rfl (o_fa 1 TI41 rfl TI3 rfl rfl (WL.c rfl (o_ld TI3 rfl rfl (cell_of hC2 rfl) (WL.c rfl (o_ge rfl rfl (WL.c rfl (o_mvh vB (WL.sp 3 rfl (fun g54 => ?_) (fun g54 => ?_))))))))))
    ·skip
     refine WL.g rfl (g54) rfl (o_fa 1 TI41 rfl TI3 rfl rfl (WL.g rfl (g54) rfl (o_ld TI3 rfl rfl (cell_of hC2 rfl) (WL.g rfl (g54) rfl (o_le rfl rfl (WL.c rfl (o_pickA rfl rfl (WL.c rfl (o_mvh vB (WL.sp 8 rfl (fun g59 => ?_) (fun g59 => ?_)))))))))))
     ·skip
      refine WL.g rfl (g59) rfl (o_fa 5 TI41 rfl TI3 rfl rfl (WL.g rfl (g59) rfl (o_ld TI3 rfl rfl (cell_of hC2 rfl) (WL.g rfl (g59) rfl (o_eq rfl rfl (WL.c rfl (o_pickA rfl rfl (WL.c rfl (o_ash vB (WL.nil ?_))))))))))
      exact ⟨rfl, rfl, congrArg Value.bool (by rw [Bool.eq_iff_iff]; simp_all [okB] <;> omega), rfl⟩
     skip
     refine WL.s rfl (g59) rfl (WL.s rfl (g59) rfl (WL.s rfl (g59) rfl (WL.c rfl (o_pickF rfl (g59) (WL.c rfl (o_ash vB (WL.nil ?_)))))))
     exact ⟨rfl, rfl, congrArg Value.bool (by rw [Bool.eq_iff_iff]; simp_all [okB] <;> omega), rfl⟩
    skip
    refine WL.s rfl (g54) rfl (WL.s rfl (g54) rfl (WL.s rfl (g54) rfl (WL.c rfl (o_pickF rfl (g54) (WL.c rfl (o_mvh vB (WL.s rfl (rfl) rfl (WL.s rfl (rfl) rfl (WL.s rfl (rfl) rfl (WL.c rfl (o_pickF rfl (rfl) (WL.c rfl (o_ash vB (WL.nil ?_))))))))))))))
    exact ⟨rfl, rfl, congrArg Value.bool (by rw [Bool.eq_iff_iff]; simp_all [okB] <;> omega), rfl⟩
   try simp only [cs8] at c48
   refine W.seq (W.region (WL.c rfl (o_eq rfl rfl (WL.c rfl (o_ash vB (WL.nil (W.cond rfl (fun c64 => ?_) (fun c64 => ?_))))))))
   ·try simp only [cs8] at c64
    refine W.region (WL.c rfl (o_fa 1 TI41 rfl TI3 rfl rfl (WL.c rfl (o_ld TI3 rfl rfl (cell_of hC2 rfl) (WL.c rfl (o_eq rfl rfl (WL.c rfl (o_mvh vB (WL.sp 3 rfl (fun g69 => ?_) (fun g69 => ?_))))))))))
    ·skip
     refine WL.g rfl (g69) rfl (o_fa 5 TI41 rfl TI3 rfl rfl (WL.g rfl (g69) rfl (o_ld TI3 rfl rfl (cell_of hC2 rfl) (WL.g rfl (g69) rfl (o_eq rfl rfl (WL.c rfl (o_pickA rfl rfl (WL.c rfl (o_ash vB (WL.nil ?_))))))))))
     exact ⟨rfl, rfl, congrArg Value.bool (by rw [Bool.eq_iff_iff]; simp_all [okB] <;> omega), rfl⟩
    skip
    refine WL.s rfl (g69) rfl (WL.s rfl (g69) rfl (WL.s rfl (g69) rfl (WL.c rfl (o_pickF rfl (g69) (WL.c rfl (o_ash vB (WL.nil ?_)))))))
    exact ⟨rfl, rfl, congrArg Value.bool (by rw [Bool.eq_iff_iff]; simp_all [okB] <;> omega), rfl⟩
   try simp only [cs8] at c64
   refine W.seq (W.seq (W.region (WL.c rfl (o_eq rfl rfl (WL.c rfl (o_ash vB (WL.nil (W.cond rfl (fun c74 => ?_) (fun c74 => ?_)))))))))
   ·try simp only [cs8] at c74
    refine W.skip (W.cond rfl (fun c74 => ?_) (fun c74 => ?_))
    ·try simp only [cs8] at c74
     refine W.region (WL.c rfl (o_fa 1 TI41 rfl TI3 rfl rfl (WL.c rfl (o_ld TI3 rfl rfl (cell_of hC2 rfl) (WL.c rfl (o_eq rfl rfl (WL.c rfl (o_mvh vB (WL.sp 3 rfl (fun g80 => ?_) (fun g80 => ?_))))))))))
     ·skip
      refine WL.g rfl (g80) rfl (o_fa 5 TI41 rfl TI3 rfl rfl (WL.g rfl (g80) rfl (o_ld TI3 rfl rfl (cell_of hC2 rfl) (WL.g rfl (g80) rfl (o_ge rfl rfl (WL.c rfl (o_pickA rfl rfl (WL.c rfl (o_ash vB (WL.nil ?_))))))))))
      exact ⟨rfl, rfl, congrArg Value.bool (by rw [Bool.eq_iff_iff]; simp_all [okB] <;> omega), rfl⟩
     skip
     refine WL.s rfl (g80) rfl (WL.s rfl (g80) rfl (WL.s rfl (g80) rfl (WL.c rfl (o_pickF rfl (g80) (WL.c rfl (o_ash vB (WL.nil ?_)))))))
     exact ⟨rfl, rfl, congrArg Value.bool (by rw [Bool.eq_iff_iff]; simp_all [okB] <;> omega), rfl⟩
    try simp only [cs8] at c74
    refine W.seq (W.region (WL.c rfl (o_ash vB (WL.nil (W.ret (ret1v rfl vB ?_))))))
    have h9 : okB x = false := by
     unfold okB
     repeat' split
     all_goals first | rfl | omega
    exact ⟨congrArg Value.bool (by rw [rightB, h9]; rfl), hx2⟩
   try simp only [cs8] at c74
   refine W.region (WL.c rfl (o_eq rfl rfl (WL.c rfl (o_ash vB (WL.nil (W.cond rfl (fun c74 => ?_) (fun c74 => ?_)))))))
   ·try simp only [cs8] at c74
    refine W.region (WL.c rfl (o_fa 1 TI41 rfl TI3 rfl rfl (WL.c rfl (o_ld TI3 rfl rfl (cell_of hC2 rfl) (WL.c rfl (o_eq rfl rfl (WL.c rfl (o_mvh vB (WL.sp 3 rfl (fun g80 => ?_) (fun g80 => ?_))))))))))
    ·skip
     refine WL.g rfl (g80) rfl (o_fa 5 TI41 rfl TI3 rfl rfl (WL.g rfl (g80) rfl (o_ld TI3 rfl rfl (cell_of hC2 rfl) (WL.g rfl (g80) rfl (o_ge rfl rfl (WL.c rfl (o_pickA rfl rfl (WL.c rfl (o_ash vB (WL.nil ?_))))))))))
     exact ⟨rfl, rfl, congrArg Value.bool (by rw [Bool.eq_iff_iff]; simp_all [okB] <;> omega), rfl⟩
    skip
    refine WL.s rfl (g80) rfl (WL.s rfl (g80) rfl (WL.s rfl (g80) rfl (WL.c rfl (o_pickF rfl (g80) (WL.c rfl (o_ash vB (WL.nil ?_)))))))
    exact ⟨rfl, rfl, congrArg Value.bool (by rw [Bool.eq_iff_iff]; simp_all [okB] <;> omega), rfl⟩
   try simp only [cs8] at c74
   refine W.seq (W.region (WL.c rfl (o_ash vB (WL.nil (W.ret (ret1v rfl vB ?_))))))
   have h9 : okB x = false := by
    unfold okB
    repeat' split
    all_goals first | rfl | omega
   exact ⟨congrArg Value.bool (by rw [rightB, h9]; rfl), hx2⟩
  try simp only [cs8] at c36
  refine W.seq (W.region (WL.c rfl (o_eq rfl rfl (WL.c rfl (o_ash vB (WL.nil (W.cond rfl (fun c36 => ?_) (fun c36 => ?_))))))))
  ·try simp only [cs8] at c36
   refine W.skip (W.cond rfl (fun c36 => ?_) (fun c36 => ?_))
   ·try simp only [cs8] at c36
    refine W.region (WL.c rfl (o_fa 1 TI41 rfl TI3 rfl rfl (WL.c rfl (o_ld TI3 rfl rfl (cell_of hC2 rfl) (WL.c rfl (o_eq rfl rfl (WL.c rfl (o_mvh vB (WL.sp 3 rfl (fun g43 => ?_) (fun g43 => ?_))))))))))
    ·skip
     refine WL.g rfl (g43) rfl (o_fa 5 TI41 rfl TI3 rfl rfl (WL.g rfl (g43) rfl (o_ld TI3 rfl rfl (cell_of hC2 rfl) (WL.g rfl (g43) rfl (o_eq rfl rfl (WL.c rfl (o_pickA rfl rfl (WL.c rfl (o_ash vB (WL.nil ?_))))))))))
     exact ⟨rfl, rfl, congrArg Value.bool (by rw [Bool.eq_iff_iff]; simp_all [okB] <;> omega), rfl⟩
    skip
    refine WL.s rfl (g43) rfl (WL.s rfl (g43) rfl (WL.s rfl (g43) rfl (WL.c rfl (o_pickF rfl (g43) (WL.c rfl (o_ash vB (WL.nil ?_)))))))
    exact ⟨rfl, rfl, congrArg Value.bool (by rw [Bool.eq_iff_iff]; simp_all [okB] <;> omega), rfl⟩
   try simp only [cs8] at c36
   refine W.seq (W.seq (W.region (WL.c rfl (o_eq rfl rfl (WL.c rfl (o_ash vB (WL.nil (W.cond rfl (fun c48 => ?_) (fun c48 => ?_)))))))))
   ·try simp only [cs8] at c48
    refine W.skip (W.cond rfl (fun c48 => ?_) (fun c48 => ?_))
    ·try simp only [cs8] at c48
     refine W.region (WL.c rfl (o_fa 1 TI41 rfl TI3 rfl rfl (WL.c rfl (o_ld TI3 rfl rfl (cell_of hC2 rfl) (WL.c rfl (o_ge rfl rfl (WL.c rfl (o_mvh vB (WL.sp 3 rfl (fun g54 => ?_) (fun g54 => ?_))))))))))
     ·skip
      refine WL.g rfl (g54) rfl (o_fa 1 TI41 rfl TI3 rfl rfl (WL.g rfl (g54) rfl (o_ld TI3 rfl rfl (cell_of hC2 rfl) (WL.g rfl (g54) rfl (o_le rfl rfl (WL.c rfl (o_pickA rfl rfl (WL.c rfl (o_mvh vB (WL.sp 8 rfl (fun g59 => ?_) (fun g59 => ?_)))))))))))
      ·skip
       refine WL.g rfl (g59) rfl (o_fa 5 TI41 rfl TI3 rfl rfl (WL.g rfl (g59) rfl (o_ld TI3 rfl rfl (cell_of hC2 rfl) (WL.g rfl (g59) rfl (o_eq rfl rfl (WL.c rfl (o_pickA rfl rfl (WL.c rfl (o_ash vB (WL.nil ?_))))))))))
       exact ⟨rfl, rfl, congrArg Value.bool (by rw [Bool.eq_iff_iff]; simp_all [okB] <;> omega), rfl⟩
      skip
      refine WL.s rfl (g59) rfl (WL.s rfl (g59) rfl (WL.s rfl (g59) rfl (WL.c rfl (o_pickF rfl (g59) (WL.c rfl (o_ash vB (WL.nil ?_)))))))
      exact ⟨rfl, rfl, congrArg Value.bool (by rw [Bool.eq_iff_iff]; simp_all [okB] <;> omega), rfl⟩
     skip
     refine WL.s rfl (g54) rfl (WL.s rfl (g54) rfl (WL.s rfl (g54) rfl (WL.c rfl (o_pickF rfl (g54) (WL.c rfl (o_mvh vB (WL.s rfl (rfl) rfl (WL.s rfl (rfl) rfl (WL.s rfl (rfl) rfl (WL.c rfl (o_pickF rfl (rfl) (WL.c rfl (o_ash vB (WL.nil ?_))))))))))))))
     exact ⟨rfl, rfl, congrArg Value.bool (by rw [Bool.eq_iff_iff]; simp_all [okB] <;> omega), rfl⟩
    try simp only [cs8] at c48
    refine W.seq (W.region (WL.c rfl (o_eq rfl rfl (WL.c rfl (o_ash vB (WL.nil (W.cond rfl (fun c64 => ?_) (fun c64 => ?_))))))))
    ·try simp only [cs8] at c64
     refine W.region (WL.c rfl (o_fa 1 TI41 rfl TI3 rfl rfl (WL.c rfl (o_ld TI3 rfl rfl (cell_of hC2 rfl) (WL.c rfl (o_eq rfl rfl (WL.c rfl (o_mvh vB (WL.sp 3 rfl (fun g69 => ?_) (fun g69 => ?_))))))))))
     ·skip
      refine WL.g rfl (g69) rfl (o_fa 5 TI41 rfl TI3 rfl rfl (WL.g rfl (g69) rfl (o_ld TI3 rfl rfl (cell_of hC2 rfl) (WL.g rfl (g69) rfl (o_eq rfl rfl (WL.c rfl (o_pickA rfl rfl (WL.c rfl (o_ash vB (WL.nil ?_))))))))))
      exact ⟨rfl, rfl, congrArg Value.bool (by rw [Bool.eq_iff_iff]; simp_all [okB] <;> omega), rfl⟩
     skip
     refine WL.s rfl (g69) rfl (WL.s rfl (g69) rfl (WL.s rfl (g69) rfl (WL.c rfl (o_pickF rfl (g69) (WL.c rfl (o_ash vB (WL.nil ?_)))))))
     exact ⟨rfl, rfl, congrArg Value.bool (by rw [Bool.eq_iff_iff]; simp_all [okB] <;> omega), rfl⟩
    try simp only [cs8] at c64
    refine W.seq (W.seq (W.region (WL.c rfl (o_eq rfl rfl (WL.c rfl (o_ash vB (WL.nil (W.cond rfl (fun c74 => ?_) (fun c74 => ?_)))))))))
    ·try simp only [cs8] at c74
     refine W.skip (W.cond rfl (fun c74 => ?_) (fun c74 => ?_))
     ·try simp only [cs8] at c74
      refine W.region (WL.c rfl (o_fa 1 TI41 rfl TI3 rfl rfl (WL.c rfl (o_ld TI3 rfl rfl (cell_of hC2 rfl) (WL.c rfl (o_eq rfl rfl (WL.c rfl (o_mvh vB (WL.sp 3 rfl (fun g80 => ?_) (fun g80 => ?_))))))))))
      ·skip
       refine WL.g rfl (g80) rfl (o_fa 5 TI41 rfl TI3 rfl rfl (WL.g rfl (g80) rfl (o_ld TI3 rfl rfl (cell_of hC2 rfl) (WL.g rfl (g80) rfl (o_ge rfl rfl (WL.c rfl (o_pickA rfl rfl (WL.c rfl (o_ash vB (WL.nil ?_))))))))))
       exact ⟨rfl, rfl, congrArg Value.bool (by rw [Bool.eq_iff_iff]; simp_all [okB] <;> omega), rfl⟩
      skip
      refine WL.s rfl (g80) rfl (WL.s rfl (g80) rfl (WL.s rfl (g80) rfl (WL.c rfl (o_pickF rfl (g80) (WL.c rfl (o_ash vB (WL.nil ?_)))))))
      exact ⟨rfl, rfl, congrArg Value.bool (by rw [Bool.eq_iff_iff]; simp_all [okB] <;> omega), rfl⟩
     try simp only [cs8] at c74
     refine W.seq (W.region (WL.c rfl (o_ash vB (WL.nil (W.ret (ret1v rfl vB ?_))))))
     have h9 : okB x = false := by
      unfold okB
      repeat' split
      all_goals first | rfl | omega
     exact ⟨congrArg Value.bool (by rw [rightB, h9]; rfl), hx2⟩
    try simp only [cs8] at c74
    refine W.region (WL.c rfl (o_eq rfl rfl (WL.c rfl (o_ash vB (WL.nil (W.cond rfl (fun c74 => ?_) (fun c74 => ?_)))))))
    ·try simp only [cs8] at c74
     refine W.region (WL.c rfl (o_fa 1 TI41 rfl TI3 rfl rfl (WL.c rfl (o_ld TI3 rfl rfl (cell_of hC2 rfl) (WL.c rfl (o_eq rfl rfl (WL.c rfl (o_mvh vB (WL.sp 3 rfl (fun g80 => ?_) (fun g80 => ?_))))))))))
     ·skip
      refine WL.g rfl (g80) rfl (o_fa 5 TI41 rfl TI3 rfl rfl (WL.g rfl (g80) rfl (o_ld TI3 rfl rfl (cell_of hC2 rfl) (WL.g rfl (g80) rfl (o_ge rfl rfl (WL.c rfl (o_pickA rfl rfl (WL.c rfl (o_ash vB (WL.nil ?_))))))))))
      exact ⟨rfl, rfl, congrArg Value.bool (by rw [Bool.eq_iff_iff]; simp_all [okB] <;> omega), rfl⟩
     skip
     refine WL.s rfl (g80) rfl (WL.s rfl (g80) rfl (WL.s rfl (g80) rfl (WL.c rfl (o_pickF rfl (g80) (WL.c rfl (o_ash vB (WL.nil ?_)))))))
     exact ⟨rfl, rfl, congrArg Value.bool (by rw [Bool.eq_iff_iff]; simp_all [okB] <;> omega), rfl⟩
    try simp only [cs8] at c74
    refine W.seq (W.region (WL.c rfl (o_ash vB (WL.nil (W.ret (ret1v rfl vB ?_))))))
    have h9 : okB x = false := by
     unfold okB
     repeat' split
     all_goals first | rfl | omega
    exact ⟨congrArg Value.bool (by rw [rightB, h9]; rfl), hx2⟩
   try simp only [cs8] at c48
   refine W.region (WL.c rfl (o_eq rfl rfl (WL.c rfl (o_ash vB (WL.nil (W.cond rfl (fun c48 => ?_) (fun c48 => ?_)))))))
   ·try simp only [cs8] at c48
    refine W.region (WL.c rfl (o_fa 1 TI41 rfl TI3 rfl rfl (WL.c rfl (o_ld TI3 rfl rfl (cell_of hC2 rfl) (WL.c rfl (o_ge rfl rfl (WL.c rfl (o_mvh vB (WL.sp 3 rfl (fun g54 => ?_) (fun g54 => ?_))))))))))
    ·skip
     refine WL.g rfl (g54) rfl (o_fa 1 TI41 rfl TI3 rfl rfl (WL.g rfl (g54) rfl (o_ld TI3 rfl rfl (cell_of hC2 rfl) (WL.g rfl (g54) rfl (o_le rfl rfl (WL.c rfl (o_pickA rfl rfl (WL.c rfl (o_mvh vB (WL.sp 8 rfl (fun g59 => ?_) (fun g59 => ?_)))))))))))
     ·skip
      refine WL.g rfl (g59) rfl (o_fa 5 TI41 rfl TI3 rfl rfl (WL.g rfl (g59) rfl (o_ld TI3 rfl rfl (cell_of hC2 rfl) (WL.g rfl (g59) rfl (o_eq rfl rfl (WL.c rfl (o_pickA rfl rfl (WL.c rfl (o_ash vB (WL.nil ?_))))))))))
      exact ⟨rfl, rfl, congrArg Value.bool (by rw [Bool.eq_iff_iff]; simp_all [okB] <;> omega), rfl⟩
     skip
     refine WL.s rfl (g59) rfl (WL.s rfl (g59) rfl (WL.s rfl (g59) rfl (WL.c rfl (o_pickF rfl (g59) (WL.c rfl (o_ash vB (WL.nil ?_)))))))
     exact ⟨rfl, rfl, congrArg Value.bool (by rw [Bool.eq_iff_iff]; simp_all [okB] <;> omega), rfl⟩
    skip
    refine WL.s rfl (g54) rfl (WL.s rfl (g54) rfl (WL.s rfl (g54) rfl (WL.c rfl (o_pickF rfl (g54) (WL.c rfl (o_mvh vB (WL.s rfl (rfl) rfl (WL.s rfl (rfl) rfl (WL.s rfl (rfl) rfl (WL.c rfl (o_pickF rfl (rfl) (WL.c rfl (o_ash vB (WL.nil ?_))))))))))))))
    exact ⟨rfl, rfl, congrArg Value.bool (by rw [Bool.eq_iff_iff]; simp_all [okB] <;> omega), rfl⟩
   try simp only [cs8] at c48
   refine W.seq (W.region (WL.c rfl (o_eq rfl rfl (WL.c rfl (o_ash vB (WL.nil (W.cond rfl (fun c64 => ?_) (fun c64 => ?_))))))))
   ·try simp only [cs8] at c64
    refine W.region (WL.c rfl (o_fa 1 TI41 rfl TI3 rfl rfl (WL.c rfl (o_ld TI3 rfl rfl (cell_of hC2 rfl) (WL.c rfl (o_eq rfl rfl (WL.c rfl (o_mvh vB (WL.sp 3 rfl (fun g69 => ?_) (fun g69 => ?_))))))))))
    ·skip
     refine WL.g rfl (g69) rfl (o_fa 5 TI41 rfl TI3 rfl rfl (WL.g rfl (g69) rfl (o_ld TI3 rfl rfl (cell_of hC2 rfl) (WL.g rfl (g69) rfl (o_eq rfl rfl (WL.c rfl (o_pickA rfl rfl (WL.c rfl (o_ash vB (WL.nil ?_))))))))))
     exact ⟨rfl, rfl, congrArg Value.bool (by rw [Bool.eq_iff_iff]; simp_all [okB] <;> omega), rfl⟩
    skip
    refine WL.s rfl (g69) rfl (WL.s rfl (g69) rfl (WL.s rfl (g69) rfl (WL.c rfl (o_pickF rfl (g69) (WL.c rfl (o_ash vB (WL.nil ?_)))))))
    exact ⟨rfl, rfl, congrArg Value.bool (by rw [Bool.eq_iff_iff]; simp_all [okB] <;> omega), rfl⟩
   try simp only [cs8] at c64
   refine W.seq (W.seq (W.region (WL.c rfl (o_eq rfl rfl (WL.c rfl (o_ash vB (WL.nil (W.cond rfl (fun c74 => ?_) (fun c74 => ?_)))))))))
   ·try simp only [cs8] at c74
    refine W.skip (W.cond rfl (fun c74 => ?_) (fun c74 => ?_))
    ·try simp only [cs8] at c74
     refine W.region (WL.c rfl (o_fa 1 TI41 rfl TI3 rfl rfl (WL.c rfl (o_ld TI3 rfl rfl (cell_of hC2 rfl) (WL.c rfl (o_eq rfl rfl (WL.c rfl (o_mvh vB (WL.sp 3 rfl (fun g80 => ?_) (fun g80 => ?_))))))))))
     ·skip
      refine WL.g rfl (g80) rfl (o_fa 5 TI41 rfl TI3 rfl rfl (WL.g rfl (g80) rfl (o_ld TI3 rfl rfl (cell_of hC2 rfl) (WL.g rfl (g80) rfl (o_ge rfl rfl (WL.c rfl (o_pickA rfl rfl (WL.c rfl (o_ash vB (WL.nil ?_))))))))))
      exact ⟨rfl, rfl, congrArg Value.bool (by rw [Bool.eq_iff_iff]; simp_all [okB] <;> omega), rfl⟩
     skip
     refine WL.s rfl (g80) rfl (WL.s rfl (g80) rfl (WL.s rfl (g80) rfl (WL.c rfl (o_pickF rfl (g80) (WL.c rfl (o_ash vB (WL.nil ?_)))))))
     exact ⟨rfl, rfl, congrArg Value.bool (by rw [Bool.eq_iff_iff]; simp_all [okB] <;> omega), rfl⟩
    try simp only [cs8] at c74
    refine W.seq (W.region (WL.c rfl (o_ash vB (WL.nil (W.ret (ret1v rfl vB ?_))))))
    have h9 : okB x = false := by
     unfold okB
     repeat' split
     all_goals first | rfl | omega
    exact ⟨congrArg Value.bool (by rw [rightB, h9]; rfl), hx2⟩
   try simp only [cs8] at c74
   refine W.region (WL.c rfl (o_eq rfl rfl (WL.c rfl (o_ash vB (WL.nil (W.cond rfl (fun c74 => ?_) (fun c74 => ?_)))))))
   ·try simp only [cs8] at c74
    refine W.region (WL.c rfl (o_fa 1 TI41 rfl TI3 rfl rfl (WL.c rfl (o_ld TI3 rfl rfl (cell_of hC2 rfl) (WL.c rfl (o_eq rfl rfl (WL.c rfl (o_mvh vB (WL.sp 3 rfl (fun g80 => ?_) (fun g80 => ?_))))))))))
    ·skip
     refine WL.g rfl (g80) rfl (o_fa 5 TI41 rfl TI3 rfl rfl (WL.g rfl (g80) rfl (o_ld TI3 rfl rfl (cell_of hC2 rfl) (WL.g rfl (g80) rfl (o_ge rfl rfl (WL.c rfl (o_pickA rfl rfl (WL.c rfl (o_ash vB (WL.nil ?_))))))))))
     exact ⟨rfl, rfl, congrArg Value.bool (by rw [Bool.eq_iff_iff]; simp_all [okB] <;> omega), rfl⟩
    skip
    refine WL.s rfl (g80) rfl (WL.s rfl (g80) rfl (WL.s rfl (g80) rfl (WL.c rfl (o_pickF rfl (g80) (WL.c rfl (o_ash vB (WL.nil ?_)))))))
    exact ⟨rfl, rfl, congrArg Value.bool (by rw [Bool.eq_iff_iff]; simp_all [okB] <;> omega), rfl⟩
   try simp only [cs8] at c74
   refine W.seq (W.region (WL.c rfl (o_ash vB (WL.nil (W.ret (ret1v rfl vB ?_))))))
   have h9 : okB x = false := by
    unfold okB
    repeat' split
    all_goals first | rfl | omega
   exact ⟨congrArg Value.bool (by rw [rightB, h9]; rfl), hx2⟩
  try simp only [cs8] at c36
  refine W.region (WL.c rfl (o_eq rfl rfl (WL.c rfl (o_ash vB (WL.nil (W.cond rfl (fun c36 => ?_) (fun c36 => ?_)))))))
  ·try simp only [cs8] at c36
   refine W.region (WL.c rfl (o_fa 1 TI41 rfl TI3 rfl rfl (WL.c rfl (o_ld TI3 rfl rfl (cell_of hC2 rfl) (WL.c rfl (o_eq rfl rfl (WL.c rfl (o_mvh vB (WL.sp 3 rfl (fun g43 => ?_) (fun g43 => ?_))))))))))
   ·skip
    refine WL.g rfl (g43) rfl (o_fa 5 TI41 rfl TI3 rfl rfl (WL.g rfl (g43) rfl (o_ld TI3 rfl rfl (cell_of hC2 rfl) (WL.g rfl (g43) rfl (o_eq rfl rfl (WL.c rfl (o_pickA rfl rfl (WL.c rfl (o_ash vB (WL.nil ?_))))))))))
    exact ⟨rfl, rfl, congrArg Value.bool (by rw [Bool.eq_iff_iff]; simp_all [okB] <;> omega), rfl⟩
   skip
   refine WL.s rfl (g43) rfl (WL.s rfl (g43) rfl (WL.s rfl (g43) rfl (WL.c rfl (o_pickF rfl (g43) (WL.c rfl (o_ash vB (WL.nil ?_)))))))
   exact ⟨rfl, rfl, congrArg Value.bool (by rw [Bool.eq_iff_iff]; simp_all [okB] <;> omega), rfl⟩
  try simp only [cs8] at c36
  refine W.seq (W.seq (W.region (WL.c rfl (o_eq rfl rfl (WL.c rfl (o_ash vB (WL.nil (W.cond rfl (fun c48 => ?_) (fun c48 => ?_)))))))))
  ·try simp only [cs8] at c48
   refine W.skip (W.cond rfl (fun c48 => ?_) (fun c48 => ?_))
   ·try simp only [cs8] at c48
    refine W.region (WL.c rfl (o_fa 1 TI41 rfl TI3 rfl rfl (WL.c rfl (o_ld TI3 rfl rfl (cell_of hC2 rfl) (WL.c rfl (o_ge rfl rfl (WL.c rfl (o_mvh vB (WL.sp 3 rfl (fun g54 => ?_) (fun g54 => ?_))))))))))
    ·skip
     refine WL.g rfl (g54) rfl (o_fa 1 TI41 rfl TI3 rfl rfl (WL.g rfl (g54) rfl (o_ld TI3 rfl rfl (cell_of hC2 rfl) (WL.g rfl (g54) rfl (o_le rfl rfl (WL.c rfl (o_pickA rfl rfl (WL.c rfl (o_mvh vB (WL.sp 8 rfl (fun g59 => ?_) (fun g59 => ?_)))))))))))
     ·skip
      refine WL.g rfl (g59) rfl (o_fa 5 TI41 rfl TI3 rfl rfl (WL.g rfl (g59) rfl (o_ld TI3 rfl rfl (cell_of hC2 rfl) (WL.g rfl (g59) rfl (o_eq rfl rfl (WL.c rfl (o_pickA rfl rfl (WL.c rfl (o_ash vB (WL.nil ?_))))))))))
      exact ⟨rfl, rfl, congrArg Value.bool (by rw [Bool.eq_iff_iff]; simp_all [okB] <;> omega), rfl⟩
     skip
     refine WL.s rfl (g59) rfl (WL.s rfl (g59) rfl (WL.s rfl (g59) rfl (WL.c rfl (o_pickF rfl (g59) (WL.c rfl (o_ash vB (WL.nil ?_)))))))
     exact ⟨rfl, rfl, congrArg Value.bool (by rw [Bool.eq_iff_iff]; simp_all [okB] <;> omega), rfl⟩
    skip
    refine WL.s rfl (g54) rfl (WL.s rfl (g54) rfl (WL.s rfl (g54) rfl (WL.c rfl (o_pickF rfl (g54) (WL.c rfl (o_mvh vB (WL.s rfl (rfl) rfl (WL.s rfl (rfl) rfl (WL.s rfl (rfl) rfl (WL.c rfl (o_pickF rfl (rfl) (WL.c rfl (o_ash vB (WL.nil ?_))))))))))))))
    exact ⟨rfl, rfl, congrArg Value.bool (by rw [Bool.eq_iff_iff]; simp_all [okB] <;> omega), rfl⟩
   try simp only [cs8] at c48
   refine W.seq (W.region (WL.c rfl (o_eq rfl rfl (WL.c rfl (o_ash vB (WL.nil (W.cond rfl (fun c64 => ?_) (fun c64 => ?_))))))))
   ·try simp only [cs8] at c64
    refine W.region (WL.c rfl (o_fa 1 TI41 rfl TI3 rfl rfl (WL.c rfl (o_ld TI3 rfl rfl (cell_of hC2 rfl) (WL.c rfl (o_eq rfl rfl (WL.c rfl (o_mvh vB (WL.sp 3 rfl (fun g69 => ?_) (fun g69 => ?_))))))))))
    ·skip
     refine WL.g rfl (g69) rfl (o_fa 5 TI41 rfl TI3 rfl rfl (WL.g rfl (g69) rfl (o_ld TI3 rfl rfl (cell_of hC2 rfl) (WL.g rfl (g69) rfl (o_eq rfl rfl (WL.c rfl (o_pickA rfl rfl (WL.c rfl (o_ash vB (WL.nil ?_))))))))))
     exact ⟨rfl, rfl, congrArg Value.bool (by rw [Bool.eq_iff_iff]; simp_all [okB] <;> omega), rfl⟩
    skip
    refine WL.s rfl (g69) rfl (WL.s rfl (g69) rfl (WL.s rfl (g69) rfl (WL.c rfl (o_pickF rfl (g69) (WL.c rfl (o_ash vB (WL.nil ?_)))))))
    exact ⟨rfl, rfl, congrArg Value.bool (by rw [Bool.eq_iff_iff]; simp_all [okB] <;> omega), rfl⟩
   try simp only [cs8] at c64
   refine W.seq (W.seq (W.region (WL.c rfl (o_eq rfl rfl (WL.c rfl (o_ash vB (WL.nil (W.cond rfl (fun c74 => ?_) (fun c74 => ?_)))))))))
   ·try simp only [cs8] at c74
    refine W.skip (W.cond rfl (fun c74 => ?_) (fun c74 => ?_))
    ·try simp only [cs8] at c74
     refine W.region (WL.c rfl (o_fa 1 TI41 rfl TI3 rfl rfl (WL.c rfl (o_ld TI3 rfl rfl (cell_of hC2 rfl) (WL.c rfl (o_eq rfl rfl (WL.c rfl (o_mvh vB (WL.sp 3 rfl (fun g80 => ?_) (fun g80 => ?_))))))))))
     ·skip
      refine WL.g rfl (g80) rfl (o_fa 5 TI41 rfl TI3 rfl rfl (WL.g rfl (g80) rfl (o_ld TI3 rfl rfl (cell_of hC2 rfl) (WL.g rfl (g80) rfl (o_ge rfl rfl (WL.c rfl (o_pickA rfl rfl (WL.c rfl (o_ash vB (WL.nil ?_))))))))))
      exact ⟨rfl, rfl, congrArg Value.bool (by rw [Bool.eq_iff_iff]; simp_all [okB] <;> omega), rfl⟩
     skip
     refine WL.s rfl (g80) rfl (WL.s rfl (g80) rfl (WL.s rfl (g80) rfl (WL.c rfl (o_pickF rfl (g80) (WL.c rfl (o_ash vB (WL.nil ?_)))))))
     exact ⟨rfl, rfl, congrArg Value.bool (by rw [Bool.eq_iff_iff]; simp_all [okB] <;> omega), rfl⟩
    try simp only [cs8] at c74
    refine W.seq (W.region (WL.c rfl (o_ash vB (WL.nil (W.ret (ret1v rfl vB ?_))))))
    have h9 : okB x = false := by
     unfold okB
     repeat' split
     all_goals first | rfl | omega
    exact ⟨congrArg Value.bool (by rw [rightB, h9]; rfl), hx2⟩
   try simp only [cs8] at c74
   refine W.region (WL.c rfl (o_eq rfl rfl (WL.c rfl (o_ash vB (WL.nil (W.cond rfl (fun c74 => ?_) (fun c74 => ?_)))))))
   ·try simp only [cs8] at c74
    refine W.region (WL.c rfl (o_fa 1 TI41 rfl TI3 rfl rfl (WL.c rfl (o_ld TI3 rfl rfl (cell_of hC2 rfl) (WL.c rfl (o_eq rfl rfl (WL.c rfl (o_mvh vB (WL.sp 3 rfl (fun g80 => ?_) (fun g80 => ?_))))))))))
    ·skip
     refine WL.g rfl (g80) rfl (o_fa 5 TI41 rfl TI3 rfl rfl (WL.g rfl (g80) rfl (o_ld TI3 rfl rfl (cell_of hC2 rfl) (WL.g rfl (g80) rfl (o_ge rfl rfl (WL.c rfl (o_pickA rfl rfl (WL.c rfl (o_ash vB (WL.nil ?_))))))))))
     exact ⟨rfl, rfl, congrArg Value.bool (by rw [Bool.eq_iff_iff]; simp_all [okB] <;> omega), rfl⟩
    skip
    refine WL.s rfl (g80) rfl (WL.s rfl (g80) rfl (WL.s rfl (g80) rfl (WL.c rfl (o_pickF rfl (g80) (WL.c rfl (o_ash vB (WL.nil ?_)))))))
    exact ⟨rfl, rfl, congrArg Value.bool (by rw [Bool.eq_iff_iff]; simp_all [okB] <;> omega), rfl⟩
   try simp only [cs8] at c74
   refine W.seq (W.region (WL.c rfl (o_ash vB (WL.nil (W.ret (ret1v rfl vB ?_))))))
   have h9 : okB x = false := by
    unfold okB
    repeat' split
    all_goals first | rfl | omega
   exact ⟨congrArg Value.bool (by rw [rightB, h9]; rfl), hx2⟩
  try simp only [cs8] at c48
  refine W.region (WL.c rfl (o_eq rfl rfl (WL.c rfl (o_ash vB (WL.nil (W.cond rfl (fun c48 => ?_) (fun c48 => ?_)))))))
  ·try simp only [cs8] at c48
   refine W.region (WL.c rfl (o_fa 1 TI41 rfl TI3 rfl rfl (WL.c rfl (o_ld TI3 rfl rfl (cell_of hC2 rfl) (WL.c rfl (o_ge rfl rfl (WL.c rfl (o_mvh vB (WL.sp 3 rfl (fun g54 => ?_) (fun g54 => ?_))))))))))
   ·skip
    refine WL.g rfl (g54) rfl (o_fa 1 TI41 rfl TI3 rfl rfl (WL.g rfl (g54) rfl (o_ld TI3 rfl rfl (cell_of hC2 rfl) (WL.g rfl (g54) rfl (o_le rfl rfl (WL.c rfl (o_pickA rfl rfl (WL.c rfl (o_mvh vB (WL.sp 8 rfl (fun g59 => ?_) (fun g59 => ?_)))))))))))
    ·skip
     refine WL.g rfl (g59) rfl (o_fa 5 TI41 rfl TI3 rfl rfl (WL.g rfl (g59) rfl (o_ld TI3 rfl rfl (cell_of hC2 rfl) (WL.g rfl (g59) rfl (o_eq rfl rfl (WL.c rfl (o_pickA rfl rfl (WL.c rfl (o_ash vB (WL.nil ?_))))))))))
     exact ⟨rfl, rfl, congrArg Value.bool (by rw [Bool.eq_iff_iff]; simp_all [okB] <;> omega), rfl⟩
    skip
    refine WL.s rfl (g59) rfl (WL.s rfl (g59) rfl (WL.s rfl (g59) rfl (WL.c rfl (o_pickF rfl (g59) (WL.c rfl (o_ash vB (WL.nil ?_)))))))
    exact ⟨rfl, rfl, congrArg Value.bool (by rw [Bool.eq_iff_iff]; simp_all [okB] <;> omega), rfl⟩
   skip
   refine WL.s rfl (g54) rfl (WL.s rfl (g54) rfl (WL.s rfl (g54) rfl (WL.c rfl (o_pickF rfl (g54) (WL.c rfl (o_mvh vB (WL.s rfl (rfl) rfl (WL.s rfl (rfl) rfl (WL.s rfl (rfl) rfl (WL.c rfl (o_pickF rfl (rfl) (WL.c rfl (o_ash vB (WL.nil ?_))))))))))))))
   exact ⟨rfl, rfl, congrArg Value.bool (by rw [Bool.eq_iff_iff]; simp_all [okB] <;> omega), rfl⟩
  try simp only [cs8] at c48
  refine W.seq (W.region (WL.c rfl (o_eq rfl rfl (WL.c rfl (o_ash vB (WL.nil (W.cond rfl (fun c64 => ?_) (fun c64 => ?_))))))))
  ·try simp only [cs8] at c64
   refine W.region (WL.c rfl (o_fa 1 TI41 rfl TI3 rfl rfl (WL.c rfl (o_ld TI3 rfl rfl (cell_of hC2 rfl) (WL.c rfl (o_eq rfl rfl (WL.c rfl (o_mvh vB (WL.sp 3 rfl (fun g69 => ?_) (fun g69 => ?_))))))))))
   ·skip
    refine WL.g rfl (g69) rfl (o_fa 5 TI41 rfl TI3 rfl rfl (WL.g rfl (g69) rfl (o_ld TI3 rfl rfl (cell_of hC2 rfl) (WL.g rfl (g69) rfl (o_eq rfl rfl (WL.c rfl (o_pickA rfl rfl (WL.c rfl (o_ash vB (WL.nil ?_))))))))))
    exact ⟨rfl, rfl, congrArg Value.bool (by rw [Bool.eq_iff_iff]; simp_all [okB] <;> omega), rfl⟩
   skip
   refine WL.s rfl (g69) rfl (WL.s rfl (g69) rfl (WL.s rfl (g69) rfl (WL.c rfl (o_pickF rfl (g69) (WL.c rfl (o_ash vB (WL.nil ?_)))))))
   exact ⟨rfl, rfl, congrArg Value.bool (by rw [Bool.eq_iff_iff]; simp_all [okB] <;> omega), rfl⟩
  try simp only [cs8] at c64
  refine W.seq (W.seq (W.region (WL.c rfl (o_eq rfl rfl (WL.c rfl (o_ash vB (WL.nil (W.cond rfl (fun c74 => ?_) (fun c74 => ?_)))))))))
  ·try simp only [cs8] at c74
   refine W.skip (W.cond rfl (fun c74 => ?_) (fun c74 => ?_))
   ·try simp only [cs8] at c74
    refine W.region (WL.c rfl (o_fa 1 TI41 rfl TI3 rfl rfl (WL.c rfl (o_ld TI3 rfl rfl (cell_of hC2 rfl) (WL.c rfl (o_eq rfl rfl (WL.c rfl (o_mvh vB (WL.sp 3 rfl (fun g80 => ?_) (fun g80 => ?_))))))))))
    ·skip
     refine WL.g rfl (g80) rfl (o_fa 5 TI41 rfl TI3 rfl rfl (WL.g rfl (g80) rfl (o_ld TI3 rfl rfl (cell_of hC2 rfl) (WL.g rfl (g80) rfl (o_ge rfl rfl (WL.c rfl (o_pickA rfl rfl (WL.c rfl (o_ash vB (WL.nil ?_))))))))))
     exact ⟨rfl, rfl, congrArg Value.bool (by rw [Bool.eq_iff_iff]; simp_all [okB] <;> omega), rfl⟩
    skip
    refine WL.s rfl (g80) rfl (WL.s rfl (g80) rfl (WL.s rfl (g80) rfl (WL.c rfl (o_pickF rfl (g80) (WL.c rfl (o_ash vB (WL.nil ?_)))))))
    exact ⟨rfl, rfl, congrArg Value.bool (by rw [Bool.eq_iff_iff]; simp_all [okB] <;> omega), rfl⟩
   try simp only [cs8] at c74
   refine W.seq (W.region (WL.c rfl (o_ash vB (WL.nil (W.ret (ret1v rfl vB ?_))))))
   have h9 : okB x = false := by
    unfold okB
    repeat' split
    all_goals first | rfl | omega
   exact ⟨congrArg Value.bool (by rw [rightB, h9]; rfl), hx2⟩
  try simp only [cs8] at c74
  refine W.region (WL.c rfl (o_eq rfl rfl (WL.c rfl (o_ash vB (WL.nil (W.cond rfl (fun c74 => ?_) (fun c74 => ?_)))))))
  ·try simp only [cs8] at c74
   refine W.region (WL.c rfl (o_fa 1 TI41 rfl TI3 rfl rfl (WL.c rfl (o_ld TI3 rfl rfl (cell_of hC2 rfl) (WL.c rfl (o_eq rfl rfl (WL.c rfl (o_mvh vB (WL.sp 3 rfl (fun g80 => ?_) (fun g80 => ?_))))))))))
   ·skip
    refine WL.g rfl (g80) rfl (o_fa 5 TI41 rfl TI3 rfl rfl (WL.g rfl (g80) rfl (o_ld TI3 rfl rfl (cell_of hC2 rfl) (WL.g rfl (g80) rfl (o_ge rfl rfl (WL.c rfl (o_pickA rfl rfl (WL.c rfl (o_ash vB (WL.nil ?_))))))))))
    exact ⟨rfl, rfl, congrArg Value.bool (by rw [Bool.eq_iff_iff]; simp_all [okB] <;> omega), rfl⟩
   skip
   refine WL.s rfl (g80) rfl (WL.s rfl (g80) rfl (WL.s rfl (g80) rfl (WL.c rfl (o_pickF rfl (g80) (WL.c rfl (o_ash vB (WL.nil ?_)))))))
   exact ⟨rfl, rfl, congrArg Value.bool (by rw [Bool.eq_iff_iff]; simp_all [okB] <;> omega), rfl⟩
  try simp only [cs8] at c74
  refine W.seq (W.region (WL.c rfl (o_ash vB (WL.nil (W.ret (ret1v rfl vB ?_))))))
  have h9 : okB x = false := by
   unfold okB
   repeat' split
   all_goals first | rfl | omega
  exact ⟨congrArg Value.bool (by rw [rightB, h9]; rfl), hx2⟩
 rintro e w ⟨h1, h2, h5, hw⟩
 subst hw
 refine W.seq (W.region (WL.cut (fun e1 w1 => e1 1 = .int .i64 above ∧ e1 2 = .pointer (some ⟨c2, 0, none⟩) ∧ e1 5 = .bool (okB x) ∧ e1 6 = .bool (namB x) ∧ w1 = w) ?_ ?_))
 ·-- region 18
  refine WL.c rfl (o_fa 0 TI41 rfl TI3 rfl h2 (WL.c rfl (o_ld TI3 rfl rfl (cell_of hC2 rfl) (WL.c rfl (o_eq rfl rfl (WL.c rfl (o_mvh vB (WL.sp 3 rfl (fun g88 => ?_) (fun g88 => ?_)))))))))
  ·skip
   refine WL.g rfl (g88) rfl (o_fa 2 TI41 rfl TI9 rfl h2 (WL.g rfl (g88) rfl (o_ld TI9 rfl rfl (cell_of hC2 rfl) (WL.g rfl (g88) rfl (o_call Try.call34 (lc rfl ln) ((name_spec x.name _ hn).mono ?_))))))
   rintro v91 w91 ⟨rfl, rfl⟩
   refine WL.c rfl (o_pickA rfl rfl (WL.c rfl (o_mvh vB (WL.sp 8 rfl (fun g93 => ?_) (fun g93 => ?_)))))
   ·skip
    refine WL.s rfl (g93) rfl (WL.s rfl (g93) rfl (WL.s rfl (g93) rfl (WL.s rfl (g93) rfl (WL.z rfl rfl (WL.z rfl rfl (WL.z rfl rfl (WL.s rfl (g93) rfl (WL.c rfl (o_pickT rfl (g93) (WL.c rfl (o_ash vB ?_)))))))))))
    exact WL.nil (⟨h1, h2, h5, congrArg Value.bool (by rw [Bool.eq_iff_iff]; simp_all [namB] <;> omega), rfl⟩)
   skip
   refine WL.g rfl (g93) rfl (o_fa 0 TI41 rfl TI3 rfl h2 (WL.g rfl (g93) rfl (o_ld TI3 rfl rfl (cell_of hC2 rfl) (WL.g rfl (g93) rfl (o_ne rfl rfl (WL.g rfl (g93) rfl (o_mvh vB (WL.sp 12 rfl (fun g97 => ?_) (fun g97 => ?_)))))))))
   ·skip
    refine WL.g rfl (g97) rfl (o_fa 2 TI41 rfl TI9 rfl h2 (WL.g rfl (g97) rfl (o_ld TI9 rfl rfl (cell_of hC2 rfl) (WL.g rfl (g97) rfl (o_eqT rfl rfl (WL.g rfl (g93) rfl (o_pickA rfl rfl (WL.c rfl (o_pickO rfl rfl (WL.c rfl (o_ash vB ?_)))))))))))
    exact WL.nil (⟨h1, h2, h5, congrArg Value.bool (by rw [Bool.eq_iff_iff]; simp_all [namB] <;> omega), rfl⟩)
   skip
   refine WL.s rfl (g97) rfl (WL.s rfl (g97) rfl (WL.s rfl (g97) rfl (WL.g rfl (g93) rfl (o_pickF rfl (g97) (WL.c rfl (o_pickO rfl rfl (WL.c rfl (o_ash vB ?_))))))))
   exact WL.nil (⟨h1, h2, h5, congrArg Value.bool (by rw [Bool.eq_iff_iff]; simp_all [namB] <;> omega), rfl⟩)
  skip
  refine WL.s rfl (g88) rfl (WL.s rfl (g88) rfl (WL.s rfl (g88) rfl (WL.c rfl (o_pickF rfl (g88) (WL.c rfl (o_mvh vB (WL.g rfl (rfl) rfl (o_fa 0 TI41 rfl TI3 rfl h2 (WL.g rfl (rfl) rfl (o_ld TI3 rfl rfl (cell_of hC2 rfl) (WL.g rfl (rfl) rfl (o_ne rfl rfl (WL.g rfl (rfl) rfl (o_mvh vB (WL.sp 12 rfl (fun g97 => ?_) (fun g97 => ?_))))))))))))))))
  ·skip
   refine WL.g rfl (g97) rfl (o_fa 2 TI41 rfl TI9 rfl h2 (WL.g rfl (g97) rfl (o_ld TI9 rfl rfl (cell_of hC2 rfl) (WL.g rfl (g97) rfl (o_eqT rfl rfl (WL.g rfl (rfl) rfl (o_pickA rfl rfl (WL.c rfl (o_pickO rfl rfl (WL.c rfl (o_ash vB ?_)))))))))))
   exact WL.nil (⟨h1, h2, h5, congrArg Value.bool (by rw [Bool.eq_iff_iff]; simp_all [namB] <;> omega), rfl⟩)
  skip
  refine WL.s rfl (g97) rfl (WL.s rfl (g97) rfl (WL.s rfl (g97) rfl (WL.g rfl (rfl) rfl (o_pickF rfl (g97) (WL.c rfl (o_pickO rfl rfl (WL.c rfl (o_ash vB ?_))))))))
  exact WL.nil (⟨h1, h2, h5, congrArg Value.bool (by rw [Bool.eq_iff_iff]; simp_all [namB] <;> omega), rfl⟩)
 rintro e w ⟨h1, h2, h5, h6, hw⟩
 subst hw
 refine W.seq (W.region (WL.cut (fun e1 w1 => e1 1 = .int .i64 above ∧ e1 2 = .pointer (some ⟨c2, 0, none⟩) ∧ e1 5 = .bool (okB x) ∧ e1 6 = .bool (namB x) ∧ e1 7 = .bool (labB x above) ∧ w1 = w) ?_ ?_))
 ·-- region 19
  refine WL.c rfl (o_mvh h1 (WL.c rfl (o_eq rfl rfl (WL.c rfl (o_mvh vB (WL.sp 2 rfl (fun g105 => ?_) (fun g105 => ?_)))))))
  ·skip
   refine WL.g rfl (g105) rfl (o_fa 3 TI41 rfl TI9 rfl h2 (WL.g rfl (g105) rfl (o_ld TI9 rfl rfl (cell_of hC2 rfl) (WL.g rfl (g105) rfl (o_call Try.call34 (lc rfl ln) ((name_spec x.label _ hl).mono ?_))))))
   rintro v108 w108 ⟨rfl, rfl⟩
   refine WL.c rfl (o_pickA rfl rfl (WL.c rfl (o_mvh vB (WL.sp 7 rfl (fun g110 => ?_) (fun g110 => ?_)))))
   ·skip
    refine WL.s rfl (g110) rfl (WL.s rfl (g110) rfl (WL.s rfl (g110) rfl (WL.z rfl rfl (WL.z rfl rfl (WL.z rfl rfl (WL.s rfl (g110) rfl (WL.c rfl (o_pickT rfl (g110) (WL.c rfl (o_ash vB ?_))))))))))
    exact WL.nil (⟨h1, h2, h5, h6, congrArg Value.bool (by rw [Bool.eq_iff_iff]; simp_all [labB] <;> omega), rfl⟩)
   skip
   refine WL.g rfl (g110) rfl (o_mvh h1 (WL.g rfl (g110) rfl (o_ne rfl rfl (WL.g rfl (g110) rfl (o_mvh vB (WL.sp 10 rfl (fun g113 => ?_) (fun g113 => ?_)))))))
   ·skip
    refine WL.g rfl (g113) rfl (o_fa 3 TI41 rfl TI9 rfl h2 (WL.g rfl (g113) rfl (o_ld TI9 rfl rfl (cell_of hC2 rfl) (WL.g rfl (g113) rfl (o_eqT rfl rfl (WL.g rfl (g110) rfl (o_pickA rfl rfl (WL.c rfl (o_pickO rfl rfl (WL.c rfl (o_ash vB ?_)))))))))))
    exact WL.nil (⟨h1, h2, h5, h6, congrArg Value.bool (by rw [Bool.eq_iff_iff]; simp_all [labB] <;> omega), rfl⟩)
   skip
   refine WL.s rfl (g113) rfl (WL.s rfl (g113) rfl (WL.s rfl (g113) rfl (WL.g rfl (g110) rfl (o_pickF rfl (g113) (WL.c rfl (o_pickO rfl rfl (WL.c rfl (o_ash vB ?_))))))))
   exact WL.nil (⟨h1, h2, h5, h6, congrArg Value.bool (by rw [Bool.eq_iff_iff]; simp_all [labB] <;> omega), rfl⟩)
  skip
  refine WL.s rfl (g105) rfl (WL.s rfl (g105) rfl (WL.s rfl (g105) rfl (WL.c rfl (o_pickF rfl (g105) (WL.c rfl (o_mvh vB (WL.g rfl (rfl) rfl (o_mvh h1 (WL.g rfl (rfl) rfl (o_ne rfl rfl (WL.g rfl (rfl) rfl (o_mvh vB (WL.sp 10 rfl (fun g113 => ?_) (fun g113 => ?_))))))))))))))
  ·skip
   refine WL.g rfl (g113) rfl (o_fa 3 TI41 rfl TI9 rfl h2 (WL.g rfl (g113) rfl (o_ld TI9 rfl rfl (cell_of hC2 rfl) (WL.g rfl (g113) rfl (o_eqT rfl rfl (WL.g rfl (rfl) rfl (o_pickA rfl rfl (WL.c rfl (o_pickO rfl rfl (WL.c rfl (o_ash vB ?_)))))))))))
   exact WL.nil (⟨h1, h2, h5, h6, congrArg Value.bool (by rw [Bool.eq_iff_iff]; simp_all [labB] <;> omega), rfl⟩)
  skip
  refine WL.s rfl (g113) rfl (WL.s rfl (g113) rfl (WL.s rfl (g113) rfl (WL.g rfl (rfl) rfl (o_pickF rfl (g113) (WL.c rfl (o_pickO rfl rfl (WL.c rfl (o_ash vB ?_))))))))
  exact WL.nil (⟨h1, h2, h5, h6, congrArg Value.bool (by rw [Bool.eq_iff_iff]; simp_all [labB] <;> omega), rfl⟩)
 rintro e w ⟨h1, h2, h5, h6, h7, hw⟩
 subst hw
 refine W.seq (W.region (WL.cut (fun e1 w1 => e1 5 = .bool (okB x) ∧ e1 6 = .bool (namB x) ∧ e1 7 = .bool (labB x above) ∧ e1 8 = .bool (tagB x above) ∧ w1 = w) ?_ ?_))
 ·-- region 20
  refine WL.c rfl (o_fa 4 TI41 rfl TI3 rfl h2 (WL.c rfl (o_ld TI3 rfl rfl (cell_of hC2 rfl) (WL.c rfl (o_eq rfl rfl (WL.c rfl (o_mvh vB (WL.sp 3 rfl (fun g122 => ?_) (fun g122 => ?_)))))))))
  ·skip
   refine WL.s rfl (g122) rfl (WL.s rfl (g122) rfl (WL.s rfl (g122) rfl (WL.z rfl rfl (WL.z rfl rfl (WL.z rfl rfl (WL.s rfl (g122) rfl (WL.s rfl (g122) rfl (WL.z rfl rfl (WL.z rfl rfl (WL.z rfl rfl (WL.s rfl (g122) rfl (WL.c rfl (o_pickT rfl (g122) (WL.c rfl (o_ash vB ?_)))))))))))))))
   exact WL.nil (⟨h5, h6, h7, congrArg Value.bool (by rw [Bool.eq_iff_iff]; simp_all [tagB] <;> omega), rfl⟩)
  skip
  refine WL.g rfl (g122) rfl (o_mvh h1 (WL.g rfl (g122) rfl (o_eq rfl rfl (WL.g rfl (g122) rfl (o_mvh vB (WL.sp 6 rfl (fun g125 => ?_) (fun g125 => ?_)))))))
  ·skip
   refine WL.g rfl (g125) rfl (o_fa 4 TI41 rfl TI3 rfl h2 (WL.g rfl (g125) rfl (o_ld TI3 rfl rfl (cell_of hC2 rfl) (WL.g rfl (g125) rfl (o_gt rfl rfl (WL.g rfl (g122) rfl (o_pickA rfl rfl (WL.g rfl (g122) rfl (o_mvh vB (WL.sp 11 rfl (fun g130 => ?_) (fun g130 => ?_)))))))))))
   ·skip
    refine WL.g rfl (g130) rfl (o_fa 4 TI41 rfl TI3 rfl h2 (WL.g rfl (g130) rfl (o_ld TI3 rfl rfl (cell_of hC2 rfl) (WL.g rfl (g130) rfl (o_le rfl rfl (WL.g rfl (g122) rfl (o_pickA rfl rfl (WL.c rfl (o_pickO rfl rfl (WL.c rfl (o_ash vB ?_)))))))))))
    exact WL.nil (⟨h5, h6, h7, congrArg Value.bool (by rw [Bool.eq_iff_iff]; simp_all [tagB] <;> omega), rfl⟩)
   skip
   refine WL.s rfl (g130) rfl (WL.s rfl (g130) rfl (WL.s rfl (g130) rfl (WL.g rfl (g122) rfl (o_pickF rfl (g130) (WL.c rfl (o_pickO rfl rfl (WL.c rfl (o_ash vB ?_))))))))
   exact WL.nil (⟨h5, h6, h7, congrArg Value.bool (by rw [Bool.eq_iff_iff]; simp_all [tagB] <;> omega), rfl⟩)
  skip
  refine WL.s rfl (g125) rfl (WL.s rfl (g125) rfl (WL.s rfl (g125) rfl (WL.g rfl (g122) rfl (o_pickF rfl (g125) (WL.g rfl (g122) rfl (o_mvh vB (WL.s rfl (rfl) rfl (WL.s rfl (rfl) rfl (WL.s rfl (rfl) rfl (WL.g rfl (g122) rfl (o_pickF rfl (rfl) (WL.c rfl (o_pickO rfl rfl (WL.c rfl (o_ash vB ?_)))))))))))))))
  exact WL.nil (⟨h5, h6, h7, congrArg Value.bool (by rw [Bool.eq_iff_iff]; simp_all [tagB] <;> omega), rfl⟩)
 rintro e w ⟨h5, h6, h7, h8, hw⟩
 subst hw
 refine W.seq (W.region (WL.c rfl (o_mvh h5 (WL.c rfl (o_mvh vB (WL.sp 1 rfl (fun g137 => ?_) (fun g137 => ?_)))))))
 ·skip
  refine WL.g rfl (g137) rfl (o_mvh h6 (WL.c rfl (o_pickA rfl rfl (WL.c rfl (o_mvh vB (WL.sp 4 rfl (fun g140 => ?_) (fun g140 => ?_)))))))
  ·skip
   refine WL.g rfl (g140) rfl (o_mvh h7 (WL.c rfl (o_pickA rfl rfl (WL.c rfl (o_mvh vB (WL.sp 7 rfl (fun g143 => ?_) (fun g143 => ?_)))))))
   ·skip
    refine WL.g rfl (g143) rfl (o_mvh h8 (WL.c rfl (o_pickA rfl rfl (WL.c rfl (o_ash vB (WL.nil (W.ret (ret1v rfl vB ?_))))))))
    exact ⟨congrArg Value.bool (by first | rfl | (rw [rightB, Bool.eq_iff_iff]; simp_all; done) | (rw [rightB]; simp_all; done)), hx2⟩
   skip
   refine WL.s rfl (g143) rfl (WL.c rfl (o_pickF rfl (g143) (WL.c rfl (o_ash vB (WL.nil (W.ret (ret1v rfl vB ?_)))))))
   exact ⟨congrArg Value.bool (by first | rfl | (rw [rightB, Bool.eq_iff_iff]; simp_all; done) | (rw [rightB]; simp_all; done)), hx2⟩
  skip
  refine WL.s rfl (g140) rfl (WL.c rfl (o_pickF rfl (g140) (WL.c rfl (o_mvh vB (WL.s rfl (rfl) rfl (WL.c rfl (o_pickF rfl (rfl) (WL.c rfl (o_ash vB (WL.nil (W.ret (ret1v rfl vB ?_))))))))))))
  exact ⟨congrArg Value.bool (by first | rfl | (rw [rightB, Bool.eq_iff_iff]; simp_all; done) | (rw [rightB]; simp_all; done)), hx2⟩
 skip
 refine WL.s rfl (g137) rfl (WL.c rfl (o_pickF rfl (g137) (WL.c rfl (o_mvh vB (WL.s rfl (rfl) rfl (WL.c rfl (o_pickF rfl (rfl) (WL.c rfl (o_mvh vB (WL.s rfl (rfl) rfl (WL.c rfl (o_pickF rfl (rfl) (WL.c rfl (o_ash vB (WL.nil (W.ret (ret1v rfl vB ?_)))))))))))))))))
 exact ⟨congrArg Value.bool (by first | rfl | (rw [rightB, Bool.eq_iff_iff]; simp_all; done) | (rw [rightB]; simp_all; done)), hx2⟩

structure Opn where
 kind : Int
 left : Int
 deep : Int
def opV (o : Opn) : List Value := [.int .i64 o.kind, .int .i64 o.left, .int .i64 o.deep]
def opsR (S : List Opn) : List Value := S.reverse.flatMap opV
def popZ (S : List Opn) : List Opn := S.dropWhile (fun o => decide (o.left = 0))
def manyB (x : Ex) : Bool := (decide (x.kind = 8) && decide (64 < x.kids)) || (decide (x.kind = 7) && decide (64 < x.kids))
def leftB (S : List Opn) : Bool := S.any (fun o => decide (0 < o.left))
/-- the nodes of an expression; the open ones, the last one first -/
def chkE : List Opn → Nat → List Ex → Nat × Nat
 | S, i, [] => if leftB S = true then (i, 62) else (0, 0)
 | S, i, x :: xs => match popZ S with
  | [] => (i, 62)
  | o :: S' => if 16 < o.deep then (i, 61) else if manyB x = true then (i, 5) else if rightB x o.kind = false then (i, 62)
   else chkE (⟨x.kind, x.kids, o.deep + 1⟩ :: { o with left := o.left - 1 } :: S') (i + 1) xs
theorem chkE_nil {S : List Opn} {i : Nat} : chkE S i [] = if leftB S = true then (i, 62) else (0, 0) := rfl
theorem chkE_cons {S : List Opn} {i : Nat} {x : Ex} {xs : List Ex} : chkE S i (x :: xs) = match popZ S with
  | [] => (i, 62)
  | o :: S' => if 16 < o.deep then (i, 61) else if manyB x = true then (i, 5) else if rightB x o.kind = false then (i, 62)
   else chkE (⟨x.kind, x.kids, o.deep + 1⟩ :: { o with left := o.left - 1 } :: S') (i + 1) xs := rfl
theorem chkE_z {S : List Opn} {i : Nat} {x : Ex} {xs : List Ex} (h : popZ S = []) : chkE S i (x :: xs) = (i, 62) := by rw [chkE_cons, h]
theorem chkE_o {S S' : List Opn} {o : Opn} {i : Nat} {x : Ex} {xs : List Ex} (h : popZ S = o :: S') : chkE S i (x :: xs) = if 16 < o.deep then (i, 61) else if manyB x = true then (i, 5) else if rightB x o.kind = false then (i, 62)
      else chkE (⟨x.kind, x.kids, o.deep + 1⟩ :: { o with left := o.left - 1 } :: S') (i + 1) xs := by rw [chkE_cons, h]
def OkS : List Opn → Prop
 | [] => True
 | o :: S => o.deep = (S.length : Int) ∧ 0 ≤ o.left ∧ o.left ≤ 64 ∧ OkS S
theorem OkS_cons {o : Opn} {S : List Opn} : OkS (o :: S) ↔ o.deep = (S.length : Int) ∧ 0 ≤ o.left ∧ o.left ≤ 64 ∧ OkS S := Iff.rfl
theorem opsR_cons (o : Opn) (S : List Opn) : opsR (o :: S) = opsR S ++ opV o := by simp [opsR]
theorem opsR_len (S : List Opn) : (opsR S).length = S.length * 3 := by
 induction S with
 | nil => rfl
 | cons o S ih => rw [opsR_cons, List.length_append, ih, List.length_cons]; show _ + 3 = _; omega
theorem opsR_get {o : Opn} {S : List Opn} {k : Nat} (v : Value) (h : (opV o)[k]? = some v) : (opsR (o :: S))[S.length * 3 + k]? = some v := by
 rw [opsR_cons, List.getElem?_append_right (by rw [opsR_len]; omega), opsR_len, Nat.add_sub_cancel_left, h]
theorem opsR_take {o : Opn} {S : List Opn} : (opsR (o :: S)).take (S.length * 3) = opsR S := by
 rw [opsR_cons]; exact List.take_left' (opsR_len S)
theorem opsR_set {o : Opn} {S : List Opn} {z : Int} : (opsR (o :: S)).set (S.length * 3 + 1) (.int .i64 z) = opsR ({ o with left := z } :: S) := by
 rw [opsR_cons, opsR_cons, List.set_append_right _ _ (by rw [opsR_len]; omega), opsR_len, Nat.add_sub_cancel_left]
 rfl
theorem leftB_at (S : List Opn) : ∀ k (hk : k < S.length), leftB (S.reverse.drop k).reverse = (decide (0 < (S.reverse[k]'(by simpa using hk)).left) || leftB (S.reverse.drop (k + 1)).reverse) := by
 intro k hk
 rw [← List.getElem_cons_drop (by simpa using hk), List.reverse_cons]
 simp [leftB, Bool.or_comm]
theorem ops_at {S : List Opn} {k : Nat} (hk : k < S.length) : ((opsR S).drop (k * 3)).take 3 = opV (S.reverse[k]'(by simpa using hk)) := by
 have : ∀ (l : List Opn) (k : Nat) (hk : k < l.length), ((l.flatMap opV).drop (k * 3)).take 3 = opV l[k] := by
  intro l
  induction l with
  | nil => intro k hk; simp at hk
  | cons t ts ih =>
   intro k hk
   have h5 : (opV t).length = 3 := rfl
   cases k with
   | zero => rw [Nat.zero_mul, List.drop_zero, List.flatMap_cons]; exact List.take_left' h5
   | succ k =>
    have h1 : (k + 1) * 3 - (opV t).length = k * 3 := by rw [h5]; omega
    have := ih k (by simpa using hk)
    rw [List.flatMap_cons, List.drop_append, List.drop_eq_nil_of_le (by rw [h5]; omega), List.nil_append, h1]
    exact this
 exact this _ _ _
theorem exs_at (ts : List Ex) : ∀ (k : Nat) (hk : k < ts.length), ((exs ts).drop (k * 7)).take 7 = exV ts[k] := by
 induction ts with
 | nil => intro k hk; simp at hk
 | cons t ts ih =>
  intro k hk
  have h5 : (exV t).length = 7 := rfl
  cases k with
  | zero => rw [Nat.zero_mul, List.drop_zero, exs, List.flatMap_cons]; exact List.take_left' h5
  | succ k =>
   have h1 : (k + 1) * 7 - (exV t).length = k * 7 := by rw [h5]; omega
   have := ih k (by simpa using hk)
   rw [exs, List.flatMap_cons, List.drop_append, List.drop_eq_nil_of_le (by rw [h5]; omega), List.nil_append, h1]
   exact this
theorem Sl.exq {w : World} {v : Value} {ts : List Ex} (h : Sl w 7 v ts.length (exs ts)) {k : Nat} (hk : k < ts.length) : ∃ b o c, v = .slice (some ⟨b, o, none⟩) ts.length c ∧ Cells w b (o + k * 7) (exV ts[k]) := by
 rcases h.val with ⟨hz, h0⟩ | ⟨b, o, c, rfl, hnc, hc⟩
 ·omega
 exact ⟨b, o, c, rfl, by rw [← exs_at ts k hk]; exact hc.sub _ _⟩
def slen : Value → Nat
 | .slice _ n _ => n
 | _ => 0
theorem popZ_z {o : Opn} {S : List Opn} (h : o.left = 0) : popZ (o :: S) = popZ S := by simp [popZ, h]
theorem popZ_n {o : Opn} {S : List Opn} (h : ¬ o.left = 0) : popZ (o :: S) = o :: S := by simp [popZ, h]
theorem rightB_kids {x : Ex} {k : Int} (h : rightB x k = true) (hm : manyB x = false) : 0 ≤ x.kids ∧ x.kids ≤ 64 := by
 simp only [rightB, Bool.and_eq_true] at h
 have h1 := h.1.1.1
 unfold okB at h1
 simp only [manyB, Bool.or_eq_false_iff, Bool.and_eq_false_iff, decide_eq_false_iff_not] at hm
 repeat' split at h1
 all_goals first | (simp only [Bool.and_eq_true, decide_eq_true_eq] at h1; omega) | cases h1

theorem own_form {w : World} {base : Nat} {el : TypeId} {s n : Nat} {v : Value} {xs : List Value} (h : w.ownsRow base el s v n xs) : ∃ a c, v = .slice a n c ∧ n ≤ c := by
 rcases h.2 with ⟨rfl, rfl⟩ | ⟨g, cap, cur, rfl, hb, hc, hnc, r⟩
 ·exact ⟨none, 0, rfl, Nat.le_refl _⟩
 exact ⟨_, cap, rfl, hnc⟩
theorem own_take {w : World} {base : Nat} {el : TypeId} {s n m g cap : Nat} {xs : List Value} (h : w.ownsRow base el s (.slice (some ⟨g, 0, none⟩) n cap) n xs) (hm : m ≤ n) : w.ownsRow base el s (.slice (some ⟨g, 0, none⟩) m cap) m (xs.take (m * s)) := by
 obtain ⟨cap', cur, hv, hb, hc, hnc, hcm, hcs, ht⟩ := own_blk h rfl
 simp only [Value.slice.injEq] at hv
 obtain ⟨-, -, rfl⟩ := hv
 have hms : m * s ≤ n * s := Nat.mul_le_mul_right _ hm
 refine ⟨by rw [List.length_take, h.1]; omega, .inr ⟨g, cap, cur, rfl, hb, hc, by omega, hcm, hcs, ?_⟩⟩
 rw [← ht, List.take_take, Nat.min_eq_left hms]
theorem sliced0 (g h c s : Nat) : sliced (some ⟨g, 0, none⟩) 0 h c s = .slice (some ⟨g, 0, none⟩) h c := by
 unfold sliced
 split <;> simp [Addr.add]


set_option maxHeartbeats 4000000 in
theorem checked_spec (l : List Ex) (v : Value) (w0 : World) (hS : Sl w0 7 v l.length (exs l)) (hl : l.length ≤ 4611686018427387904) (hln : ∀ x ∈ l, x.name.length ≤ 9223372036854775807 ∧ x.label.length ≤ 9223372036854775807) : Ca Try.prog 54 #[v] w0 (fun r w' => r = .tuple #[.int .i64 ((chkE [⟨0, 1, 0⟩] 0 l).1 : Int), .int .i64 ((chkE [⟨0, 1, 0⟩] 0 l).2 : Int)] ∧ Ext w0 w') := by
 have hx : Ext w0 w0 := Only.refl _ _
 have hS0 := hS
 refine Ca.of Try.func54 Try.ntmps54 rfl rfl (W.seq (W.region (WL.c rfl (o_ash vI (WL.c rfl (o_ash vI (WL.nil (W.seq (W.region (WL.c rfl (o_bldC (cs := [(.int .i64 0), (.int .i64 1), (.int .i64 0)]) TI129 (Sizes.cons TI3 (Sizes.cons TI3 (Sizes.cons TI3 Sizes.nil))) rfl (lcp vI lnp) rfl rfl (WL.c rfl (o_bs1 TI130 TI129 (show _ = Value.agg #[.int .i64 0, .int .i64 1, .int .i64 0] from rfl) (by decide) (by decide) rfl ?_)))))))))))))
 have hown : (w0.alloc (.cells (Value.agg #[.int .i64 0, .int .i64 1, .int .i64 0]).cells 129)).ownsRow w0.heap.size 129 3 (.slice (some ⟨w0.heap.size, 0, none⟩) 1 1) [(⟨0, 1, 0⟩ : Opn)].length (opsR [⟨0, 1, 0⟩]) := own_new1 rfl
 replace hx : Ext w0 (w0.alloc (.cells (Value.agg #[.int .i64 0, .int .i64 1, .int .i64 0]).cells 129)) := Only.alloc w0 _
 replace hS := hS.ext hx
 generalize w0.alloc (.cells (Value.agg #[.int .i64 0, .int .i64 1, .int .i64 0]).cells 129) = w1 at *
 refine WL.c rfl (o_ash (by first | exact vS | exact rfl) (WL.nil (W.seq (W.seq (W.region (WL.c rfl (o_mvh (by first | exact vS | exact rfl) (WL.c rfl (o_lenR TI37 rfl hS (WL.c rfl (o_mvh vI (WL.nil (W.block (W.loop (fun e w => ∃ (i : Nat) (S : List Opn) (sv : Value), i ≤ l.length ∧ e 0 = v ∧ e 4 = sv ∧ e 12 = v ∧ e 13 = .int .i64 (l.length : Int) ∧ e 14 = .int .i64 (i : Int) ∧ w.ownsRow w0.heap.size 129 3 sv S.length (opsR S) ∧ OkS S ∧ S.length ≤ 18 ∧ chkE [⟨0, 1, 0⟩] 0 l = chkE S i (l.drop i) ∧ Ext w0 w) (fun e w => l.length - (intOf (e 14)).toNat) ?_ ?_))))))))))))))
 ·refine ⟨0, [⟨0, 1, 0⟩], _, Nat.zero_le _, rfl, rfl, rfl, rfl, rfl, hown, ⟨rfl, by decide, by decide, trivial⟩, by decide, rfl, hx⟩
 rintro e w ⟨i, S0, sv0, hi, h0, h4, h12, h13, h14, hown, hok, hSl, hres, hx⟩
 have hm14 := h14
 have hSw := hS0.ext hx
 refine W.seq (W.region (WL.c rfl (o_lt h14 h13 (WL.nil (W.seq (W.cond rfl (fun c15 => ?_) (fun c15 => ?_)))))))
 ·try simp only [cs8] at c15
  have hil : i < l.length := by omega
  obtain ⟨tb, to_, tc, rfl, htc⟩ := Sl.exq hSw hil
  have hlc : l.drop i = l[i] :: l.drop (i + 1) := (List.getElem_cons_drop hil).symm
  refine W.skip (W.seq (W.block (W.seq (W.region (WL.c rfl (o_mvh h14 (WL.c rfl (o_ixB TI37 TI41 h12 h14 (by omega) (WL.c rfl (o_ldA TI41 rfl rfl htc rfl ?_))))))))))
  have hx0 := hx
  have hown0 := hown
  refine WL.c rfl (o_alB TI41 ?_)
  intro w6 hC6 hx6 hs6
  refine WL.c rfl (o_ash vI (WL.u (o_stA TI41 rfl (show _ = Value.agg (exV l[i]).toArray from rfl) rfl rfl hC6 rfl ?_)))
  intro w7 hC7 ho7 hs7
  have hxb := Ext.own hx6 (Nat.le_refl _) ho7
  clear hC6 hx6 hs6 ho7 hs7 hSw htc
  replace hown := own_ext hown hxb
  replace hx := hx.tr hxb
  obtain ⟨c6, hc6⟩ : ∃ c, c = w.heap.size := ⟨_, rfl⟩
  have hc6l : w0.heap.size ≤ c6 ∧ ¬ sv0.ownBlock = some c6 := by
   subst hc6
   exact ⟨by have := hx0.size; omega, fun hk => by have := (hown0.lt _ hk).2; omega⟩
  rw [← hc6] at hC7 ⊢
  refine WL.nil (W.seq (W.block (W.loop (fun e w => ∃ (S : List Opn) (sv : Value), e 0 = Value.slice (some ⟨tb, to_, none⟩) l.length tc ∧ e 4 = sv ∧ e 5 = .int .i64 (i : Int) ∧ e 6 = .pointer (some ⟨c6, 0, none⟩) ∧ e 12 = Value.slice (some ⟨tb, to_, none⟩) l.length tc ∧ e 13 = .int .i64 (l.length : Int) ∧ e 14 = .int .i64 (i : Int) ∧ w.ownsRow w0.heap.size 129 3 sv S.length (opsR S) ∧ OkS S ∧ S.length ≤ 18 ∧ popZ S0 = popZ S ∧ (sv.ownBlock = sv0.ownBlock) ∧ w.heap[c6]? = some (.cells (exV l[i]).toArray 41 (0, 0)) ∧ Ext w0 w) (fun e w => slen (e 4)) ?_ ?_)))
  ·exact ⟨S0, sv0, h0, h4, rfl, rfl, h12, h13, h14, hown, hok, hSl, rfl, rfl, hC7, hx⟩
  rintro e w ⟨S, sv, h0, h4, h5, h6, h12, h13, h14, hown, hok, hSl, hpz, hsb, hC7, hx⟩
  have hm4 := h4
  refine W.seq (W.seq ?_)
  rcases S with _ | ⟨o, S⟩
  ·skip
   have h062 := hres.trans (by rw [hlc, chkE_z hpz])
   refine W.region (WL.c rfl (o_mvh h4 (WL.c rfl (o_lenR TI130 rfl (Sl.own hown) (WL.c rfl (o_gt rfl rfl (WL.c rfl (o_mvh vB (WL.s rfl (decide_eq_false (by simp)) rfl (WL.s rfl (decide_eq_false (by simp)) rfl (WL.s rfl (decide_eq_false (by simp)) rfl (WL.s rfl (decide_eq_false (by simp)) rfl (WL.s rfl (decide_eq_false (by simp)) rfl (WL.s rfl (decide_eq_false (by simp)) rfl (WL.s rfl (decide_eq_false (by simp)) rfl (WL.s rfl (decide_eq_false (by simp)) rfl (WL.c rfl (o_pickF rfl (decide_eq_false (by simp)) (WL.nil (W.condF' rfl (rfl) (W.exit (W.seq (W.seq (W.region (WL.c rfl (o_mvh h4 (WL.c rfl (o_lenR TI130 rfl (Sl.own hown) (WL.c rfl (o_eq rfl rfl (WL.nil (W.condT' rfl (by simp) (W.seq (W.region (WL.c rfl (o_mvh h5 (WL.c rfl (o_ash vI (WL.c rfl (o_ash vI (WL.nil (W.ret (ret2v rfl vI vI ?_)))))))))))))))))))))))))))))))))))))))))))
   rw [h062]
   exact ⟨rfl, hx⟩
  skip
  replace hown : w.ownsRow w0.heap.size 129 3 sv (S.length + 1) (opsR (o :: S)) := hown
  obtain ⟨g, cap, rfl, hgb⟩ := own_some hown (by omega)
  have hcap : S.length + 1 ≤ cap := by obtain ⟨_, _, hv, hh⟩ := own_form hown; cases hv; exact hh
  obtain ⟨hdp, hlo, hhi, hok2⟩ := OkS_cons.1 hok
  have hSl2 : S.length + 1 ≤ 18 := hSl
  have hcg : ¬ g = c6 := fun he => hc6l.2 (by rw [← hsb, he]; rfl)
  refine W.region (WL.c rfl (o_mvh h4 (WL.c rfl (o_lenR TI130 rfl (Sl.own hown) (WL.c rfl (o_gt rfl rfl (WL.c rfl (o_mvh vB (WL.g rfl (decide_eq_true (by omega)) rfl (o_mvh h4 (WL.g rfl (decide_eq_true (by omega)) rfl (o_mvh h4 (WL.g rfl (decide_eq_true (by omega)) rfl (o_lenR TI130 rfl (Sl.own hown) (WL.g rfl (decide_eq_true (by omega)) rfl (o_subi rfl rfl (by omega) (WL.g rfl (decide_eq_true (by omega)) rfl (o_ixB (i := S.length) TI130 TI129 rfl (by show Value.int .i64 _ = _; congr 1; omega) (by omega) (WL.g rfl (decide_eq_true (by omega)) rfl (o_fa 1 TI129 rfl TI3 rfl rfl (WL.g rfl (decide_eq_true (by omega)) rfl (o_ld TI3 rfl rfl (own_cell hown (j := 0 + S.length * 3 + 1) (by rw [Nat.zero_add]; exact opsR_get _ rfl)) (WL.g rfl (decide_eq_true (by omega)) rfl (o_eq rfl rfl (WL.c rfl (o_pickA rfl rfl (WL.nil (W.cond rfl (fun c31 => ?_) (fun c31 => ?_)))))))))))))))))))))))))))))
  ·try simp only [cs8] at c31
   have hz : o.left = 0 := c31.2
   refine W.skip (W.block (W.region (WL.c rfl (o_mvh h4 (WL.c rfl (o_mvh h4 (WL.c rfl (o_lenR TI130 rfl (Sl.own hown) (WL.c rfl (o_subi rfl rfl (by omega) (WL.c rfl (o_slv (h := S.length) TI130 TI129 rfl Lo.n (Hi.s (by show Value.int .i64 _ = _; congr 1; omega)) (Nat.zero_le _) (by omega) ?_))))))))))))
   rw [sliced0]
   have hown2 := own_take hown (m := S.length) (by omega)
   rw [opsR_take] at hown2
   refine WL.c rfl (o_ash (by first | exact vS | exact rfl) (WL.nil (⟨⟨S, _, h0, rfl, h5, h6, h12, h13, h14, hown2, hok.2.2.2, by omega, by rw [hpz, popZ_z hz], hsb, hC7, hx⟩, ?_⟩)))
   rw [hm4]; show S.length < S.length + 1; omega
  try simp only [cs8] at c31
  have hz : ¬ o.left = 0 := fun hz => by rcases c31 with c | c; omega; exact c hz
  have hpz2 := hpz.trans (popZ_n hz)
  have hres2 := hres.trans (by rw [hlc, chkE_o hpz2])
  refine W.exit (W.seq (W.seq (W.region (WL.c rfl (o_mvh h4 (WL.c rfl (o_lenR TI130 rfl (Sl.own hown) (WL.c rfl (o_eq rfl rfl (WL.nil (W.condF' rfl (decide_eq_false (by omega)) (W.skip (W.seq (W.region (WL.c rfl (o_mvh h4 (WL.c rfl (o_mvh h4 (WL.c rfl (o_lenR TI130 rfl (Sl.own hown) (WL.c rfl (o_subi rfl rfl (by omega) (WL.c rfl (o_ixB (i := S.length) TI130 TI129 rfl (by show Value.int .i64 _ = _; congr 1; omega) (by omega) (WL.c rfl (o_ash (by first | exact (show _ = Value.pointer _ from rfl) | exact rfl) (WL.nil (W.seq (W.block (W.seq (W.region (WL.c rfl (o_mvh (by first | exact (show _ = Value.pointer _ from rfl) | exact rfl) (WL.c rfl (o_nil rfl (WL.c rfl (o_fa 2 TI129 rfl TI3 rfl rfl (WL.c rfl (o_ld TI3 rfl rfl (own_cell hown (j := 0 + S.length * 3 + 2) (by rw [Nat.zero_add]; exact opsR_get _ rfl)) (WL.c rfl (o_gt rfl rfl (WL.c rfl (o_ash vB (WL.nil (W.cond rfl (fun c46 => ?_) (fun c46 => ?_))))))))))))))))))))))))))))))))))))))))))))))
  ·try simp only [cs8] at c46
   have hdeep : 16 < o.deep := by omega
   rw [if_pos hdeep] at hres2
   refine W.seq (W.region (WL.c rfl (o_mvh h5 (WL.c rfl (o_ash vI (WL.c rfl (o_ash vI (WL.nil (W.ret (ret2v rfl vI vI ?_))))))))))
   rw [hres2]
   exact ⟨rfl, hx⟩
  try simp only [cs8] at c46
  have hdeep : ¬ 16 < o.deep := by omega
  rw [if_neg hdeep] at hres2
  refine W.seq (W.seq (W.region (WL.c rfl (o_fa 0 TI41 rfl TI3 rfl h6 (WL.c rfl (o_ld TI3 rfl rfl (cell_of hC7 rfl) (WL.c rfl (o_eq rfl rfl (WL.c rfl (o_mvh vB (WL.sp 3 rfl (fun g57 => ?_) (fun g57 => ?_))))))))))))
  ·skip
   refine WL.g rfl (g57) rfl (o_fa 5 TI41 rfl TI3 rfl h6 (WL.g rfl (g57) rfl (o_ld TI3 rfl rfl (cell_of hC7 rfl) (WL.g rfl (g57) rfl (o_gt rfl rfl (WL.c rfl (o_pickA rfl rfl (WL.c rfl (o_ash vB (WL.nil (W.cut (fun e1 w1 => e1 0 = Value.slice (some ⟨tb, to_, none⟩) l.length tc ∧ e1 4 = Value.slice (some ⟨g, 0, none⟩) (S.length + 1) cap ∧ e1 5 = .int .i64 (i : Int) ∧ e1 6 = .pointer (some ⟨c6, 0, none⟩) ∧ e1 7 = .pointer (some ⟨g, 0 + S.length * 3, none⟩) ∧ e1 12 = Value.slice (some ⟨tb, to_, none⟩) l.length tc ∧ e1 13 = .int .i64 (l.length : Int) ∧ e1 14 = .int .i64 (i : Int) ∧ e1 53 = .bool (manyB l[i]) ∧ w1 = w) ?_ ?_)))))))))))
   ·-- both ways
    refine W.cond rfl (fun c53 => ?_) (fun c53 => ?_)
    ·try simp only [cs8] at c53
     refine W.skip ?_
     exact ⟨h0, h4, h5, h6, rfl, h12, h13, h14, congrArg Value.bool (by rw [Bool.eq_iff_iff]; (try simp only [decide_eq_true_eq, decide_eq_false_iff_not] at g57); (try simp only [decide_eq_true_eq, decide_eq_false_iff_not] at g65); (try (cases c53; done)); all_goals simp only [manyB, Bool.or_eq_true, Bool.and_eq_true, decide_eq_true_eq, Bool.false_eq_true, false_iff]; all_goals omega), rfl⟩
    try simp only [cs8] at c53
    refine W.region (WL.c rfl (o_fa 0 TI41 rfl TI3 rfl h6 (WL.c rfl (o_ld TI3 rfl rfl (cell_of hC7 rfl) (WL.c rfl (o_eq rfl rfl (WL.c rfl (o_mvh vB (WL.sp 3 rfl (fun g65 => ?_) (fun g65 => ?_))))))))))
    ·skip
     refine WL.g rfl (g65) rfl (o_fa 5 TI41 rfl TI3 rfl h6 (WL.g rfl (g65) rfl (o_ld TI3 rfl rfl (cell_of hC7 rfl) (WL.g rfl (g65) rfl (o_gt rfl rfl (WL.c rfl (o_pickA rfl rfl (WL.c rfl (o_ash vB (WL.nil ?_))))))))))
     exact ⟨h0, h4, h5, h6, rfl, h12, h13, h14, congrArg Value.bool (by rw [Bool.eq_iff_iff]; (try simp only [decide_eq_true_eq, decide_eq_false_iff_not] at g57); (try simp only [decide_eq_true_eq, decide_eq_false_iff_not] at g65); (try (cases c53; done)); all_goals simp only [manyB, Bool.or_eq_true, Bool.and_eq_true, decide_eq_true_eq, Bool.false_eq_true, false_iff]; all_goals omega), rfl⟩
    skip
    refine WL.s rfl (g65) rfl (WL.s rfl (g65) rfl (WL.s rfl (g65) rfl (WL.c rfl (o_pickF rfl (g65) (WL.c rfl (o_ash vB (WL.nil ?_)))))))
    exact ⟨h0, h4, h5, h6, rfl, h12, h13, h14, congrArg Value.bool (by rw [Bool.eq_iff_iff]; (try simp only [decide_eq_true_eq, decide_eq_false_iff_not] at g57); (try simp only [decide_eq_true_eq, decide_eq_false_iff_not] at g65); (try (cases c53; done)); all_goals simp only [manyB, Bool.or_eq_true, Bool.and_eq_true, decide_eq_true_eq, Bool.false_eq_true, false_iff]; all_goals omega), rfl⟩
   rintro e w ⟨h0, h4, h5, h6, h7, h12, h13, h14, h53, rfl⟩
   refine W.cond h53 (fun c53 => ?_) (fun c53 => ?_)
   ·try simp only [cs8] at c53
    refine W.seq ?_
    have hmany : manyB l[i] = true := by simpa using c53
    rw [if_pos hmany] at hres2
    refine W.region (WL.c rfl (o_mvh h5 (WL.c rfl (o_ash vI (WL.c rfl (o_ash vI (WL.nil (W.ret (ret2v rfl vI vI ?_)))))))))
    rw [hres2]
    exact ⟨rfl, hx⟩
   try simp only [cs8] at c53
   refine W.seq ?_
   have hmany : manyB l[i] = false := by simpa using c53
   rw [if_neg (by simp [hmany])] at hres2
   refine W.tail 5 rfl (by kernel_rfl) (WS.c rfl ((SO.o rfl (o_ldA TI41 rfl h6 (show Cells w c6 0 (exV l[i]) from Cells.of hC7 0 _ (by simp)) rfl ⟨rfl, rfl⟩))) (WS.c rfl ((SO.o rfl (o_mvh h7 ⟨rfl, rfl⟩))) (WS.c rfl ((SO.r (r_nil rfl))) (WS.c rfl ((SO.o rfl (o_fa 0 TI129 rfl TI3 rfl rfl ⟨rfl, rfl⟩))) (WS.c rfl ((SO.o rfl (o_ld TI3 rfl rfl (own_cell hown (j := 0 + S.length * 3 + 0) (by rw [Nat.zero_add]; exact opsR_get _ rfl)) ⟨rfl, rfl⟩))) (WS.nil ?_))))))
   have hxd := Only.drew w
   replace hx := hx.tr hxd
   replace hown := own_ext hown hxd
   replace hC7 := hxd.blk hC7 (fun h => h)
   clear hxd
   generalize w.drew = wd at *
   refine WL.c rfl (o_call Try.call77 (lc rfl (lc rfl ln)) ((right_spec l[i] o.kind _ (hln _ (List.getElem_mem hil)).1 (hln _ (List.getElem_mem hil)).2).mono ?_))
   rintro v77 w77 ⟨rfl, hx77⟩
   replace hx := hx.tr hx77
   replace hown := own_ext hown hx77
   replace hC7 := hx77.blk hC7 (fun h => h)
   refine WL.c rfl (o_not' rfl (WL.c rfl (o_ash vB (WL.nil (W.cond rfl (fun c71 => ?_) (fun c71 => ?_))))))
   ·try simp only [cs8] at c71
    have hright : rightB l[i] o.kind = false := by simpa using c71
    rw [if_pos hright] at hres2
    refine W.seq (W.region (WL.c rfl (o_mvh h5 (WL.c rfl (o_ash vI (WL.c rfl (o_ash vI (WL.nil (W.ret (ret2v rfl vI vI ?_))))))))))
    rw [hres2]
    exact ⟨rfl, hx⟩
   try simp only [cs8] at c71
   have hright : rightB l[i] o.kind = true := by simpa using c71
   rw [if_neg (by simp [hright])] at hres2
   have hkd := rightB_kids hright hmany
   refine W.skip (W.seq (W.region (WL.c rfl (o_mvh h7 (WL.c rfl (o_nil rfl (WL.c rfl (o_fa 1 TI129 rfl TI3 rfl rfl (WL.c rfl (o_ld TI3 rfl rfl (own_cell hown (j := 0 + S.length * 3 + 1) (by rw [Nat.zero_add]; exact opsR_get _ rfl)) (WL.c rfl (o_subi rfl rfl (by omega) (WL.c rfl (o_nil rfl (WL.c rfl (o_fa 1 TI129 rfl TI3 rfl rfl (WL.u (o_stRj (i := S.length * 3 + 1) TI3 rfl (by omega) (show _ = Value.int .i64 (o.left - 1) from rfl) rfl hown rfl (by omega) ?_))))))))))))))))))
   intro wA hown' hoA hsA
   replace hown : wA.ownsRow w0.heap.size 129 3 (Value.slice (some ⟨g, 0, none⟩) (S.length + 1) cap) (S.length + 1) (opsR ({ o with left := o.left - 1 } :: S)) := by rw [← opsR_set]; exact hown'
   clear hown'
   replace hC7 := hoA.blk hC7 (fun hk => hcg (by simpa [Value.ownBlock] using hk))
   have hgl := (hown.lt g rfl).1
   replace hx := hx.trans' hoA (fun _ h => h) (fun k hk he => by have := ob he; omega)
   refine WL.nil ?_
   obtain ⟨wd2, hwd⟩ : ∃ wd2, wd2 = wA.drew := ⟨_, rfl⟩
   have hxd : Ext wA wd2 := hwd ▸ Only.drew wA
   replace hx := hx.tr hxd
   replace hown := own_ext hown hxd
   replace hC7 := hxd.blk hC7 (fun h => h)
   refine W.drawT 12 (Ext) [(4, fun v _ => v = _), (6, fun v _ => v = _), (7, fun v _ => v = _), (0, fun v _ => v = _), (5, fun v _ => v = _), (12, fun v _ => v = _), (13, fun v _ => v = _), (14, fun v _ => v = _)] rfl (by kernel_rfl) (Only.refl No) (fun _ _ _ h k => h.trans k) ⟨Mono.eq, Mono.eq, Mono.eq, Mono.eq, Mono.eq, Mono.eq, Mono.eq, Mono.eq, trivial⟩ ⟨h4, h6, h7, h0, h5, h12, h13, h14, trivial⟩ (WD.p rfl (fun e w hR hh => by obtain ⟨h4, -⟩ := hh; exact SG.n (o_mvh h4 ⟨rfl, Only.refl No _⟩)) (WD.p rfl (fun e w hR hh => by obtain ⟨h6, -⟩ := hh; exact SG.n (o_fa 0 TI41 rfl TI3 rfl h6 ⟨rfl, Only.refl No _⟩)) (WD.p rfl (fun e w hR hh => by obtain ⟨h88, -⟩ := hh; rw [← hwd] at hR; exact SG.n (o_ld TI3 rfl h88 (cell_of (hR.blk hC7 (fun h => h)) rfl) ⟨rfl, Only.refl No _⟩)) (WD.p rfl (fun e w hR hh => by obtain ⟨h6, -⟩ := hh; exact SG.n (o_fa 5 TI41 rfl TI3 rfl h6 ⟨rfl, Only.refl No _⟩)) (WD.p rfl (fun e w hR hh => by obtain ⟨h90, -⟩ := hh; rw [← hwd] at hR; exact SG.n (o_ld TI3 rfl h90 (cell_of (hR.blk hC7 (fun h => h)) rfl) ⟨rfl, Only.refl No _⟩)) (WD.p rfl (fun e w hR hh => by obtain ⟨h7, -⟩ := hh; exact SG.n (o_mvh h7 ⟨rfl, Only.refl No _⟩)) (WD.p rfl (fun e w hR hh => by obtain ⟨h92, -⟩ := hh; exact SG.n (o_nil h92 ⟨rfl, Only.refl No _⟩)) (WD.p rfl (fun e w hR hh => by obtain ⟨h93, -⟩ := hh; exact SG.n (o_fa 2 TI129 rfl TI3 rfl h93 ⟨rfl, Only.refl No _⟩)) (WD.p rfl (fun e w hR hh => by obtain ⟨h94, -⟩ := hh; rw [← hwd] at hR; exact SG.n (o_ld TI3 rfl h94 (show w.cell? ⟨g, 0 + S.length * 3 + 2, none⟩ = some (.int .i64 o.deep) from own_cell (own_ext hown hR) (by rw [Nat.zero_add]; exact opsR_get _ rfl)) ⟨rfl, Only.refl No _⟩)) (WD.p rfl (fun e w hR hh => by obtain ⟨h95, -⟩ := hh; exact SG.n (o_addi h95 rfl (by omega) ⟨rfl, Only.refl No _⟩)) (WD.p rfl (fun e w hR hh => by obtain ⟨h96, h91, h89, -⟩ := hh; exact SG.n (o_bldC (cs := [_, _, _]) TI129 (Sizes.cons TI3 (Sizes.cons TI3 (Sizes.cons TI3 Sizes.nil))) rfl (lcp h89 (lcp h91 (lcp h96 lnp))) rfl rfl ⟨rfl, Only.refl No _⟩)) (WD.q (fun u w => w.ownsRow wd2.heap.size 129 3 u 1 (opV ⟨l[i].kind, l[i].kids, o.deep + 1⟩)) (fun u w w2 hR hh => own_ext hh hR) rfl (fun e w hR hh => by obtain ⟨h97, -⟩ := hh; rw [← hwd] at hR; exact SG.n (o_bs1 TI130 TI129 h97 (by decide) (by decide) rfl ⟨own_mono (own_new1 rfl) hR.size, Only.alloc w _⟩)) ?_))))))))))))
   rintro e w hR ⟨h98, h97, h96, h95, h94, h93, h92, h91, h90, h89, h88, h87, h4, h6, h7, h0, h5, h12, h13, h14, -⟩
   rw [← hwd] at hR
   replace hx := hx.tr hR
   replace hown := own_ext hown hR
   replace hC7 := hR.blk hC7 (fun h => h)
   refine WL.c rfl (o_apO (w0.heap.size) TI130 TI129 h87 rfl hown (Sl.own h98) rfl (by decide) (by simp [opV, Value.oneCell']) (by rw [maxLen_eq]; omega) (by omega) hx.size ?_)
   intro v99 w99 hown99 ho99 hb99 hk99
   have hrow : w99.ownsRow w0.heap.size 129 3 v99 (⟨l[i].kind, l[i].kids, o.deep + 1⟩ :: { o with left := o.left - 1 } :: S).length (opsR (⟨l[i].kind, l[i].kids, o.deep + 1⟩ :: { o with left := o.left - 1 } :: S)) := by rw [opsR_cons ⟨l[i].kind, l[i].kids, o.deep + 1⟩]; exact hown99
   replace hx := hx.trans' ho99 (fun _ h => h) (fun k hk he => by have := ob he; omega)
   have hok3 : OkS ({ o with left := o.left - 1 } :: S) := ⟨hdp, by show 0 ≤ o.left - 1; omega, by show o.left - 1 ≤ 64; omega, hok2⟩
   refine WL.c rfl (o_ash (by first | exact vS | exact rfl) (WL.nil (W.region (WL.c rfl (o_addi h14 rfl (by omega) (WL.c rfl (o_mvh vI (WL.nil (⟨⟨i + 1, _, _, by omega, h0, rfl, h12, h13, rfl, hrow, ⟨by simp only [List.length_cons]; omega, hkd.1, hkd.2, hok3⟩, by simp only [List.length_cons] at hdp ⊢; omega, ?_, hx⟩, ?_⟩)))))))))
   ·rw [hres, hlc, chkE_o hpz2, if_neg hdeep, if_neg (by simp [hmany]), if_neg (by simp [hright])]
   show l.length - ((i : Int) + 1).toNat < _
   rw [hm14]; simp [intOf]; omega
  skip
  refine WL.s rfl (g57) rfl (WL.s rfl (g57) rfl (WL.s rfl (g57) rfl (WL.c rfl (o_pickF rfl (g57) (WL.c rfl (o_ash vB (WL.nil (W.cut (fun e1 w1 => e1 0 = Value.slice (some ⟨tb, to_, none⟩) l.length tc ∧ e1 4 = Value.slice (some ⟨g, 0, none⟩) (S.length + 1) cap ∧ e1 5 = .int .i64 (i : Int) ∧ e1 6 = .pointer (some ⟨c6, 0, none⟩) ∧ e1 7 = .pointer (some ⟨g, 0 + S.length * 3, none⟩) ∧ e1 12 = Value.slice (some ⟨tb, to_, none⟩) l.length tc ∧ e1 13 = .int .i64 (l.length : Int) ∧ e1 14 = .int .i64 (i : Int) ∧ e1 53 = .bool (manyB l[i]) ∧ w1 = w) ?_ ?_))))))))
  ·-- both ways
   refine W.cond rfl (fun c53 => ?_) (fun c53 => ?_)
   ·try simp only [cs8] at c53
    refine W.skip ?_
    exact ⟨h0, h4, h5, h6, rfl, h12, h13, h14, congrArg Value.bool (by rw [Bool.eq_iff_iff]; (try simp only [decide_eq_true_eq, decide_eq_false_iff_not] at g57); (try simp only [decide_eq_true_eq, decide_eq_false_iff_not] at g65); (try (cases c53; done)); all_goals simp only [manyB, Bool.or_eq_true, Bool.and_eq_true, decide_eq_true_eq, Bool.false_eq_true, false_iff]; all_goals omega), rfl⟩
   try simp only [cs8] at c53
   refine W.region (WL.c rfl (o_fa 0 TI41 rfl TI3 rfl h6 (WL.c rfl (o_ld TI3 rfl rfl (cell_of hC7 rfl) (WL.c rfl (o_eq rfl rfl (WL.c rfl (o_mvh vB (WL.sp 3 rfl (fun g65 => ?_) (fun g65 => ?_))))))))))
   ·skip
    refine WL.g rfl (g65) rfl (o_fa 5 TI41 rfl TI3 rfl h6 (WL.g rfl (g65) rfl (o_ld TI3 rfl rfl (cell_of hC7 rfl) (WL.g rfl (g65) rfl (o_gt rfl rfl (WL.c rfl (o_pickA rfl rfl (WL.c rfl (o_ash vB (WL.nil ?_))))))))))
    exact ⟨h0, h4, h5, h6, rfl, h12, h13, h14, congrArg Value.bool (by rw [Bool.eq_iff_iff]; (try simp only [decide_eq_true_eq, decide_eq_false_iff_not] at g57); (try simp only [decide_eq_true_eq, decide_eq_false_iff_not] at g65); (try (cases c53; done)); all_goals simp only [manyB, Bool.or_eq_true, Bool.and_eq_true, decide_eq_true_eq, Bool.false_eq_true, false_iff]; all_goals omega), rfl⟩
   skip
   refine WL.s rfl (g65) rfl (WL.s rfl (g65) rfl (WL.s rfl (g65) rfl (WL.c rfl (o_pickF rfl (g65) (WL.c rfl (o_ash vB (WL.nil ?_)))))))
   exact ⟨h0, h4, h5, h6, rfl, h12, h13, h14, congrArg Value.bool (by rw [Bool.eq_iff_iff]; (try simp only [decide_eq_true_eq, decide_eq_false_iff_not] at g57); (try simp only [decide_eq_true_eq, decide_eq_false_iff_not] at g65); (try (cases c53; done)); all_goals simp only [manyB, Bool.or_eq_true, Bool.and_eq_true, decide_eq_true_eq, Bool.false_eq_true, false_iff]; all_goals omega), rfl⟩
  rintro e w ⟨h0, h4, h5, h6, h7, h12, h13, h14, h53, rfl⟩
  refine W.cond h53 (fun c53 => ?_) (fun c53 => ?_)
  ·try simp only [cs8] at c53
   refine W.seq ?_
   have hmany : manyB l[i] = true := by simpa using c53
   rw [if_pos hmany] at hres2
   refine W.region (WL.c rfl (o_mvh h5 (WL.c rfl (o_ash vI (WL.c rfl (o_ash vI (WL.nil (W.ret (ret2v rfl vI vI ?_)))))))))
   rw [hres2]
   exact ⟨rfl, hx⟩
  try simp only [cs8] at c53
  refine W.seq ?_
  have hmany : manyB l[i] = false := by simpa using c53
  rw [if_neg (by simp [hmany])] at hres2
  refine W.tail 5 rfl (by kernel_rfl) (WS.c rfl ((SO.o rfl (o_ldA TI41 rfl h6 (show Cells w c6 0 (exV l[i]) from Cells.of hC7 0 _ (by simp)) rfl ⟨rfl, rfl⟩))) (WS.c rfl ((SO.o rfl (o_mvh h7 ⟨rfl, rfl⟩))) (WS.c rfl ((SO.r (r_nil rfl))) (WS.c rfl ((SO.o rfl (o_fa 0 TI129 rfl TI3 rfl rfl ⟨rfl, rfl⟩))) (WS.c rfl ((SO.o rfl (o_ld TI3 rfl rfl (own_cell hown (j := 0 + S.length * 3 + 0) (by rw [Nat.zero_add]; exact opsR_get _ rfl)) ⟨rfl, rfl⟩))) (WS.nil ?_))))))
  have hxd := Only.drew w
  replace hx := hx.tr hxd
  replace hown := own_ext hown hxd
  replace hC7 := hxd.blk hC7 (fun h => h)
  clear hxd
  generalize w.drew = wd at *
  refine WL.c rfl (o_call Try.call77 (lc rfl (lc rfl ln)) ((right_spec l[i] o.kind _ (hln _ (List.getElem_mem hil)).1 (hln _ (List.getElem_mem hil)).2).mono ?_))
  rintro v77 w77 ⟨rfl, hx77⟩
  replace hx := hx.tr hx77
  replace hown := own_ext hown hx77
  replace hC7 := hx77.blk hC7 (fun h => h)
  refine WL.c rfl (o_not' rfl (WL.c rfl (o_ash vB (WL.nil (W.cond rfl (fun c71 => ?_) (fun c71 => ?_))))))
  ·try simp only [cs8] at c71
   have hright : rightB l[i] o.kind = false := by simpa using c71
   rw [if_pos hright] at hres2
   refine W.seq (W.region (WL.c rfl (o_mvh h5 (WL.c rfl (o_ash vI (WL.c rfl (o_ash vI (WL.nil (W.ret (ret2v rfl vI vI ?_))))))))))
   rw [hres2]
   exact ⟨rfl, hx⟩
  try simp only [cs8] at c71
  have hright : rightB l[i] o.kind = true := by simpa using c71
  rw [if_neg (by simp [hright])] at hres2
  have hkd := rightB_kids hright hmany
  refine W.skip (W.seq (W.region (WL.c rfl (o_mvh h7 (WL.c rfl (o_nil rfl (WL.c rfl (o_fa 1 TI129 rfl TI3 rfl rfl (WL.c rfl (o_ld TI3 rfl rfl (own_cell hown (j := 0 + S.length * 3 + 1) (by rw [Nat.zero_add]; exact opsR_get _ rfl)) (WL.c rfl (o_subi rfl rfl (by omega) (WL.c rfl (o_nil rfl (WL.c rfl (o_fa 1 TI129 rfl TI3 rfl rfl (WL.u (o_stRj (i := S.length * 3 + 1) TI3 rfl (by omega) (show _ = Value.int .i64 (o.left - 1) from rfl) rfl hown rfl (by omega) ?_))))))))))))))))))
  intro wA hown' hoA hsA
  replace hown : wA.ownsRow w0.heap.size 129 3 (Value.slice (some ⟨g, 0, none⟩) (S.length + 1) cap) (S.length + 1) (opsR ({ o with left := o.left - 1 } :: S)) := by rw [← opsR_set]; exact hown'
  clear hown'
  replace hC7 := hoA.blk hC7 (fun hk => hcg (by simpa [Value.ownBlock] using hk))
  have hgl := (hown.lt g rfl).1
  replace hx := hx.trans' hoA (fun _ h => h) (fun k hk he => by have := ob he; omega)
  refine WL.nil ?_
  obtain ⟨wd2, hwd⟩ : ∃ wd2, wd2 = wA.drew := ⟨_, rfl⟩
  have hxd : Ext wA wd2 := hwd ▸ Only.drew wA
  replace hx := hx.tr hxd
  replace hown := own_ext hown hxd
  replace hC7 := hxd.blk hC7 (fun h => h)
  refine W.drawT 12 (Ext) [(4, fun v _ => v = _), (6, fun v _ => v = _), (7, fun v _ => v = _), (0, fun v _ => v = _), (5, fun v _ => v = _), (12, fun v _ => v = _), (13, fun v _ => v = _), (14, fun v _ => v = _)] rfl (by kernel_rfl) (Only.refl No) (fun _ _ _ h k => h.trans k) ⟨Mono.eq, Mono.eq, Mono.eq, Mono.eq, Mono.eq, Mono.eq, Mono.eq, Mono.eq, trivial⟩ ⟨h4, h6, h7, h0, h5, h12, h13, h14, trivial⟩ (WD.p rfl (fun e w hR hh => by obtain ⟨h4, -⟩ := hh; exact SG.n (o_mvh h4 ⟨rfl, Only.refl No _⟩)) (WD.p rfl (fun e w hR hh => by obtain ⟨h6, -⟩ := hh; exact SG.n (o_fa 0 TI41 rfl TI3 rfl h6 ⟨rfl, Only.refl No _⟩)) (WD.p rfl (fun e w hR hh => by obtain ⟨h88, -⟩ := hh; rw [← hwd] at hR; exact SG.n (o_ld TI3 rfl h88 (cell_of (hR.blk hC7 (fun h => h)) rfl) ⟨rfl, Only.refl No _⟩)) (WD.p rfl (fun e w hR hh => by obtain ⟨h6, -⟩ := hh; exact SG.n (o_fa 5 TI41 rfl TI3 rfl h6 ⟨rfl, Only.refl No _⟩)) (WD.p rfl (fun e w hR hh => by obtain ⟨h90, -⟩ := hh; rw [← hwd] at hR; exact SG.n (o_ld TI3 rfl h90 (cell_of (hR.blk hC7 (fun h => h)) rfl) ⟨rfl, Only.refl No _⟩)) (WD.p rfl (fun e w hR hh => by obtain ⟨h7, -⟩ := hh; exact SG.n (o_mvh h7 ⟨rfl, Only.refl No _⟩)) (WD.p rfl (fun e w hR hh => by obtain ⟨h92, -⟩ := hh; exact SG.n (o_nil h92 ⟨rfl, Only.refl No _⟩)) (WD.p rfl (fun e w hR hh => by obtain ⟨h93, -⟩ := hh; exact SG.n (o_fa 2 TI129 rfl TI3 rfl h93 ⟨rfl, Only.refl No _⟩)) (WD.p rfl (fun e w hR hh => by obtain ⟨h94, -⟩ := hh; rw [← hwd] at hR; exact SG.n (o_ld TI3 rfl h94 (show w.cell? ⟨g, 0 + S.length * 3 + 2, none⟩ = some (.int .i64 o.deep) from own_cell (own_ext hown hR) (by rw [Nat.zero_add]; exact opsR_get _ rfl)) ⟨rfl, Only.refl No _⟩)) (WD.p rfl (fun e w hR hh => by obtain ⟨h95, -⟩ := hh; exact SG.n (o_addi h95 rfl (by omega) ⟨rfl, Only.refl No _⟩)) (WD.p rfl (fun e w hR hh => by obtain ⟨h96, h91, h89, -⟩ := hh; exact SG.n (o_bldC (cs := [_, _, _]) TI129 (Sizes.cons TI3 (Sizes.cons TI3 (Sizes.cons TI3 Sizes.nil))) rfl (lcp h89 (lcp h91 (lcp h96 lnp))) rfl rfl ⟨rfl, Only.refl No _⟩)) (WD.q (fun u w => w.ownsRow wd2.heap.size 129 3 u 1 (opV ⟨l[i].kind, l[i].kids, o.deep + 1⟩)) (fun u w w2 hR hh => own_ext hh hR) rfl (fun e w hR hh => by obtain ⟨h97, -⟩ := hh; rw [← hwd] at hR; exact SG.n (o_bs1 TI130 TI129 h97 (by decide) (by decide) rfl ⟨own_mono (own_new1 rfl) hR.size, Only.alloc w _⟩)) ?_))))))))))))
  rintro e w hR ⟨h98, h97, h96, h95, h94, h93, h92, h91, h90, h89, h88, h87, h4, h6, h7, h0, h5, h12, h13, h14, -⟩
  rw [← hwd] at hR
  replace hx := hx.tr hR
  replace hown := own_ext hown hR
  replace hC7 := hR.blk hC7 (fun h => h)
  refine WL.c rfl (o_apO (w0.heap.size) TI130 TI129 h87 rfl hown (Sl.own h98) rfl (by decide) (by simp [opV, Value.oneCell']) (by rw [maxLen_eq]; omega) (by omega) hx.size ?_)
  intro v99 w99 hown99 ho99 hb99 hk99
  have hrow : w99.ownsRow w0.heap.size 129 3 v99 (⟨l[i].kind, l[i].kids, o.deep + 1⟩ :: { o with left := o.left - 1 } :: S).length (opsR (⟨l[i].kind, l[i].kids, o.deep + 1⟩ :: { o with left := o.left - 1 } :: S)) := by rw [opsR_cons ⟨l[i].kind, l[i].kids, o.deep + 1⟩]; exact hown99
  replace hx := hx.trans' ho99 (fun _ h => h) (fun k hk he => by have := ob he; omega)
  have hok3 : OkS ({ o with left := o.left - 1 } :: S) := ⟨hdp, by show 0 ≤ o.left - 1; omega, by show o.left - 1 ≤ 64; omega, hok2⟩
  refine WL.c rfl (o_ash (by first | exact vS | exact rfl) (WL.nil (W.region (WL.c rfl (o_addi h14 rfl (by omega) (WL.c rfl (o_mvh vI (WL.nil (⟨⟨i + 1, _, _, by omega, h0, rfl, h12, h13, rfl, hrow, ⟨by simp only [List.length_cons]; omega, hkd.1, hkd.2, hok3⟩, by simp only [List.length_cons] at hdp ⊢; omega, ?_, hx⟩, ?_⟩)))))))))
  ·rw [hres, hlc, chkE_o hpz2, if_neg hdeep, if_neg (by simp [hmany]), if_neg (by simp [hright])]
  show l.length - ((i : Int) + 1).toNat < _
  rw [hm14]; simp [intOf]; omega
 try simp only [cs8] at c15
 have hil : i = l.length := by omega
 rw [hil, List.drop_length, chkE_nil] at hres
 refine W.exit (W.seq (W.seq (W.region (WL.c rfl (o_mvh h4 (WL.c rfl (o_lenR TI130 rfl (Sl.own hown) (WL.c rfl (o_mvh vI (WL.nil (W.block (W.loop (fun e w => ∃ k : Nat, k ≤ S0.length ∧ e 0 = v ∧ e 101 = sv0 ∧ e 102 = .int .i64 (S0.length : Int) ∧ e 103 = .int .i64 (k : Int) ∧ leftB S0 = leftB (S0.reverse.drop k).reverse ∧ w.ownsRow w0.heap.size 129 3 sv0 S0.length (opsR S0) ∧ Ext w0 w) (fun e w => S0.length - (intOf (e 103)).toNat) ?_ ?_))))))))))))
 ·exact ⟨0, Nat.zero_le _, h0, rfl, rfl, rfl, by rw [List.drop_zero, List.reverse_reverse], hown, hx⟩
 rintro e w ⟨k, hk, h0, h101, h102, h103, hlb, hown, hx⟩
 have hm103 := h103
 refine W.seq (W.region (WL.c rfl (o_lt h103 h102 (WL.nil (W.seq (W.cond rfl (fun c104 => ?_) (fun c104 => ?_)))))))
 ·try simp only [cs8] at c104
  have hk1 : k < S0.length := by omega
  obtain ⟨g, cap, rfl, hgb⟩ := own_some hown (by omega)
  have hcc := own_cellsAt hown k
  rw [ops_at hk1] at hcc
  refine W.skip (W.seq (W.block (W.seq (W.region (WL.c rfl (o_ixB TI130 TI129 h101 h103 (by omega) (WL.c rfl (o_ldA TI129 rfl rfl hcc rfl (WL.c rfl (o_alB TI129 ?_))))))))))
  intro w9 hC9 hx9 hs9
  refine WL.u (o_stA TI129 rfl (show _ = Value.agg (opV (S0.reverse[k]'(by simpa using hk1))).toArray from rfl) rfl rfl hC9 rfl ?_)
  intro wb hCb hob hsb
  have hxb := Ext.own hx9 (Nat.le_refl _) hob
  clear hC9 hx9 hs9 hob hsb hcc
  replace hown := own_ext hown hxb
  replace hx := hx.tr hxb
  refine WL.nil (W.seq (W.region (WL.c rfl (o_fa 1 TI129 rfl TI3 rfl rfl (WL.c rfl (o_ld TI3 rfl rfl (cell_of hCb rfl) (WL.c rfl (o_gt rfl rfl (WL.nil (W.cond rfl (fun c109 => ?_) (fun c109 => ?_)))))))))))
  ·try simp only [cs8] at c109
   have hnl : 0 < (S0.reverse[k]'(by simpa using hk1)).left := by omega
   rw [hlb, leftB_at _ _ hk1, decide_eq_true hnl, Bool.true_or, if_pos rfl] at hres
   refine W.seq (W.region (WL.c rfl (o_mvh h0 (WL.c rfl (o_lenR TI37 rfl (hS0.ext hx) (WL.c rfl (o_ash vI (WL.c rfl (o_ash vI (WL.nil (W.ret (ret2v rfl vI vI ?_))))))))))))
   rw [hres]
   exact ⟨rfl, hx⟩
  try simp only [cs8] at c109
  have hnl : ¬ 0 < (S0.reverse[k]'(by simpa using hk1)).left := by omega
  refine W.skip (W.region (WL.c rfl (o_addi h103 rfl (by omega) (WL.c rfl (o_mvh vI (WL.nil (⟨⟨k + 1, by omega, h0, h101, h102, rfl, ?_, hown, hx⟩, ?_⟩)))))))
  ·rw [hlb, leftB_at _ _ hk1, decide_eq_false hnl, Bool.false_or]
  show S0.length - ((k : Int) + 1).toNat < _
  rw [hm103]; simp [intOf]; omega
 try simp only [cs8] at c104
 have hk1 : k = S0.length := by omega
 rw [hk1, show (S0.reverse.drop S0.length).reverse = [] by simp] at hlb
 rw [hlb, if_neg (by simp [leftB])] at hres
 refine W.exit (W.seq (W.region (WL.c rfl (o_ash vI (WL.c rfl (o_ash vI (WL.nil (W.ret (ret2v rfl vI vI ?_)))))))))
 rw [hres]
 exact ⟨rfl, hx⟩
end Go.Proofs.Ytpbflfgigfdohaa

namespace Go.Proofs.Ytpbflfgigfdohaa
open Go Go.Vc Go.RowKit Go.Proofs

theorem fm_at {α : Type} {f : α → List Value} {s : Nat} (hs : ∀ a, (f a).length = s) (ts : List α) : ∀ (k : Nat) (hk : k < ts.length), ((ts.flatMap f).drop (k * s)).take s = f ts[k] := by
 induction ts with
 | nil => intro k hk; simp at hk
 | cons t ts ih =>
  intro k hk
  cases k with
  | zero => rw [Nat.zero_mul, List.drop_zero, List.flatMap_cons]; exact List.take_left' (hs t)
  | succ k =>
   have h1 : (k + 1) * s - (f t).length = k * s := by rw [hs, Nat.succ_mul]; omega
   have h2 : (f t).length ≤ (k + 1) * s := by rw [hs, Nat.succ_mul]; omega
   have := ih k (by simpa using hk)
   rw [List.flatMap_cons, List.drop_append, List.drop_eq_nil_of_le h2, List.nil_append, h1]
   exact this
theorem drows_at (D : List Df) (V : Nat → Value) {k : Nat} (hk : k < D.length) : ((drows D V).drop (k * 3)).take 3 = dcell (D.getD k df0) (V k) := by
 have h := fm_at (f := fun j => dcell (D.getD j df0) (V j)) (s := 3) (fun _ => rfl) (List.range D.length) k (by simpa using hk)
 rw [drows, h, List.getElem_range]
/-- definitions that are read -/
structure DefR (w : World) (D : List Df) (dv : Value) (V : Nat → Value) : Prop where
 row : Sl w 3 dv D.length (drows D V)
 tys : ∀ j, j < D.length → Sl w 7 (V j) (tyD D j).length (exs (tyD D j))
theorem DefR.only {w w' : World} {D : List Df} {dv : Value} {V : Nat → Value} {F : Nat → Prop} (h : DefR w D dv V) (ho : Only F w w') (hn : ∀ k, DF dv V D.length k → ¬ F k) : DefR w' D dv V :=
 ⟨h.row.only ho (fun k hk => hn k (.inl hk)), fun j hj => (h.tys j hj).only ho (fun k hk => hn k (.inr ⟨j, hj, hk⟩))⟩
theorem DefR.ext {w w' : World} {D : List Df} {dv : Value} {V : Nat → Value} (h : DefR w D dv V) (ho : Ext w w') : DefR w' D dv V := h.only ho (fun _ _ h => h)
theorem Defs.rd {w : World} {H : Nat} {D : List Df} {dv : Value} {V : Nat → Value} (h : Defs w H D dv V) : DefR w D dv V := ⟨Sl.own h.row, fun j hj => Sl.own (h.tys.row j hj)⟩
theorem DefR.at {w : World} {D : List Df} {dv : Value} {V : Nat → Value} (h : DefR w D dv V) {k : Nat} (hk : k < D.length) : ∃ b o c, dv = .slice (some ⟨b, o, none⟩) D.length c ∧ Cells w b (o + k * 3) (dcell (D.getD k df0) (V k)) := by
 rcases h.row.val with ⟨hz, h0⟩ | ⟨b, o, c, rfl, hnc, hc⟩
 ·omega
 exact ⟨b, o, c, rfl, by rw [← drows_at D V hk]; exact hc.sub _ _⟩
theorem sl_one1 {w : World} {s : Nat} {v : Value} {n : Nat} {xs : List Value} (h : Sl w s v n xs) : v.oneCell' = true := by
 obtain ⟨a, c, rfl⟩ := h.isSlice
 rfl
/-- names and numbers that a machine can hold -/
def DLim (D : List Df) : Prop := ∀ d ∈ D, d.name.length ≤ 9223372036854775807 ∧ d.ty.length ≤ 4611686018427387904 ∧ ∀ x ∈ d.ty, x.name.length ≤ 9223372036854775807 ∧ x.label.length ≤ 9223372036854775807
def chkT (l : List Ex) : Nat × Nat := chkE [⟨0, 1, 0⟩] 0 l
def chkA : Nat → List Df → Nat × Nat × Nat
 | _, [] => (0, 0, 0)
 | i, d :: ds => if nameB d.name = false then (i, 0, 62) else if (chkT d.ty).2 = 0 then chkA (i + 1) ds else (i, chkT d.ty)
def chkS (D : List Df) : Nat × Nat × Nat := if 256 < D.length then (256, 0, 5) else chkA 0 D
theorem chkA_nil {i : Nat} : chkA i [] = (0, 0, 0) := rfl
theorem chkA_cons {i : Nat} {d : Df} {ds : List Df} : chkA i (d :: ds) = if nameB d.name = false then (i, 0, 62) else if (chkT d.ty).2 = 0 then chkA (i + 1) ds else (i, chkT d.ty) := rfl
def rs3 (r : Nat × Nat × Nat) : Value := .tuple #[.int .i64 (r.1 : Int), .int .i64 (r.2.1 : Int), .int .i64 (r.2.2 : Int)]

set_option maxHeartbeats 2000000 in
theorem check_spec (D : List Df) (dv : Value) (V : Nat → Value) (w0 : World) (hD : DefR w0 D dv V) (hlim : DLim D) : Ca Try.prog 28 #[.agg #[dv]] w0 (fun r w' => r = rs3 (chkS D) ∧ Ext w0 w') := by
 refine Ca.of Try.func28 Try.ntmps28 rfl rfl (W.seq (W.region (WL.c rfl (o_boxB rfl ?_))))
 intro w1 hC1 hx1 hs1
 have hx := hx1
 replace hC1 : w1.heap[w0.heap.size]? = some (.cells #[dv] 25 (0, 0)) := hC1
 obtain ⟨c1, hc1⟩ : ∃ c, c = w0.heap.size := ⟨_, rfl⟩
 rw [← hc1] at hC1 ⊢
 replace hD := hD.ext hx1
 refine WL.c rfl (o_ash vI (WL.c rfl (o_ash vI (WL.c rfl (o_ash vI (WL.nil (W.seq (W.seq (W.region (WL.c rfl (o_fa 0 TI25 rfl TI23 rfl rfl (WL.c rfl (o_ld TI23 rfl rfl (cell_of hC1 rfl) (WL.c rfl (o_lenR TI23 rfl hD.row (WL.c rfl (o_gt rfl rfl (WL.nil (W.cond rfl (fun c12 => ?_) (fun c12 => ?_))))))))))))))))))))
 ·try simp only [cs8] at c12
  have hn : 256 < D.length := by omega
  refine W.seq (W.region (WL.c rfl (o_ash vI (WL.c rfl (o_ash vI (WL.c rfl (o_ash vI (WL.nil (W.ret (ret3v rfl vI vI vI ?_))))))))))
  exact ⟨by rw [chkS, if_pos hn]; rfl, hx⟩
 try simp only [cs8] at c12
 have hn : ¬ 256 < D.length := by omega
 refine W.skip (W.seq (W.seq (W.region (WL.c rfl (o_fa 0 TI25 rfl TI23 rfl rfl (WL.c rfl (o_ld TI23 rfl rfl (cell_of hC1 rfl) (WL.c rfl (o_lenR TI23 rfl hD.row (WL.c rfl (o_mvh vI (WL.nil (W.block (W.loop (fun e w => ∃ i : Nat, i ≤ D.length ∧ e 14 = dv ∧ e 15 = .int .i64 (D.length : Int) ∧ e 16 = .int .i64 (i : Int) ∧ chkS D = chkA i (D.drop i) ∧ DefR w D dv V ∧ Ext w0 w) (fun e w => D.length - (intOf (e 16)).toNat) ?_ ?_))))))))))))))
 ·exact ⟨0, Nat.zero_le _, rfl, rfl, rfl, by rw [chkS, if_neg hn]; rfl, hD, hx⟩
 rintro e w ⟨i, hi, h14, h15, h16, hres, hD, hx⟩
 have hm16 := h16
 refine W.seq (W.region (WL.c rfl (o_lt h16 h15 (WL.nil (W.seq (W.cond rfl (fun c17 => ?_) (fun c17 => ?_)))))))
 ·try simp only [cs8] at c17
  have hil : i < D.length := by omega
  obtain ⟨tb, to_, tc, rfl, htc⟩ := hD.at hil
  have htd : tyD D i = D[i].ty := by simp [tyD, List.getD_eq_getElem?_getD, hil]
  have hty := hD.tys i hil
  rw [htd] at hty
  rw [show D.getD i df0 = D[i] by simp [List.getD_eq_getElem?_getD, hil]] at htc
  have hdr : D.drop i = D[i] :: D.drop (i + 1) := (List.getElem_cons_drop hil).symm
  have hli := hlim _ (List.getElem_mem hil)
  refine W.skip (W.seq (W.block (W.seq (W.region (WL.c rfl (o_mvh h16 (WL.c rfl (o_ixB TI23 TI39 h14 h16 (by omega) (WL.c rfl (o_ldA TI39 rfl rfl htc rfl (WL.c rfl (o_alB TI39 ?_))))))))))))
  intro w6 hC6 hx6 hs6
  refine WL.c rfl (o_ash vI (WL.u (o_stA TI39 rfl (show _ = Value.agg (dcell D[i] (V i)).toArray from rfl) rfl (by simp only [dcell, List.toArray, Array.toList, List.all_cons, List.all_nil, sl_one1 hty]; rfl) hC6 rfl ?_)))
  intro w7 hC7 ho7 hs7
  have hxb := Ext.own hx6 (Nat.le_refl _) ho7
  clear hC6 hx6 hs6 ho7 hs7 htc
  replace hx := hx.tr hxb
  replace hD := hD.ext hxb
  replace hty := hty.ext hxb
  obtain ⟨c6, hc6⟩ : ∃ c, c = w.heap.size := ⟨_, rfl⟩
  rw [← hc6] at hC7 ⊢
  refine WL.nil (W.seq (W.seq (W.region (WL.c rfl (o_fa 0 TI39 rfl TI9 rfl rfl (WL.c rfl (o_ld TI9 rfl rfl (cell_of hC7 rfl) (WL.c rfl (o_call Try.call34 (lc rfl ln) ((name_spec D[i].name _ hli.1).mono ?_))))))))))
  rintro v23 w23 ⟨rfl, rfl⟩
  refine WL.c rfl (o_not' rfl (WL.nil (W.cond rfl (fun c24 => ?_) (fun c24 => ?_))))
  ·try simp only [cs8] at c24
   have hnm : nameB D[i].name = false := by simpa using c24
   refine W.seq (W.region (WL.c rfl (o_mvh vI (WL.c rfl (o_ash vI (WL.c rfl (o_ash vI (WL.c rfl (o_ash vI (WL.nil (W.ret (ret3v rfl vI vI vI ?_))))))))))))
   rw [hres, hdr, chkA_cons, if_pos hnm]
   exact ⟨rfl, hx⟩
  try simp only [cs8] at c24
  have hnm : nameB D[i].name = true := by simpa using c24
  refine W.skip (W.seq (W.region (WL.c rfl (o_fa 2 TI39 rfl TI37 rfl rfl (WL.c rfl (o_ld TI37 rfl rfl (cell_of hC7 rfl) (WL.c rfl (o_call Try.call54 (lc rfl ln) ((checked_spec D[i].ty (V i) _ hty hli.2.1 hli.2.2).mono ?_)))))))))
  rintro v29 w29 ⟨rfl, hx29⟩
  replace hx := hx.tr hx29
  replace hD := hD.ext hx29
  refine WL.c rfl (o_mvh (by first | exact (show _ = Value.tuple _ from rfl) | exact rfl) (WL.c rfl (o_ext rfl rfl (WL.c rfl (o_ext rfl rfl (WL.c rfl (o_ash vI (WL.c rfl (o_ash vI (WL.nil (W.seq (W.region (WL.c rfl (o_mvh vI (WL.c rfl (o_ne rfl rfl (WL.nil (W.cond rfl (fun c33 => ?_) (fun c33 => ?_)))))))))))))))))))
  ·try simp only [cs8] at c33
   have hce : ¬ (chkT D[i].ty).2 = 0 := by have : (chkT D[i].ty).2 = (chkE [⟨0, 1, 0⟩] 0 D[i].ty).2 := rfl; omega
   refine W.seq (W.region (WL.c rfl (o_mvh vI (WL.c rfl (o_mvh vI (WL.c rfl (o_mvh vI (WL.c rfl (o_ash vI (WL.c rfl (o_ash vI (WL.c rfl (o_ash vI (WL.nil (W.ret (ret3v rfl vI vI vI ?_))))))))))))))))
   rw [hres, hdr, chkA_cons, if_neg (by simp [hnm]), if_neg hce]
   exact ⟨rfl, hx⟩
  try simp only [cs8] at c33
  have hce : (chkT D[i].ty).2 = 0 := by have : (chkT D[i].ty).2 = (chkE [⟨0, 1, 0⟩] 0 D[i].ty).2 := rfl; omega
  refine W.skip (W.region (WL.c rfl (o_addi h16 rfl (by omega) (WL.c rfl (o_mvh vI (WL.nil (⟨⟨i + 1, by omega, h14, h15, rfl, ?_, hD, hx⟩, ?_⟩)))))))
  ·rw [hres, hdr, chkA_cons, if_neg (by simp [hnm]), if_pos hce]
  show D.length - ((i : Int) + 1).toNat < _
  rw [hm16]; simp [intOf]; omega
 try simp only [cs8] at c17
 have hil : i = D.length := by omega
 rw [hil, List.drop_length, chkA_nil] at hres
 refine W.exit (W.seq (W.region (WL.c rfl (o_ash vI (WL.c rfl (o_ash vI (WL.c rfl (o_ash vI (WL.nil (W.ret (ret3v rfl vI vI vI ?_)))))))))))
 rw [hres]
 exact ⟨rfl, hx⟩
end Go.Proofs.Ytpbflfgigfdohaa

namespace Go.Proofs.Ytpbflfgigfdohaa
open Go Go.Vc Go.RowKit Go.Proofs

theorem bind_bad {α β : Type} {r : Pr α} {f : α → Nat → Pr β} {e j : Nat} (h : r.bind f = .bad e j) : r = .bad e j ∨ ∃ a i, r = .ok a i ∧ f a i = .bad e j := by
 cases r with
 | ok a i => exact .inr ⟨a, i, rfl, h⟩
 | bad e i => injection h with h1 h2; exact .inl (by rw [h1, h2])
theorem wantT_bad {T : List Tk} {i k e j : Nat} {s : List UInt8} (h : wantT T i k s = .bad e j) : e = 60 ∧ j = i ∧ isT (tkA T i) k s = false := by
 unfold wantT at h
 split at h
 ·cases h
 rename_i h1; cases h; exact ⟨rfl, rfl, by simpa using h1⟩
theorem numT_bad {T : List Tk} {i e j : Nat} (h : numT T i = .bad e j) : e = 60 ∧ j = i ∧ ¬ (tkA T i).kind = 2 := by
 unfold numT at h
 split at h
 ·cases h
 rename_i h1; cases h; exact ⟨rfl, rfl, h1⟩
theorem nameT_bad {T : List Tk} {i e j : Nat} (h : nameT T i = .bad e j) : e = 60 ∧ j = i ∧ nmT (tkA T i) = false := by
 unfold nameT at h
 split at h
 ·cases h
 rename_i h1; cases h; exact ⟨rfl, rfl, by simpa using h1⟩


theorem leafE_ok {s : List UInt8} {kn : Int × Int} (h : leafE s = some kn) : kn = (1, 1) ∨ kn = (1, 2) ∨ kn = (1, 4) ∨ kn = (1, 8) ∨ kn = (2, 0) ∨ kn = (3, 0) := by
 unfold leafE at h
 repeat' split at h
 all_goals first | (cases h; simp; done) | cases h
theorem bgn_name {t : Tk} (hb : bgnT t = true) (hl : leafE t.text = none) (hv : ¬ (t.text = [118, 101, 99, 116, 111, 114] ∨ t.text = [108, 105, 115, 116])) (ho : ¬ t.text = [111, 112, 116, 105, 111, 110]) (hu : ¬ t.text = [117, 110, 105, 111, 110]) (hs : ¬ t.text = [115, 116, 114, 117, 99, 116]) : t.kind = 1 ∧ nameB t.text = true := by
 rw [not_or] at hv
 unfold bgnT at hb
 rw [hl, decide_eq_false hv.1, decide_eq_false hv.2, decide_eq_false ho, decide_eq_false hu, decide_eq_false hs] at hb
 simpa using hb
theorem bgn_kind {t : Tk} (hb : bgnT t = true) : t.kind = 1 := by
 unfold bgnT at hb
 rw [Bool.and_eq_true, decide_eq_true_eq] at hb
 exact hb.1
def Base (x : Ex) : Prop := x.n = 0 ∧ x.kids = 0 ∧ x.name = []
def ChkM (r : Option (Bool × Nat)) (deep : Nat) (x : Ex) (N : List Ex) (n : Nat) : Prop := match r with
 | none => ∀ (o : Opn) (S : List Opn) (k : Nat) (rest : List Ex), o.deep = (deep : Int) → 0 < o.left → Base x → labB x o.kind = true → tagB x o.kind = true → chkE (o :: S) k (N ++ rest) = chkE ({ o with left := o.left - 1 } :: S) (k + N.length) rest
 | some (u, q) => q < n ∧ n ≤ 64 ∧ ∀ (o : Opn) (S : List Opn) (k : Nat) (rest : List Ex), o.deep = ((deep + 1 : Nat) : Int) → o.kind = (if u then 7 else 8) → o.left = (n : Int) - q → chkE (o :: S) k (N ++ rest) = chkE ({ o with left := 0 } :: S) (k + N.length) rest
theorem atE_lab {i : Nat} {x : Ex} {a : Int} : labB (atE i x) a = labB x a := by unfold atE; split <;> rfl
theorem atE_tag {i : Nat} {x : Ex} {a : Int} : tagB (atE i x) a = tagB x a := by unfold atE; split <;> rfl
theorem atE_base {i : Nat} {x : Ex} (h : Base x) : Base (atE i x) := by unfold atE; split <;> exact h
theorem chk_node {o : Opn} {S : List Opn} {k deep : Nat} {y : Ex} {rest : List Ex} (hd : o.deep = (deep : Int)) (hl : 0 < o.left) (hdeep : deep ≤ 16) (hm : manyB y = false) (hr : rightB y o.kind = true) :
  chkE (o :: S) k (y :: rest) = chkE (⟨y.kind, y.kids, ((deep + 1 : Nat) : Int)⟩ :: { o with left := o.left - 1 } :: S) (k + 1) rest := by
 rw [chkE_o (popZ_n (show ¬ o.left = 0 by omega)), if_neg (by omega), if_neg (by simp [hm]), if_neg (by simp [hr]), show o.deep + 1 = ((deep + 1 : Nat) : Int) by omega]
theorem chkE_pz0 {a b : Int} {S : List Opn} {i : Nat} {l : List Ex} : chkE (⟨a, 0, b⟩ :: S) i l = chkE S i l := by
 cases l with
 | nil => rfl
 | cons x xs => rw [chkE_cons, chkE_cons, popZ_z rfl]
theorem pop_idx {S : List Opn} {a b : Nat} {l : List Ex} (h : a = b) : chkE S a l = chkE S b l := by rw [h]
theorem px_chk {T : List Tk} (hT : ∀ i, (tkA T i).n ≤ 2147483647) {r : Option (Bool × Nat)} {deep i : Nat} {x : Ex} {N : List Ex} {n j : Nat} (h : PX T r deep i x N n j) : ChkM r deep x N n := by
 induction h with
 | @leaf deep i x kn hb hd hl =>
  intro o S k rest ho hp hx h1 h2
  have hk := leafE_ok hl
  obtain ⟨b1, b2, b3⟩ := atE_base (i := i) hx
  show chkE (o :: S) k (_ :: rest) = _
  rw [chk_node ho hp hd (by rcases hk with rfl | rfl | rfl | rfl | rfl | rfl <;> simp [manyB, Ex.lf]) ?_]
  ·show chkE (⟨_, (atE i x).kids, _⟩ :: _) _ _ = _
   rw [b2, chkE_pz0]; rfl
  simp only [rightB, Bool.and_eq_true]
  refine ⟨⟨⟨?_, ?_⟩, ?_⟩, ?_⟩
  ·rcases hk with rfl | rfl | rfl | rfl | rfl | rfl <;> simp [okB, Ex.lf, b2]
  ·rcases hk with rfl | rfl | rfl | rfl | rfl | rfl <;> simp [namB, Ex.lf, b3]
  ·exact atE_lab.trans h1
  exact atE_tag.trans h2
 | @nm deep i x hb hd hl hv ho_ hu hs =>
  intro o S k rest ho hp hx h1 h2
  have hnm := (bgn_name hb hl hv ho_ hu hs).2
  obtain ⟨b1, b2, b3⟩ := atE_base (i := i) hx
  show chkE (o :: S) k (_ :: rest) = _
  rw [chk_node ho hp hd (by simp [manyB, Ex.nm]) ?_]
  ·show chkE (⟨_, (atE i x).kids, _⟩ :: _) _ _ = _
   rw [b2, chkE_pz0]; rfl
  simp only [rightB, Bool.and_eq_true]
  refine ⟨⟨⟨?_, ?_⟩, ?_⟩, ?_⟩
  ·simp [okB, Ex.nm, b1, b2]
  ·simp [namB, Ex.nm, hnm]
  ·exact atE_lab.trans h1
  exact atE_tag.trans h2
 | @vec deep i x N j hb hd hl hv h1 hN h2 h3 h4 ih =>
  intro o S k rest ho hp hx g1 g2
  obtain ⟨b1, b2, b3⟩ := atE_base (i := i) hx
  have hn := hT (j + 1)
  show chkE (o :: S) k (_ :: (N ++ rest)) = _
  rw [chk_node ho hp hd (by simp only [manyB, Ex.vec]; split <;> simp) ?_]
  ·refine (ih _ _ _ _ rfl (show (0 : Int) < 1 by decide) ⟨rfl, rfl, rfl⟩ ?_ ?_).trans ?_
   ·simp only [labB, Ex.vec]; split <;> first | rfl | (rename_i hh; split at hh <;> cases hh)
   ·rfl
   show chkE (⟨_, (1 : Int) - 1, _⟩ :: _) _ _ = _
   rw [show (1 : Int) - 1 = 0 from rfl, chkE_pz0]
   exact pop_idx (by rw [List.length_cons]; omega)
  simp only [rightB, Bool.and_eq_true]
  refine ⟨⟨⟨?_, ?_⟩, ?_⟩, ?_⟩
  ·(generalize decide ((tkA T i).text = [108, 105, 115, 116]) = b; cases b <;> simp [okB, Ex.vec] <;> omega)
  ·simp only [namB, Ex.vec]; split <;> simp [b3]
  ·exact atE_lab.trans g1
  exact atE_tag.trans g2
 | @opt deep i x N j hb hd hl ho_ h1 hN h2 ih =>
  intro o S k rest ho hp hx g1 g2
  obtain ⟨b1, b2, b3⟩ := atE_base (i := i) hx
  show chkE (o :: S) k (_ :: (N ++ rest)) = _
  rw [chk_node ho hp hd (by simp [manyB, Ex.opt]) ?_]
  ·refine (ih _ _ _ _ rfl (show (0 : Int) < 1 by decide) ⟨rfl, rfl, rfl⟩ rfl rfl).trans ?_
   show chkE (⟨_, (1 : Int) - 1, _⟩ :: _) _ _ = _
   rw [show (1 : Int) - 1 = 0 from rfl, chkE_pz0]
   exact pop_idx (by rw [List.length_cons]; omega)
  simp only [rightB, Bool.and_eq_true]
  refine ⟨⟨⟨?_, ?_⟩, ?_⟩, ?_⟩
  ·simp [okB, Ex.opt, b1]
  ·simp [namB, Ex.opt, b3]
  ·exact atE_lab.trans g1
  exact atE_tag.trans g2
 | @br deep i x u M n j hb hd hl hw h1 hM ih =>
  intro o S k rest ho hp hx g1 g2
  obtain ⟨q1, q2, q3⟩ := ih
  obtain ⟨b1, b2, b3⟩ := atE_base (i := i) hx
  show chkE (o :: S) k (_ :: (M ++ rest)) = _
  rw [chk_node ho hp hd (by cases u <;> simp [manyB, Ex.br] <;> omega) ?_]
  ·refine (q3 ⟨_, _, _⟩ _ _ _ rfl rfl (by show ((n : Nat) : Int) = _; omega)).trans ?_
   rw [chkE_pz0]
   exact pop_idx (by rw [List.length_cons]; omega)
  simp only [rightB, Bool.and_eq_true]
  refine ⟨⟨⟨?_, ?_⟩, ?_⟩, ?_⟩
  ·cases u <;> simp [okB, Ex.br, b1] <;> omega
  ·cases u <;> simp [namB, Ex.br, b3]
  ·exact atE_lab.trans g1
  exact atE_tag.trans g2
 | @last deep i u k N j hk hh hc hN hm hr ih =>
  refine ⟨by omega, by omega, fun o S k' rest ho hkd hl => ?_⟩
  have hl1 : o.left = 1 := by omega
  refine (ih o S k' rest ho (by omega) ?_ ?_ ?_).trans ?_
  ·cases u <;> exact ⟨rfl, rfl, rfl⟩
  ·cases u
   ·have : nameB (tkA T i).text = true := by simp only [hdOk, nmT] at hh; simp at hh; exact hh.2
    simp [labB, hkd, hdE, this]
   simp [labB, hkd, hdE, ex0]
  ·cases u
   ·simp [tagB, hdE, ex0]
   have := hT i
   simp [tagB, hkd, hdE, ex0]; omega
  rw [hl1]; rfl
 | @more deep i u k N M j n e hk hh hc hN hm hR ih1 ih2 =>
  obtain ⟨q1, q2, q3⟩ := ih2
  refine ⟨by omega, q2, fun o S k' rest ho hkd hl => ?_⟩
  rw [List.append_assoc]
  refine (ih1 o S k' _ ho (by omega) ?_ ?_ ?_).trans ?_
  ·cases u <;> exact ⟨rfl, rfl, rfl⟩
  ·cases u
   ·have : nameB (tkA T i).text = true := by simp only [hdOk, nmT] at hh; simp at hh; exact hh.2
    simp [labB, hkd, hdE, this]
   simp [labB, hkd, hdE, ex0]
  ·cases u
   ·simp [tagB, hdE, ex0]
   have := hT i
   simp [tagB, hkd, hdE, ex0]; omega
  refine (q3 { o with left := o.left - 1 } S _ rest ho hkd (by show o.left - 1 = _; omega)).trans ?_
  exact pop_idx (by rw [List.length_append]; omega)
theorem rightB_pl {T : List Tk} {x : Ex} {a : Int} : rightB (plE T x) a = rightB x a := by unfold plE; split <;> rfl
theorem manyB_pl {T : List Tk} {x : Ex} : manyB (plE T x) = manyB x := by unfold plE; split <;> rfl
theorem kind_pl {T : List Tk} {x : Ex} : (plE T x).kind = x.kind := by unfold plE; split <;> rfl
theorem kids_pl {T : List Tk} {x : Ex} : (plE T x).kids = x.kids := by unfold plE; split <;> rfl
theorem name_pl {T : List Tk} {x : Ex} : (plE T x).name = x.name := by unfold plE; split <;> rfl
theorem label_pl {T : List Tk} {x : Ex} : (plE T x).label = x.label := by unfold plE; split <;> rfl
theorem chkE_pl {T : List Tk} : ∀ (N : List Ex) (S : List Opn) (k : Nat), chkE S k (N.map (plE T)) = chkE S k N
 | [], S, k => rfl
 | x :: xs, S, k => by
  rw [List.map_cons, chkE_cons, chkE_cons]
  cases popZ S with
  | nil => rfl
  | cons o S' => simp only [rightB_pl, manyB_pl, kind_pl, kids_pl, chkE_pl xs]
theorem px_chkT {T : List Tk} (hT : ∀ i, (tkA T i).n ≤ 2147483647) {i j : Nat} {N : List Ex} (h : PX T none 0 i exM N 0 j) : chkT (N.map (plE T)) = (0, 0) := by
 have := px_chk hT h ⟨0, 1, 0⟩ [] 0 [] rfl (by decide) ⟨rfl, rfl, rfl⟩ rfl rfl
 rw [List.append_nil] at this
 rw [chkT, chkE_pl, this]
 rfl
inductive PD (T : List Tk) : Nat → Nat → List Df → Prop
 | nil {i k : Nat} (h : T.length ≤ i) (hk : k ≤ 256) : PD T i k []
 | cons {i k j : Nat} {N : List Ex} {D : List Df} (hk : k < 256) (h0 : isT (tkA T i) 1 [116, 121, 112, 101] = true) (h1 : nmT (tkA T (i + 1)) = true) (h2 : isT (tkA T (i + 2)) 3 [61] = true) (hN : PX T none 0 (i + 3) exM N 0 j) (h3 : isT (tkA T j) 3 [59] = true) (hD : PD T (j + 1) (k + 1) D) : PD T i k (⟨(tkA T (i + 1)).text, ((i + 1 : Nat) : Int), N⟩ :: D)
theorem defs_pd {T : List Tk} : ∀ (g i k : Nat) (D : List Df) (e : Nat), k ≤ 256 → defsT T g i k = .ok D e → PD T i k D
 | 0, i, k, D, e, hk, h => by cases h
 | g + 1, i, k, D, e, hk, h => by
  rw [defsT_s] at h
  split at h
  ·rename_i hi; cases h; exact .nil hi hk
  split at h
  ·cases h
  rename_i hi hnm
  obtain ⟨_, i1, h1, h⟩ := bind_ok h
  obtain ⟨g1, rfl⟩ := wantT_ok h1
  obtain ⟨s, i2, h2, h⟩ := bind_ok h
  obtain ⟨g2, rfl, rfl⟩ := nameT_ok h2
  obtain ⟨_, i3, h3, h⟩ := bind_ok h
  obtain ⟨g3, rfl⟩ := wantT_ok h3
  obtain ⟨N, j, h4, h⟩ := bind_ok h
  obtain ⟨_, i5, h5, h⟩ := bind_ok h
  obtain ⟨g5, rfl⟩ := wantT_ok h5
  obtain ⟨D', e', h6, h⟩ := bind_ok h
  cases h
  have hk2 : k < 256 := by
   rcases Nat.lt_or_ge k 256 with h7 | h7
   ·exact h7
   exact absurd ⟨by omega, g1⟩ hnm
  exact .cons hk2 g1 g2 g3 (expr_px _ _ _ _ _ _ h4) g5 (defs_pd g _ _ _ _ (by omega) h6)
theorem pd_chk {T : List Tk} (hT : ∀ i, (tkA T i).n ≤ 2147483647) {i k : Nat} {D : List Df} (h : PD T i k D) : (∀ m, chkA m (D.map (plD T)) = (0, 0, 0)) ∧ k + D.length ≤ 256 := by
 induction h with
 | nil h hk => exact ⟨fun m => rfl, hk⟩
 | @cons i k j N D hk h0 h1 h2 hN h3 hD ih =>
  refine ⟨fun m => ?_, by rw [List.length_cons]; omega⟩
  rw [List.map_cons, chkA_cons, if_neg ?_, if_pos ?_, ih.1]
  ·show (chkT (N.map (plE T))).2 = 0
   rw [px_chkT hT hN]
  show ¬ nameB (tkA T (i + 1)).text = false
  simp only [nmT, Bool.and_eq_true] at h1
  simp [h1.2]
theorem cut_small (xs : List UInt8) (i : Nat) : (tkA (cutA xs).1 i).n ≤ 2147483647 := by
 by_cases h : i < (cutA xs).1.length
 ·exact (cut_in h).small
 rw [tkA_ge (by omega)]; exact Nat.zero_le _


def Rise (lo : Int) : List Ex → Int → Prop
 | [], hi => lo ≤ hi
 | y :: l, hi => lo ≤ y.at_ ∧ Rise (y.at_ + 1) l hi
theorem Rise.app : ∀ {L M : List Ex} {a b c : Int}, Rise a L b → Rise b M c → Rise a (L ++ M) c
 | [], M, a, b, c, h1, h2 => by
  show Rise a M c
  cases M with
  | nil => exact Int.le_trans h1 h2
  | cons y l => exact ⟨Int.le_trans h1 h2.1, h2.2⟩
 | y :: l, M, a, b, c, h1, h2 => ⟨h1.1, h1.2.app h2⟩
theorem Rise.lo {L : List Ex} {a a' b : Int} (h : Rise a L b) (ha : a' ≤ a) : Rise a' L b := by
 cases L with
 | nil => exact Int.le_trans ha h
 | cons y l => exact ⟨Int.le_trans ha h.1, h.2⟩
theorem Rise.hi {L : List Ex} : ∀ {a b b' : Int}, Rise a L b → b ≤ b' → Rise a L b' := by
 induction L with
 | nil => intro a b b' h hb; exact Int.le_trans h hb
 | cons y l ih => intro a b b' h hb; exact ⟨h.1, ih h.2 hb⟩
def NdOk (T : List Tk) (y : Ex) : Prop := 0 ≤ y.at_ ∧ (y.label ≠ [] → (tkA T y.at_.toNat).text = y.label) ∧ (y.label = [] → y.kind = 9 → (tkA T y.at_.toNat).kind = 1 → (tkA T y.at_.toNat).text = y.name)
def RiM (T : List Tk) (r : Option (Bool × Nat)) (i : Nat) (x : Ex) (N : List Ex) (j : Nat) : Prop := i < j ∧ j ≤ T.length ∧ match r with
 | none => ((x.at_ < 0 ∧ x.label = []) ∨ (0 ≤ x.at_ ∧ x.at_ < i ∧ (x.label ≠ [] → (tkA T x.at_.toNat).text = x.label) ∧ (x.label = [] → ¬ (tkA T x.at_.toNat).kind = 1))) → Rise (if x.at_ < 0 then i else x.at_) N j ∧ ∀ y ∈ N, NdOk T y
 | some (u, q) => Rise i N j ∧ ∀ y ∈ N, NdOk T y
theorem atE_at {i : Nat} {x : Ex} : (atE i x).at_ = if x.at_ < 0 then (i : Int) else x.at_ := by unfold atE; split <;> rfl
theorem atE_label {i : Nat} {x : Ex} : (atE i x).label = x.label := by unfold atE; split <;> rfl
theorem nd_at {T : List Tk} {i : Nat} {x y : Ex} (hx : (x.at_ < 0 ∧ x.label = []) ∨ (0 ≤ x.at_ ∧ x.at_ < i ∧ (x.label ≠ [] → (tkA T x.at_.toNat).text = x.label) ∧ (x.label = [] → ¬ (tkA T x.at_.toNat).kind = 1))) (ha : y.at_ = (atE i x).at_) (hl : y.label = x.label) (hk : y.kind = 9 → (tkA T i).text = y.name) :
  (if x.at_ < 0 then (i : Int) else x.at_) = y.at_ ∧ y.at_ ≤ (i : Int) ∧ NdOk T y := by
 rw [atE_at] at ha
 rcases hx with ⟨h1, h2⟩ | ⟨h1, h2, h3, h4⟩
 ·rw [if_pos h1] at ha ⊢
  refine ⟨ha.symm, by omega, by omega, fun h => absurd (hl.trans h2) h, fun _ h5 _ => ?_⟩
  rw [ha]; exact hk h5
 rw [if_neg (by omega)] at ha ⊢
 refine ⟨ha.symm, by omega, by omega, fun h => ?_, fun h5 _ h7 => ?_⟩
 ·rw [ha, hl]; exact h3 (by rw [← hl]; exact h)
 rw [ha] at h7; exact absurd h7 (h4 (by rw [← hl]; exact h5))
theorem nm_ne {s : List UInt8} (h : nameB s = true) : s ≠ [] := fun he => by rw [he] at h; cases h
theorem px_rise {T : List Tk} {r : Option (Bool × Nat)} {deep i : Nat} {x : Ex} {N : List Ex} {n j : Nat} (h : PX T r deep i x N n j) : RiM T r i x N j := by
 have hbT : ∀ {i}, bgnT (tkA T i) = true → i < T.length := fun hb => tkA_kind (by decide) (bgn_kind hb)
 have hd0 : ∀ {u i}, hdOk T u i → i < T.length ∧ ((hdE T u i).at_ = (i : Int) ∧ ((hdE T u i).label ≠ [] → (tkA T i).text = (hdE T u i).label) ∧ ((hdE T u i).label = [] → ¬ (tkA T i).kind = 1)) := by
  intro u i hh
  cases u
  ·have hh' : nmT (tkA T i) = true := hh
   simp only [nmT, Bool.and_eq_true, decide_eq_true_eq] at hh'
   exact ⟨tkA_kind (by decide) hh'.1, rfl, fun _ => rfl, fun hl => absurd hl (nm_ne hh'.2)⟩
  have hh' : (tkA T i).kind = 2 := hh
  exact ⟨tkA_kind (by decide) hh', rfl, fun hl => absurd rfl hl, fun _ => by omega⟩
 induction h with
 | @leaf deep i x kn hb hd hl =>
  refine ⟨by omega, hbT hb, fun hx => ?_⟩
  have hk := leafE_ok hl
  obtain ⟨h1, h2, h3⟩ := nd_at (y := (atE i x).lf kn.1 kn.2) hx rfl atE_label (fun h => by rcases hk with rfl | rfl | rfl | rfl | rfl | rfl <;> cases h)
  refine ⟨⟨by omega, by show _ + 1 ≤ _; omega⟩, fun y hy => ?_⟩
  rw [List.mem_singleton] at hy; rw [hy]; exact h3
 | @nm deep i x hb hd hl hv ho hu hs =>
  refine ⟨by omega, hbT hb, fun hx => ?_⟩
  obtain ⟨h1, h2, h3⟩ := nd_at (y := (atE i x).nm (tkA T i).text) hx rfl atE_label (fun h => rfl)
  refine ⟨⟨by omega, by show _ + 1 ≤ _; omega⟩, fun y hy => ?_⟩
  rw [List.mem_singleton] at hy; rw [hy]; exact h3
 | @vec deep i x N j hb hd hl hv h1 hN h2 h3 h4 ih =>
  obtain ⟨q1, q2, q3⟩ := ih
  refine ⟨by omega, isT_lt (by decide) h4, fun hx => ?_⟩
  obtain ⟨g1, g2, g3⟩ := nd_at (y := (atE i x).vec (decide ((tkA T i).text = [108, 105, 115, 116])) (tkA T (j + 1)).n) hx rfl atE_label (fun h => by simp only [Ex.vec] at h; split at h <;> cases h)
  obtain ⟨r1, r2⟩ := q3 (.inl ⟨by decide, rfl⟩)
  rw [if_pos (by decide)] at r1
  refine ⟨⟨by omega, (r1.lo (by omega)).hi (by omega)⟩, fun y hy => ?_⟩
  rcases List.mem_cons.1 hy with rfl | hy
  ·exact g3
  exact r2 y hy
 | @opt deep i x N j hb hd hl ho h1 hN h2 ih =>
  obtain ⟨q1, q2, q3⟩ := ih
  refine ⟨by omega, isT_lt (by decide) h2, fun hx => ?_⟩
  obtain ⟨g1, g2, g3⟩ := nd_at (y := (atE i x).opt) hx rfl atE_label (fun h => by cases h)
  obtain ⟨r1, r2⟩ := q3 (.inl ⟨by decide, rfl⟩)
  rw [if_pos (by decide)] at r1
  refine ⟨⟨by omega, (r1.lo (by omega)).hi (by omega)⟩, fun y hy => ?_⟩
  rcases List.mem_cons.1 hy with rfl | hy
  ·exact g3
  exact r2 y hy
 | @br deep i x u M n j hb hd hl hw h1 hM ih =>
  obtain ⟨q1, q2, r1, r2⟩ := ih
  refine ⟨by omega, q2, fun hx => ?_⟩
  obtain ⟨g1, g2, g3⟩ := nd_at (y := (atE i x).br u (n : Nat)) hx rfl atE_label (fun h => by cases u <;> cases h)
  refine ⟨⟨by omega, r1.lo (by omega)⟩, fun y hy => ?_⟩
  rcases List.mem_cons.1 hy with rfl | hy
  ·exact g3
  exact r2 y hy
 | @last deep i u k N j hk hh hc hN hm hr ih =>
  obtain ⟨q1, q2, q3⟩ := ih
  obtain ⟨p1, p2, p3, p4⟩ := hd0 hh
  obtain ⟨r1, r2⟩ := q3 (.inr ⟨by omega, by omega, fun h => by rw [p2]; exact p3 h, fun h => by rw [p2]; exact p4 h⟩)
  rw [if_neg (by omega), p2] at r1
  exact ⟨by omega, isT_lt (by decide) hr, r1.hi (by omega), r2⟩
 | @more deep i u k N M j n e hk hh hc hN hm hR ih1 ih2 =>
  obtain ⟨q1, q2, q3⟩ := ih1
  obtain ⟨s1, s2, s3, s4⟩ := ih2
  obtain ⟨p1, p2, p3, p4⟩ := hd0 hh
  obtain ⟨r1, r2⟩ := q3 (.inr ⟨by omega, by omega, fun h => by rw [p2]; exact p3 h, fun h => by rw [p2]; exact p4 h⟩)
  rw [if_neg (by omega), p2] at r1
  refine ⟨by omega, s2, (r1.hi (by omega)).app s3, fun y hy => ?_⟩
  rcases List.mem_append.1 hy with hy | hy
  ·exact r2 y hy
  exact s4 y hy
theorem expr_lt {T : List Tk} {f i : Nat} {x : Ex} {deep : Nat} {N : List Ex} {j : Nat} (h : exprT T f i x deep = .ok N j) : i < j ∧ j ≤ T.length := ⟨(px_rise (expr_px _ _ _ _ _ _ h)).1, (px_rise (expr_px _ _ _ _ _ _ h)).2.1⟩
def Bd (e : Nat) : Prop := e = 5 ∨ e = 60 ∨ e = 61
theorem wantT_le {T : List Tk} {i k j : Nat} {s : List UInt8} {a : Unit} (hk : 1 ≤ k) (h : wantT T i k s = .ok a j) : j = i + 1 ∧ i < T.length := ⟨(wantT_ok h).2, isT_lt hk (wantT_ok h).1⟩
theorem headT_bd {T : List Tk} {u full : Bool} {i j e : Nat} {x : Ex} (h : headT T u full i x = .bad e j) : Bd e ∧ j = i := by
 cases u
 ·rw [headT_s] at h
  split at h
  ·cases h; exact ⟨.inl rfl, rfl⟩
  rcases bind_bad h with h | ⟨_, _, _, h⟩
  ·obtain ⟨rfl, rfl, -⟩ := nameT_bad h; exact ⟨.inr (.inl rfl), rfl⟩
  cases h
 rw [headT_u] at h
 split at h
 ·cases h; exact ⟨.inl rfl, rfl⟩
 rcases bind_bad h with h | ⟨_, _, _, h⟩
 ·obtain ⟨rfl, rfl, -⟩ := numT_bad h; exact ⟨.inr (.inl rfl), rfl⟩
 cases h
theorem headT_le {T : List Tk} {u full : Bool} {i j : Nat} {y : Ex} (h : headT T u full i { ex0 with at_ := i } = .ok y j) : j = i + 1 ∧ i < T.length := by
 obtain ⟨hh, -, rfl, -⟩ := headT_ok h
 refine ⟨rfl, ?_⟩
 cases u
 ·have hh' : nmT (tkA T i) = true := hh
  simp only [nmT, Bool.and_eq_true, decide_eq_true_eq] at hh'
  exact tkA_kind (by decide) hh'.1
 exact tkA_kind (k := 2) (by decide) hh
theorem rows_bad {T : List Tk} {E : Nat → Ex → Pr (List Ex)} {u : Bool} {i0 : Nat} (hE : ∀ i x e j, i0 ≤ i → i ≤ T.length → E i x = .bad e j → Bd e ∧ i ≤ j ∧ j ≤ T.length) (hEo : ∀ i x N j, E i x = .ok N j → i < j ∧ j ≤ T.length) :
  ∀ (g i k e j : Nat), i0 ≤ i → i ≤ T.length → T.length + 2 ≤ g + i → rowsT E T u g i k = .bad e j → Bd e ∧ i ≤ j ∧ j ≤ T.length
 | 0, i, k, e, j, h0, hi, hg, h => by omega
 | g + 1, i, k, e, j, h0, hi, hg, h => by
  rw [rowsT_s] at h
  rcases bind_bad h with h | ⟨y, i1, h1, h⟩
  ·obtain ⟨g1, rfl⟩ := headT_bd h; exact ⟨g1, Nat.le_refl _, hi⟩
  obtain ⟨rfl, hi1⟩ := headT_le h1
  rcases bind_bad h with h | ⟨_, i2, h2, h⟩
  ·obtain ⟨rfl, rfl, -⟩ := wantT_bad h; exact ⟨.inr (.inl rfl), by omega, by omega⟩
  obtain ⟨rfl, hi2⟩ := wantT_le (by decide) h2
  rcases bind_bad h with h | ⟨N, i3, h3, h⟩
  ·obtain ⟨a1, a2, a3⟩ := hE _ _ _ _ (by omega) (by omega) h; exact ⟨a1, by omega, a3⟩
  obtain ⟨b1, b2⟩ := hEo _ _ _ _ h3
  split at h
  ·rename_i hm
   have hm2 := isT_lt (by decide) hm
   rcases bind_bad h with h | ⟨r, i4, h4, h⟩
   ·obtain ⟨a1, a2, a3⟩ := rows_bad hE hEo g (i3 + 1) (k + 1) e j (by omega) (by omega) (by omega) h
    exact ⟨a1, by omega, a3⟩
   cases h
  rcases bind_bad h with h | ⟨r, i4, h4, h⟩
  ·obtain ⟨rfl, rfl, -⟩ := wantT_bad h; exact ⟨.inr (.inl rfl), by omega, by omega⟩
  cases h
theorem expr_bad {T : List Tk} : ∀ (f i : Nat) (x : Ex) (deep e j : Nat), i ≤ T.length → T.length + 2 ≤ f + i → exprT T f i x deep = .bad e j → Bd e ∧ i ≤ j ∧ j ≤ T.length
 | 0, i, x, deep, e, j, hi, hf, h => by omega
 | f + 1, i, x, deep, e, j, hi, hf, h => by
  rw [exprT_s] at h
  split at h
  ·cases h; exact ⟨.inr (.inl rfl), Nat.le_refl _, hi⟩
  rename_i hb
  have hil : i < T.length := tkA_kind (by decide) (bgn_kind (by simpa using hb))
  split at h
  ·cases h; exact ⟨.inr (.inr rfl), Nat.le_refl _, hi⟩
  split at h
  ·cases h
  split at h
  ·rcases bind_bad h with h | ⟨_, i1, h1, h⟩
   ·obtain ⟨rfl, rfl, -⟩ := wantT_bad h; exact ⟨.inr (.inl rfl), by omega, by omega⟩
   obtain ⟨rfl, hi1⟩ := wantT_le (by decide) h1
   rcases bind_bad h with h | ⟨N, i2, h2, h⟩
   ·obtain ⟨a1, a2, a3⟩ := expr_bad f _ _ _ _ _ (by omega) (by omega) h; exact ⟨a1, by omega, a3⟩
   obtain ⟨b1, b2⟩ := expr_lt h2
   rcases bind_bad h with h | ⟨_, i3, h3, h⟩
   ·obtain ⟨rfl, rfl, -⟩ := wantT_bad h; exact ⟨.inr (.inl rfl), by omega, by omega⟩
   obtain ⟨rfl, hi3⟩ := wantT_le (by decide) h3
   rcases bind_bad h with h | ⟨n, i4, h4, h⟩
   ·obtain ⟨rfl, rfl, -⟩ := numT_bad h; exact ⟨.inr (.inl rfl), by omega, by omega⟩
   obtain ⟨g4, -, rfl⟩ := numT_ok h4
   have hi4 := tkA_kind (by decide) g4
   rcases bind_bad h with h | ⟨_, i5, h5, h⟩
   ·obtain ⟨rfl, rfl, -⟩ := wantT_bad h; exact ⟨.inr (.inl rfl), by omega, by omega⟩
   cases h
  split at h
  ·rcases bind_bad h with h | ⟨_, i1, h1, h⟩
   ·obtain ⟨rfl, rfl, -⟩ := wantT_bad h; exact ⟨.inr (.inl rfl), by omega, by omega⟩
   obtain ⟨rfl, hi1⟩ := wantT_le (by decide) h1
   rcases bind_bad h with h | ⟨N, i2, h2, h⟩
   ·obtain ⟨a1, a2, a3⟩ := expr_bad f _ _ _ _ _ (by omega) (by omega) h; exact ⟨a1, by omega, a3⟩
   obtain ⟨b1, b2⟩ := expr_lt h2
   rcases bind_bad h with h | ⟨_, i3, h3, h⟩
   ·obtain ⟨rfl, rfl, -⟩ := wantT_bad h; exact ⟨.inr (.inl rfl), by omega, by omega⟩
   cases h
  have hrow : ∀ (u : Bool), (((wantT T (i + 1) 3 [123]).bind fun _ j => rowsT (fun i x => exprT T f i x (deep + 1)) T u f j 0).bind fun r j => (.ok ((atE i x).br u (r.2 : Nat) :: r.1) j : Pr (List Ex))) = .bad e j → Bd e ∧ i ≤ j ∧ j ≤ T.length := by
   intro u h
   rcases bind_bad h with h | ⟨_, _, _, h⟩
   ·rcases bind_bad h with h | ⟨_, i1, h1, h⟩
    ·obtain ⟨rfl, rfl, -⟩ := wantT_bad h; exact ⟨.inr (.inl rfl), by omega, by omega⟩
    obtain ⟨rfl, hi1⟩ := wantT_le (by decide) h1
    obtain ⟨a1, a2, a3⟩ := rows_bad (i0 := i + 1 + 1) (fun i x e j h0 hi hh => expr_bad f i x _ e j hi (by omega) hh) (fun i x N j hh => expr_lt hh) f _ _ _ _ (Nat.le_refl _) (by omega) (by omega) h
    exact ⟨a1, by omega, a3⟩
   cases h
  split at h
  ·exact hrow true h
  split at h
  ·exact hrow false h
  cases h
theorem defs_bad {T : List Tk} : ∀ (g i k e j : Nat), i ≤ T.length → T.length + 2 ≤ g + i → defsT T g i k = .bad e j → Bd e ∧ i ≤ j ∧ j ≤ T.length
 | 0, i, k, e, j, hi, hg, h => by omega
 | g + 1, i, k, e, j, hi, hg, h => by
  rw [defsT_s] at h
  split at h
  ·cases h
  rename_i hil
  split at h
  ·cases h; exact ⟨.inl rfl, Nat.le_refl _, hi⟩
  rcases bind_bad h with h | ⟨_, i1, h1, h⟩
  ·obtain ⟨rfl, rfl, -⟩ := wantT_bad h; exact ⟨.inr (.inl rfl), by omega, by omega⟩
  obtain ⟨rfl, hi1⟩ := wantT_le (by decide) h1
  rcases bind_bad h with h | ⟨s, i2, h2, h⟩
  ·obtain ⟨rfl, rfl, -⟩ := nameT_bad h; exact ⟨.inr (.inl rfl), by omega, by omega⟩
  obtain ⟨g2, -, rfl⟩ := nameT_ok h2
  have hi2 : i + 1 < T.length := by simp only [nmT, Bool.and_eq_true, decide_eq_true_eq] at g2; exact tkA_kind (by decide) g2.1
  rcases bind_bad h with h | ⟨_, i3, h3, h⟩
  ·obtain ⟨rfl, rfl, -⟩ := wantT_bad h; exact ⟨.inr (.inl rfl), by omega, by omega⟩
  obtain ⟨rfl, hi3⟩ := wantT_le (by decide) h3
  rcases bind_bad h with h | ⟨N, i4, h4, h⟩
  ·obtain ⟨a1, a2, a3⟩ := expr_bad _ _ _ _ _ _ (by omega) (by omega) h; exact ⟨a1, by omega, a3⟩
  obtain ⟨b1, b2⟩ := expr_lt h4
  rcases bind_bad h with h | ⟨_, i5, h5, h⟩
  ·obtain ⟨rfl, rfl, -⟩ := wantT_bad h; exact ⟨.inr (.inl rfl), by omega, by omega⟩
  obtain ⟨rfl, hi5⟩ := wantT_le (by decide) h5
  rcases bind_bad h with h | ⟨D, i6, h6, h⟩
  ·obtain ⟨a1, a2, a3⟩ := defs_bad g _ _ _ _ (by omega) (by omega) h; exact ⟨a1, by omega, a3⟩
  cases h


theorem parse_cases (xs : List UInt8) : ((parseA xs).2.1 ≠ 0 ∧ (parseA xs).1 = []) ∨ ((cutA xs).2 = (0, 0) ∧ ∃ D, PD (cutA xs).1 0 0 D ∧ parseA xs = (D.map (plD (cutA xs).1), 0, 0)) := by
 by_cases h0 : (parseA xs).2.1 = 0
 ·right
  unfold parseA at h0 ⊢
  split at h0
  ·rename_i h1
   split at h0
   ·rename_i D j h2
    rw [if_pos h1]
    refine ⟨Prod.ext h1 (cutA_ok h1), D, defs_pd _ _ _ _ _ (by omega) h2, ?_⟩
    first | rfl | rw [h2]
   rename_i e i h2
   have := (defs_bad _ _ _ _ _ (Nat.zero_le _) (by omega) h2).1; rcases this with rfl | rfl | rfl <;> cases h0
  rename_i h1; exact absurd h0 h1
 exact .inl ⟨h0, parseA_bad h0⟩

end Go.Proofs.Ytpbflfgigfdohaa

namespace Go.Proofs.Ytpbflfgigfdohaa
open Go Go.Vc Go.RowKit Go.Proofs

theorem tyD_at {D : List Df} {k : Nat} (hk : k < D.length) : tyD D k = D[k].ty := by simp [tyD, List.getD_eq_getElem?_getD, hk]
theorem getD_at {D : List Df} {k : Nat} (hk : k < D.length) : D.getD k df0 = D[k] := by simp [List.getD_eq_getElem?_getD, hk]
theorem DefR.atk {w : World} {D : List Df} {dv : Value} {V : Nat → Value} (h : DefR w D dv V) {k : Nat} (hk : k < D.length) : ∃ b o c, dv = .slice (some ⟨b, o, none⟩) D.length c ∧ Cells w b (o + k * 3) (dcell D[k] (V k)) ∧ Sl w 7 (V k) D[k].ty.length (exs D[k].ty) := by
 obtain ⟨b, o, c, h1, h2⟩ := h.at hk
 have h3 := h.tys k hk
 rw [getD_at hk] at h2
 rw [tyD_at hk] at h3
 exact ⟨b, o, c, h1, h2, h3⟩

end Go.Proofs.Ytpbflfgigfdohaa

namespace Go.Proofs.Ytpbflfgigfdohaa
open Go Go.Vc Go.RowKit Go.Proofs

/-- sizes that a machine can hold -/
structure DOk (D : List Df) : Prop where
 len : D.length * 48 ≤ 140737488351232
 ty : ∀ d ∈ D, d.ty.length * 72 ≤ 140737488351232
 nm : ∀ d ∈ D, d.name.length ≤ 9223372036854775807
 ex : ∀ d ∈ D, ∀ x ∈ d.ty, x.name.length ≤ 9223372036854775807 ∧ x.label.length ≤ 9223372036854775807
theorem DOk.lim {D : List Df} (h : DOk D) : DLim D := fun d hd => ⟨h.nm d hd, by have := h.ty d hd; omega, h.ex d hd⟩
end Go.Proofs.Ytpbflfgigfdohaa

namespace Go.Proofs.Ytpbflfgigfdohaa
open Go Go.Vc Go.RowKit Go.Proofs

theorem size_list {s : ByteArray} (h : s.size ≤ maxLen) : s.data.toList.length ≤ 9223372036854775807 := by
 rw [maxLen_eq] at h; simpa using h
section
variable {H : Type} {enc : TypeId × Value → H} {W : World} {held : Bool}
end
end Go.Proofs.Ytpbflfgigfdohaa

namespace Go.Proofs.Ytpbflfgigfdohaa
open Go Go.Vc Go.RowKit Go.Proofs

/-- lengths -/
theorem Rise.len {L : List Ex} : ∀ {a b : Int}, Rise a L b → (L.length : Int) ≤ b - a := by
 induction L with
 | nil => intro a b h; have : a ≤ b := h; simp; omega
 | cons y l ih => intro a b h; have h1 := ih h.2; have h2 := h.1; rw [List.length_cons]; omega
theorem px_lim {T : List Tk} {B : Nat} (hT : ∀ i, (tkA T i).text.length ≤ B) {r : Option (Bool × Nat)} {deep i : Nat} {x : Ex} {N : List Ex} {n j : Nat} (h : PX T r deep i x N n j) : x.name.length ≤ B → x.label.length ≤ B → ∀ y ∈ N, y.name.length ≤ B ∧ y.label.length ≤ B := by
 have ha : ∀ {i x}, (atE i x).name = x.name ∧ (atE i x).label = x.label := fun {i x} => by unfold atE; split <;> exact ⟨rfl, rfl⟩
 have hh : ∀ {u i}, (hdE T u i).name.length ≤ B ∧ (hdE T u i).label.length ≤ B := fun {u i} => by
  cases u
  ·exact ⟨Nat.zero_le _, hT i⟩
  exact ⟨Nat.zero_le _, Nat.zero_le _⟩
 induction h with
 | leaf => intro h1 h2 y hy; rw [List.mem_singleton] at hy; subst hy; exact ⟨by show (atE _ _).name.length ≤ B; rw [ha.1]; exact h1, by show (atE _ _).label.length ≤ B; rw [ha.2]; exact h2⟩
 | nm => intro h1 h2 y hy; rw [List.mem_singleton] at hy; subst hy; exact ⟨hT _, by show (atE _ _).label.length ≤ B; rw [ha.2]; exact h2⟩
 | vec hb hd hl hv h1 hN h2 h3 h4 ih =>
  intro g1 g2 y hy
  rcases List.mem_cons.1 hy with rfl | hy
  ·exact ⟨by show (atE _ _).name.length ≤ B; rw [ha.1]; exact g1, by show (atE _ _).label.length ≤ B; rw [ha.2]; exact g2⟩
  exact ih (Nat.zero_le _) (Nat.zero_le _) y hy
 | opt hb hd hl ho h1 hN h2 ih =>
  intro g1 g2 y hy
  rcases List.mem_cons.1 hy with rfl | hy
  ·exact ⟨by show (atE _ _).name.length ≤ B; rw [ha.1]; exact g1, by show (atE _ _).label.length ≤ B; rw [ha.2]; exact g2⟩
  exact ih (Nat.zero_le _) (Nat.zero_le _) y hy
 | br u hb hd hl hw h1 hM ih =>
  intro g1 g2 y hy
  rcases List.mem_cons.1 hy with rfl | hy
  ·exact ⟨by show (atE _ _).name.length ≤ B; rw [ha.1]; exact g1, by show (atE _ _).label.length ≤ B; rw [ha.2]; exact g2⟩
  exact ih (Nat.zero_le _) (Nat.zero_le _) y hy
 | last hk hd hc hN hm hr ih => intro _ _; exact ih hh.1 hh.2
 | more hk hd hc hN hm hR ih1 ih2 =>
  intro _ _ y hy
  rcases List.mem_append.1 hy with hy | hy
  ·exact ih1 hh.1 hh.2 y hy
  exact ih2 (Nat.zero_le _) (Nat.zero_le _) y hy
theorem pd_lim {T : List Tk} {B : Nat} (hT : ∀ i, (tkA T i).text.length ≤ B) {i k : Nat} {D : List Df} (h : PD T i k D) : ∀ d ∈ D, d.name.length ≤ B ∧ d.ty.length ≤ T.length ∧ ∀ y ∈ d.ty, y.name.length ≤ B ∧ y.label.length ≤ B := by
 induction h with
 | nil => intro d hd; cases hd
 | @cons i k j N D hk h0 h1 h2 hN h3 hD ih =>
  intro d hd
  rcases List.mem_cons.1 hd with rfl | hd
  ·obtain ⟨q1, q2, q3⟩ := px_rise hN
   obtain ⟨r1, r2⟩ := q3 (.inl ⟨by decide, rfl⟩)
   rw [if_pos (by decide)] at r1
   have := r1.len
   exact ⟨hT _, by show N.length ≤ _; omega, px_lim hT hN (Nat.zero_le _) (Nat.zero_le _)⟩
  exact ih d hd
/-- what Parse answers is of a size that a machine can hold -/
theorem parse_ok (xs : List UInt8) : DOk (parseA xs).1 := by
 rcases parse_cases xs with ⟨-, h⟩ | ⟨-, D, hp, h⟩
 ·rw [h]
  exact ⟨by decide, fun d hd => (by cases hd), fun d hd => (by cases hd), fun d hd => (by cases hd)⟩
 have hc := cutA_len xs
 have hT : ∀ i, (tkA (cutA xs).1 i).text.length ≤ 65536 := fun i => by
  by_cases hi : i < (cutA xs).1.length
  ·rw [tkA_lt hi]; exact hc.2 _ (List.getElem_mem hi)
  rw [tkA_ge (by omega)]; exact Nat.zero_le _
 have hl := pd_lim hT hp
 have hn := (pd_chk (cut_small xs) hp).2
 rw [h]
 refine ⟨by rw [List.length_map]; omega, ?_, ?_, ?_⟩
 ·intro d hd
  obtain ⟨d0, h0, rfl⟩ := List.mem_map.1 hd
  have := (hl d0 h0).2.1
  show (d0.ty.map _).length * 72 ≤ _
  rw [List.length_map]; omega
 ·intro d hd
  obtain ⟨d0, h0, rfl⟩ := List.mem_map.1 hd
  have := (hl d0 h0).1
  show d0.name.length ≤ _
  omega
 intro d hd x hx
 obtain ⟨d0, h0, rfl⟩ := List.mem_map.1 hd
 obtain ⟨x0, hx0, rfl⟩ := List.mem_map.1 (show x ∈ d0.ty.map _ from hx)
 have := (hl d0 h0).2.2 x0 hx0
 rw [name_pl, label_pl]
 omega
end Go.Proofs.Ytpbflfgigfdohaa

namespace Go.Proofs.Ytpbflfgigfdohaa
open Go Go.Vc Go.RowKit Go.Proofs

def bareE (x : Ex) : Ex := { x with at_ := 0 }
def bareD (d : Df) : Df := ⟨d.name, 0, d.ty.map bareE⟩
end Go.Proofs.Ytpbflfgigfdohaa

namespace Go.Proofs.Ytpbflfgigfdohaa
open Go Go.Vc Go.RowKit Go.Proofs

mutual
inductive Tr where
 | node (y : Ex) (ks : Trs)
inductive Trs where
 | nil
 | cons (t : Tr) (ts : Trs)
end
def Tr.top : Tr → Ex
 | .node y _ => y
def Trs.len : Trs → Nat
 | .nil => 0
 | .cons _ ts => ts.len + 1
mutual
def Tr.flat : Tr → List Ex
 | .node y ks => y :: ks.flat
def Trs.flat : Trs → List Ex
 | .nil => []
 | .cons t ts => t.flat ++ ts.flat
end
mutual
def Tr.wf (above : Int) (deep : Nat) : Tr → Prop
 | .node y ks => deep ≤ 16 ∧ manyB y = false ∧ rightB y above = true ∧ (ks.len : Int) = y.kids ∧ ks.wf y.kind (deep + 1)
def Trs.wf (above : Int) (deep : Nat) : Trs → Prop
 | .nil => True
 | .cons t ts => t.wf above deep ∧ ts.wf above deep
end
theorem chk_tr : ∀ (n : Nat) (L : List Ex), L.length ≤ n → ∀ (o : Opn) (S : List Opn) (k deep : Nat), 0 < o.left → o.deep = (deep : Int) → (chkE (o :: S) k L).2 = 0 →
  ∃ t rest, L = Tr.flat t ++ rest ∧ t.wf o.kind deep ∧ (chkE ({ o with left := o.left - 1 } :: S) (k + (Tr.flat t).length) rest).2 = 0 := by
 intro n
 induction n with
 | zero =>
  intro L hL o S k deep hl hd h
  have : L = [] := List.eq_nil_of_length_eq_zero (by omega)
  subst this
  rw [chkE_nil, if_pos (by simp [leftB, hl])] at h
  cases h
 | succ n ih =>
  intro L hL o S k deep hl hd h
  cases L with
  | nil =>
   rw [chkE_nil, if_pos (by simp [leftB, hl])] at h
   cases h
  | cons x xs =>
   rw [chkE_o (popZ_n (by omega))] at h
   by_cases h16 : 16 < o.deep
   ·rw [if_pos h16] at h; cases h
   rw [if_neg h16] at h
   by_cases hm : manyB x = true
   ·rw [if_pos hm] at h; cases h
   rw [if_neg hm] at h
   by_cases hr : rightB x o.kind = false
   ·rw [if_pos hr] at h; cases h
   rw [if_neg hr] at h
   have hm : manyB x = false := by simpa using hm
   have hr : rightB x o.kind = true := by simpa using hr
   obtain ⟨hk0, hk1⟩ := rightB_kids hr hm
   -- the kids
   have many : ∀ (m : Nat) (M : List Ex), M.length ≤ n → ∀ (o2 : Opn) (S2 : List Opn) (k2 : Nat), o2.left = (m : Int) → o2.deep = ((deep + 1 : Nat) : Int) → (chkE (o2 :: S2) k2 M).2 = 0 →
     ∃ ts rest, M = Trs.flat ts ++ rest ∧ ts.wf o2.kind (deep + 1) ∧ ts.len = m ∧ (chkE ({ o2 with left := 0 } :: S2) (k2 + (Trs.flat ts).length) rest).2 = 0 := by
    intro m
    induction m with
    | zero =>
     intro M hM o2 S2 k2 h1 h2 h3
     refine ⟨.nil, M, rfl, trivial, rfl, ?_⟩
     have : ({ o2 with left := 0 } : Opn) = o2 := by obtain ⟨a, b, c⟩ := o2; simp only at h1; simp [h1]
     rw [this]; exact h3
    | succ m ihm =>
     intro M hM o2 S2 k2 h1 h2 h3
     obtain ⟨t, rest, rfl, g2, g3⟩ := ih M hM o2 S2 k2 (deep + 1) (by omega) h2 h3
     have hlen : rest.length ≤ n := by rw [List.length_append] at hM; omega
     obtain ⟨ts, rest2, rfl, e2, e3, e4⟩ := ihm rest hlen { o2 with left := o2.left - 1 } S2 _ (by simp only; omega) h2 g3
     exact ⟨.cons t ts, rest2, by simp [Trs.flat], ⟨g2, e2⟩, by simp only [Trs.len, e3], by simp only [Trs.flat, List.length_append]; rw [← Nat.add_assoc]; exact e4⟩
   obtain ⟨ts, rest, rfl, e2, e3, e4⟩ := many x.kids.toNat xs (by simpa using hL) ⟨x.kind, x.kids, o.deep + 1⟩ _ _ (by simp only; omega) (by simp only; omega) h
   refine ⟨.node x ts, rest, by simp [Tr.flat], ⟨by omega, hm, hr, by omega, e2⟩, ?_⟩
   rw [chkE_pz0] at e4
   simp only [Tr.flat, List.length_cons]
   rw [show k + ((Trs.flat ts).length + 1) = k + 1 + (Trs.flat ts).length by omega]
   exact e4
/-- what Check takes is a tree -/
theorem chkT_tr {l : List Ex} (h : (chkT l).2 = 0) : ∃ t : Tr, l = t.flat ∧ t.wf 0 0 := by
 obtain ⟨t, rest, h1, h2, h3⟩ := chk_tr l.length l (Nat.le_refl _) ⟨0, 1, 0⟩ [] 0 0 (by decide) rfl h
 have hr : rest = [] := by
  cases rest with
  | nil => rfl
  | cons x xs =>
   rw [chkE_z (by simp [popZ])] at h3
   cases h3
 subst hr
 exact ⟨t, by rw [h1, List.append_nil], h2⟩
end Go.Proofs.Ytpbflfgigfdohaa

namespace Go.Proofs.Ytpbflfgigfdohaa
open Go Go.Vc Go.RowKit Go.Proofs

theorem okB_cases {x : Ex} (h : okB x = true) : (x.kind = 1 ∧ (x.n = 1 ∨ x.n = 2 ∨ x.n = 4 ∨ x.n = 8) ∧ x.kids = 0) ∨ ((x.kind = 2 ∨ x.kind = 3 ∨ x.kind = 9) ∧ x.n = 0 ∧ x.kids = 0) ∨ ((x.kind = 4 ∨ x.kind = 5) ∧ 0 ≤ x.n ∧ x.n ≤ 2147483647 ∧ x.kids = 1) ∨ (x.kind = 6 ∧ x.n = 0 ∧ x.kids = 1) ∨ ((x.kind = 7 ∨ x.kind = 8) ∧ x.n = 0 ∧ 1 ≤ x.kids) := by
 unfold okB at h
 repeat' split at h
 all_goals first | (cases h; done) | (simp only [Bool.and_eq_true, Bool.or_eq_true, decide_eq_true_eq] at h; omega)
theorem trs_one {ts : Trs} (h : ts.len = 1) : ∃ t, ts = .cons t .nil := by
 cases ts with
 | nil => cases h
 | cons t ts => cases ts with
  | nil => exact ⟨t, rfl⟩
  | cons t2 ts2 => simp only [Trs.len] at h; omega
theorem trs_nil {ts : Trs} (h : ts.len = 0) : ts = .nil := by
 cases ts with
 | nil => rfl
 | cons t ts => simp only [Trs.len] at h; omega
theorem rightB_iff {x : Ex} {a : Int} (h : rightB x a = true) : okB x = true ∧ namB x = true ∧ labB x a = true ∧ tagB x a = true := by
 simp only [rightB, Bool.and_eq_true] at h; exact ⟨h.1.1.1, h.1.1.2, h.1.2, h.2⟩
end Go.Proofs.Ytpbflfgigfdohaa

namespace Go.Proofs.Ytpbflfgigfdohaa
open Go Go.Vc Go.RowKit Go.Proofs

abbrev DefT := List UInt8 × Tr
def DefW (p : DefT) : Prop := nameB p.1 = true ∧ p.2.wf 0 0
theorem wf_top {t : Tr} {a : Int} {deep : Nat} (h : t.wf a deep) : rightB t.top a = true := by cases t; exact h.2.2.1
/-- what Check takes: names and trees -/
theorem chkA_trees : ∀ (D : List Df) (i : Nat), (chkA i D).2.2 = 0 → ∃ l : List DefT, (∀ p ∈ l, DefW p) ∧ D.map (fun d => (d.name, d.ty)) = l.map (fun p => (p.1, p.2.flat))
 | [], _, _ => ⟨[], fun p h => (by cases h), rfl⟩
 | d :: D, i, h => by
  rw [chkA_cons] at h
  by_cases h1 : nameB d.name = false
  ·rw [if_pos h1] at h; cases h
  rw [if_neg h1] at h
  by_cases h2 : (chkT d.ty).2 = 0
  ·rw [if_pos h2] at h
   obtain ⟨l, g1, g2⟩ := chkA_trees D (i + 1) h
   obtain ⟨t, t1, t2⟩ := chkT_tr h2
   refine ⟨(d.name, t) :: l, fun p hp => ?_, ?_⟩
   ·rcases List.mem_cons.1 hp with rfl | hp
    ·exact ⟨by simpa using h1, t2⟩
    exact g1 p hp
   rw [List.map_cons, List.map_cons, g2, t1]
  rw [if_neg h2] at h; exact absurd h h2
theorem chkS_trees {D : List Df} (h : (chkS D).2.2 = 0) : D.length ≤ 256 ∧ ∃ l : List DefT, (∀ p ∈ l, DefW p) ∧ D.map (fun d => (d.name, d.ty)) = l.map (fun p => (p.1, p.2.flat)) := by
 unfold chkS at h
 by_cases hl : 256 < D.length
 ·rw [if_pos hl] at h; cases h
 rw [if_neg hl] at h
 exact ⟨by omega, chkA_trees D 0 h⟩

end Go.Proofs.Ytpbflfgigfdohaa

namespace Go.Proofs.Ytpbflfgigfdohaa
open Go Go.Vc Go.RowKit Go.Proofs

section
open Relation
/-- one uses another -/
abbrev Us (U : Nat → List Nat) : Nat → Nat → Prop := fun i j => j ∈ U i
theorem countP_lt {p q : Nat → Bool} (h : ∀ x, p x = true → q x = true) : ∀ {l : List Nat} {y : Nat}, y ∈ l → q y = true → p y = false → l.countP p < l.countP q
 | [], y, hy, _, _ => by cases hy
 | a :: l, y, hy, hq, hp => by
  have hle : l.countP p ≤ l.countP q := List.countP_mono_left (fun x _ hx => h x hx)
  rw [List.countP_cons, List.countP_cons]
  rcases List.mem_cons.1 hy with rfl | hy
  ·rw [if_pos hq, if_neg (by rw [hp]; decide)]; omega
  have h1 := countP_lt h hy hq hp
  by_cases ha : p a = true
  ·rw [if_pos ha, if_pos (h a ha)]; omega
  rw [if_neg ha]; split <;> omega
open Classical in
noncomputable def reachN (n : Nat) (U : Nat → List Nat) (i : Nat) : Nat := (List.range n).countP (fun k => decide (TransGen (Us U) i k))
open Classical in
theorem reach_lt {n : Nat} {U : Nat → List Nat} {i j : Nat} (hj : j < n) (hu : j ∈ U i) (hac : ¬ TransGen (Us U) j j) : reachN n U j < reachN n U i := by
 unfold reachN
 refine countP_lt (fun x hx => ?_) (List.mem_range.2 hj) ?_ ?_
 ·exact decide_eq_true ((TransGen.single hu).trans (of_decide_eq_true hx))
 ·exact decide_eq_true (TransGen.single hu)
 exact decide_eq_false hac
/-- without a ring there is always one that uses told ones alone -/
theorem ready_one {n : Nat} {U : Nat → List Nat} (hU : ∀ i, i < n → ∀ j ∈ U i, j < n) (hac : ∀ i, i < n → ¬ TransGen (Us U) i i) {told : Nat → Prop} : ∀ (m i : Nat), reachN n U i ≤ m → i < n → ¬ told i → ∃ k, k < n ∧ ¬ told k ∧ ∀ j ∈ U k, told j
 | 0, i, hm, hi, ht => by
  refine ⟨i, hi, ht, fun j hj => ?_⟩
  have := reach_lt (hU i hi j hj) hj (hac j (hU i hi j hj))
  omega
 | m + 1, i, hm, hi, ht => by
  by_cases h : ∀ j ∈ U i, told j
  ·exact ⟨i, hi, ht, h⟩
  obtain ⟨j, hj⟩ := Classical.not_forall.1 h
  obtain ⟨hj, hn⟩ := Classical.not_imp.1 hj
  have := reach_lt (hU i hi j hj) hj (hac j (hU i hi j hj))
  exact ready_one hU hac m j (by omega) (hU i hi j hj) hn
/-- what has been seen is closed, and the target is used by none of it: then it is not led to -/
theorem closed_no {U : Nat → List Nat} {d : Nat} {S : Nat → Prop} (h0 : d ∉ U d ∧ ∀ v ∈ U d, S v) (hS : ∀ k, S k → d ∉ U k ∧ ∀ v ∈ U k, S v) : ¬ TransGen (Us U) d d := by
 have key : ∀ k, TransGen (Us U) d k → S k ∧ k ≠ d ∨ (S k ∧ k = d ∧ False) := by
  intro k hk
  induction hk with
  | single h => exact .inl ⟨h0.2 _ h, fun e => h0.1 (e ▸ h)⟩
  | tail _ h ih =>
   rcases ih with ⟨hs, -⟩ | ⟨-, -, hf⟩
   ·exact .inl ⟨(hS _ hs).2 _ h, fun e => (hS _ hs).1 (e ▸ h)⟩
   exact hf.elim
 intro h
 rcases key d h with ⟨-, h1⟩ | ⟨-, -, h1⟩
 ·exact h1 rfl
 exact h1
end
def whereN (D : List Df) (nm : List UInt8) : Option Nat := D.findIdx? (fun d => decide (d.name = nm))
def usesD (D : List Df) (i : Nat) : List Nat := ((tyD D i).filter (fun x => decide (x.kind = 9))).map (fun x => (whereN D x.name).getD 0)
theorem whereN_some {D : List Df} {nm : List UInt8} {i : Nat} (h : whereN D nm = some i) : ∃ hi : i < D.length, D[i].name = nm ∧ ∀ j (hj : j < i), ¬ (D[j]'(by omega)).name = nm := by
 obtain ⟨hi, h1, h2⟩ := List.findIdx?_eq_some_iff_getElem.1 h
 exact ⟨hi, by simpa using h1, fun j hj => by simpa using h2 j hj⟩
theorem whereN_none {D : List Df} {nm : List UInt8} (h : whereN D nm = none) : ∀ d ∈ D, ¬ d.name = nm := by
 intro d hd
 have := List.findIdx?_eq_none_iff.1 h d hd
 simpa using this
theorem uses_lt {D : List Df} (h : ∀ d ∈ D, ∀ x ∈ d.ty, x.kind = 9 → ∃ i, whereN D x.name = some i) {i : Nat} (hi : i < D.length) : ∀ j ∈ usesD D i, j < D.length := by
 intro j hj
 unfold usesD at hj
 obtain ⟨x, hx, rfl⟩ := List.mem_map.1 hj
 obtain ⟨hx1, hx2⟩ := List.mem_filter.1 hx
 rw [tyD_at hi] at hx1
 obtain ⟨k, hk⟩ := h _ (List.getElem_mem hi) x hx1 (of_decide_eq_true hx2)
 obtain ⟨hl, -⟩ := whereN_some hk
 rw [hk]; exact hl
def readyB (n : Nat) (U : Nat → List Nat) (out : List Nat) (i : Nat) : Bool := !out.contains i && (U i).all (fun k => out.contains k)
def nextO (n : Nat) (U : Nat → List Nat) (out : List Nat) : Option Nat := (List.range n).find? (readyB n U out)
/-- the order, grown step by step -/
def orderF (n : Nat) (U : Nat → List Nat) : Nat → List Nat → List Nat
 | 0, out => out
 | f + 1, out => match nextO n U out with
  | none => out
  | some i => orderF n U f (out ++ [i])

end Go.Proofs.Ytpbflfgigfdohaa

namespace Go.Proofs.Ytpbflfgigfdohaa
open Go Go.Vc Go.RowKit Go.Proofs

theorem all_in : ∀ (n : Nat) (l : List Nat), (∀ i, i < n → i ∈ l) → n ≤ l.length
 | 0, _, _ => Nat.zero_le _
 | n + 1, l, h => by
  have h1 := h n (Nat.lt_succ_self n)
  have h2 := all_in n (l.erase n) (fun i hi => (List.mem_erase_of_ne (by omega)).2 (h i (by omega)))
  rw [List.length_erase_of_mem h1] at h2
  have := List.length_pos_of_mem h1
  omega
theorem some_out {n : Nat} {l : List Nat} (h : l.length < n) : ∃ i, i < n ∧ i ∉ l := by
 apply Classical.byContradiction
 intro hn
 have := all_in n l (fun i hi => Classical.byContradiction fun hm => hn ⟨i, hi, hm⟩)
 omega
/-- a list of told ones: each once, each behind those that it uses -/
structure Told (n : Nat) (U : Nat → List Nat) (out : List Nat) : Prop where
 nd : out.Nodup
 lt : ∀ i ∈ out, i < n
 cl : ∀ i ∈ out, ∀ k ∈ U i, k ∈ out
 bh : ∀ p (hp : p < out.length), ∀ k ∈ U out[p], k ∈ out.take p
theorem Told.nil {n : Nat} {U : Nat → List Nat} : Told n U [] := ⟨List.nodup_nil, fun i h => (by cases h), fun i h => (by cases h), fun p hp => by simp at hp⟩
theorem readyB_iff {n : Nat} {U : Nat → List Nat} {out : List Nat} {i : Nat} : readyB n U out i = true ↔ i ∉ out ∧ ∀ k ∈ U i, k ∈ out := by
 unfold readyB
 simp
theorem nextO_some {n : Nat} {U : Nat → List Nat} {out : List Nat} {i : Nat} (h : nextO n U out = some i) : i < n ∧ i ∉ out ∧ (∀ k ∈ U i, k ∈ out) ∧ ∀ j, j < i → ¬ (j ∉ out ∧ ∀ k ∈ U j, k ∈ out) := by
 unfold nextO at h
 obtain ⟨h1, la, lb, h2, h3⟩ := List.find?_eq_some_iff_append.1 h
 obtain ⟨r1, r2⟩ := readyB_iff.1 h1
 have hm : i ∈ List.range n := by rw [h2]; simp
 refine ⟨List.mem_range.1 hm, r1, r2, fun j hj hr => ?_⟩
 have hjm : j ∈ la := by
  have hlen : la.length = i := by
   have h4 : (List.range n)[la.length]? = some i := by rw [h2]; simp
   rw [List.getElem?_range] at h4
   ·simpa using h4
   have := congrArg List.length h2; simp at this; omega
  have h5 : (List.range n)[j]? = some j := List.getElem?_range (by have := List.mem_range.1 hm; omega)
  rw [h2, List.getElem?_append_left (by omega)] at h5
  exact List.mem_of_getElem? h5
 have h6 := h3 j hjm
 rw [readyB_iff.2 hr] at h6
 simp at h6
theorem Told.step {n : Nat} {U : Nat → List Nat} {out : List Nat} (h : Told n U out) {i : Nat} (hi : nextO n U out = some i) : Told n U (out ++ [i]) := by
 obtain ⟨h1, h2, h3, -⟩ := nextO_some hi
 refine ⟨?_, fun j hj => ?_, fun j hj k hk => ?_, fun p hp k hk => ?_⟩
 ·rw [List.nodup_append]
  refine ⟨h.nd, by simp, fun a ha b hb => ?_⟩
  rw [List.mem_singleton.1 hb]
  exact fun e => h2 (e ▸ ha)
 ·rcases List.mem_append.1 hj with hj | hj
  ·exact h.lt j hj
  rw [List.mem_singleton.1 hj]; exact h1
 ·rcases List.mem_append.1 hj with hj | hj
  ·exact List.mem_append_left _ (h.cl j hj k hk)
  rw [List.mem_singleton.1 hj] at hk
  exact List.mem_append_left _ (h3 k hk)
 rw [List.length_append, List.length_singleton] at hp
 rcases Nat.lt_or_ge p out.length with hl | hl
 ·rw [List.getElem_append_left hl] at hk
  rw [List.take_append_of_le_length (by omega)]
  exact h.bh p hl k hk
 obtain rfl : p = out.length := by omega
 rw [List.getElem_append_right (Nat.le_refl _)] at hk
 simp only [Nat.sub_self, List.getElem_singleton] at hk
 rw [List.take_left]
 exact h3 k hk
theorem nextO_none {n : Nat} {U : Nat → List Nat} {out : List Nat} (hU : ∀ i, i < n → ∀ j ∈ U i, j < n) (hac : ∀ i, i < n → ¬ Relation.TransGen (Us U) i i) (hl : out.length < n) : ∃ i, nextO n U out = some i := by
 obtain ⟨i, hi, hn⟩ := some_out hl
 obtain ⟨k, hk, h1, h2⟩ := ready_one hU hac (told := fun j => j ∈ out) _ i (Nat.le_refl _) hi hn
 cases hx : nextO n U out with
 | some j => exact ⟨j, rfl⟩
 | none =>
  unfold nextO at hx
  have := List.find?_eq_none.1 hx k (List.mem_range.2 hk)
  exact absurd (readyB_iff.2 ⟨h1, h2⟩) this
theorem orderF_told {n : Nat} {U : Nat → List Nat} (hU : ∀ i, i < n → ∀ j ∈ U i, j < n) (hac : ∀ i, i < n → ¬ Relation.TransGen (Us U) i i) : ∀ (f : Nat) (out : List Nat), Told n U out → out.length + f = n → Told n U (orderF n U f out) ∧ (orderF n U f out).length = n
 | 0, out, h, hl => ⟨h, hl⟩
 | f + 1, out, h, hl => by
  obtain ⟨i, hi⟩ := nextO_none hU hac (show out.length < n by omega)
  unfold orderF
  rw [hi]
  exact orderF_told hU hac f (out ++ [i]) (h.step hi) (by rw [List.length_append, List.length_singleton]; omega)
theorem orderF_more {n : Nat} {U : Nat → List Nat} {f : Nat} {out : List Nat} {i : Nat} (hi : nextO n U out = some i) : orderF n U (f + 1) out = orderF n U f (out ++ [i]) := by
 rw [orderF, hi]
mutual
def depT (wh : List UInt8 → Nat) (dp : Nat → Nat) : Tr → Nat
 | .node y ks => if y.kind = 9 then dp (wh y.name) else depK wh dp ks 0 + 1
/-- the most of those ahead and these -/
def depK (wh : List UInt8 → Nat) (dp : Nat → Nat) : Trs → Nat → Nat
 | .nil, m => m
 | .cons t ts, m => depK wh dp ts (max m (depT wh dp t))
end
mutual
theorem depT_congr {wh : List UInt8 → Nat} {dp dq : Nat → Nat} : ∀ (t : Tr), (∀ x ∈ t.flat, x.kind = 9 → dp (wh x.name) = dq (wh x.name)) → depT wh dp t = depT wh dq t
 | .node y ks, h => by
  unfold depT
  split
  ·rename_i h9; exact h y (List.mem_cons_self ..) h9
  rw [depK_congr ks 0 (fun x hx => h x (List.mem_cons_of_mem _ hx))]
theorem depK_congr {wh : List UInt8 → Nat} {dp dq : Nat → Nat} : ∀ (ts : Trs) (m : Nat), (∀ x ∈ ts.flat, x.kind = 9 → dp (wh x.name) = dq (wh x.name)) → depK wh dp ts m = depK wh dq ts m
 | .nil, m, _ => rfl
 | .cons t ts, m, h => by
  unfold depK
  rw [depT_congr t (fun x hx => h x (List.mem_append_left _ hx)), depK_congr ts _ (fun x hx => h x (List.mem_append_right _ hx))]
end
def updN (f : Nat → Nat) (i v : Nat) : Nat → Nat := fun j => if j = i then v else f j
/-- the depths, one definition behind the other -/
def depO (wh : List UInt8 → Nat) (T : Nat → Tr) : List Nat → (Nat → Nat) → (Nat → Nat)
 | [], f => f
 | i :: l, f => depO wh T l (updN f i (depT wh f (T i)))
theorem depO_snoc {wh : List UInt8 → Nat} {T : Nat → Tr} : ∀ (l : List Nat) (f : Nat → Nat) (i : Nat), depO wh T (l ++ [i]) f = updN (depO wh T l f) i (depT wh (depO wh T l f) (T i))
 | [], f, i => rfl
 | a :: l, f, i => by
  show depO wh T (l ++ [i]) _ = _
  rw [depO_snoc l]
  rfl
/-- each one's depth is that of its type, by the depths -/
theorem depO_fix {wh : List UInt8 → Nat} {T : Nat → Tr} {n : Nat} {U : Nat → List Nat} (hUT : ∀ i, i < n → ∀ x ∈ (T i).flat, x.kind = 9 → wh x.name ∈ U i) : ∀ (l out : List Nat) (f : Nat → Nat), Told n U (out ++ l) → (∀ i ∈ out, f i = depT wh f (T i)) → ∀ i ∈ out ++ l, depO wh T l f i = depT wh (depO wh T l f) (T i)
 | [], out, f, h, hf, i, hi => by rw [List.append_nil] at hi; exact hf i hi
 | a :: l, out, f, h, hf, i, hi => by
  have hnd := h.nd
  have hal : a < n := h.lt a (by simp)
  have ha : a ∉ out := fun hm => by
   rw [List.nodup_append] at hnd
   exact hnd.2.2 a hm a (List.mem_cons_self ..) rfl
  have hua : ∀ k ∈ U a, k ∈ out := fun k hk => by
   have h1 := h.bh out.length (by simp) k (by rw [List.getElem_append_right (Nat.le_refl _)]; simpa using hk)
   rwa [List.take_left] at h1
  have huo : ∀ j ∈ out, ∀ k ∈ U j, k ∈ out := fun j hj k hk => by
   obtain ⟨p, hp, rfl⟩ := List.getElem_of_mem hj
   have h1 := h.bh p (by rw [List.length_append]; omega) k (by rw [List.getElem_append_left hp]; exact hk)
   rw [List.take_append_of_le_length (by omega)] at h1
   exact List.mem_of_mem_take h1
  show depO wh T l (updN f a (depT wh f (T a))) i = _
  refine depO_fix hUT l (out ++ [a]) _ (by rw [List.append_assoc]; exact h) (fun j hj => ?_) i (by rw [List.append_assoc]; exact hi)
  have hsame : ∀ k ∈ out, updN f a (depT wh f (T a)) k = f k := fun k hk => if_neg (fun e : k = a => ha (by rw [← e]; exact hk))
  rcases List.mem_append.1 hj with hj | hj
  ·have hjl : j < n := h.lt j (List.mem_append_left _ hj)
   rw [hsame j hj, hf j hj]
   exact depT_congr _ (fun x hx h9 => (hsame _ (huo j hj _ (hUT j hjl x hx h9))).symm)
  rw [List.mem_singleton.1 hj]
  have e1 : updN f a (depT wh f (T a)) a = depT wh f (T a) := by unfold updN; rw [if_pos rfl]
  rw [e1]
  exact depT_congr _ (fun x hx h9 => (hsame _ (hua _ (hUT a hal x hx h9))).symm)

end Go.Proofs.Ytpbflfgigfdohaa

namespace Go.Proofs.Ytpbflfgigfdohaa
open Go Go.Vc Go.RowKit Go.Proofs

mutual
/-- a name has no kids -/
def Tr.leafy : Tr → Prop
 | .node y ks => (y.kind = 9 → ks = .nil) ∧ ks.leafy
def Trs.leafy : Trs → Prop
 | .nil => True
 | .cons t ts => t.leafy ∧ ts.leafy
end
mutual
theorem wf_leafy : ∀ (t : Tr) (a : Int) (d : Nat), t.wf a d → t.leafy
 | .node y ks, a, d, h => by
  obtain ⟨-, -, hr, hk, hks⟩ := h
  refine ⟨fun h9 => ?_, wfs_leafy ks _ _ hks⟩
  obtain ⟨hok, -, -, -⟩ := rightB_iff hr
  have hk0 : y.kids = 0 := by rcases okB_cases hok with g | g | g | g | g <;> omega
  exact trs_nil (by omega)
theorem wfs_leafy : ∀ (ts : Trs) (a : Int) (d : Nat), ts.wf a d → ts.leafy
 | .nil, _, _, _ => trivial
 | .cons t ts, a, d, h => ⟨wf_leafy t _ _ h.1, wfs_leafy ts _ _ h.2⟩
end


end Go.Proofs.Ytpbflfgigfdohaa

namespace Go.Vc
open Go Go.RowKit Go.Maps Go.ChangeMaps
/-- a map's type: its key's and its element's, an int -/
structure MTy (P : Program) (t k e : TypeId) : Prop where
 kd : Keyed P k
 ht : P.underlying t = some (.map k e)
 he : P.underlying e = some (.int .i64)
 hz : ∀ w, (zeroValue e).run P w = .ok (.int .i64 0) w
/-- block b of w is a map of at most n entries in which g stands -/
def MapIs (P : Program) (k e : TypeId) {α : Type} (en : α → Lit) (w : World) (b n : Nat) (g : α → Option Int) : Prop :=
 ∃ D : DataW Unit, w.ownsMap P k (plainElem P e) b n D ∧ ∀ a, Maps.has D (en a) = (g a).isSome ∧ ∀ v, g a = some v → D.atKey (en a) (.lit (.int .i64 0)) = .lit (.int .i64 v)
def enS (s : List UInt8) : Lit := .string s
def enI (a : Int) : Lit := .int .i64 a
section
variable {P : Program} {e : Env} {w : World} {K : Value → World → Prop} {ty : TypeId} {α : Type} {en : α → Lit} {t kt et : TypeId} {b n : Nat} {g : α → Option Int}
theorem MapIs.made (P : Program) (kt et : TypeId) (en : α → Lit) (w : World) : MapIs P kt et en (w.alloc (.map #[] 0)) w.heap.size 0 (fun _ => none) :=
 ⟨_, World.ownsMap_made w P kt _, fun a => ⟨rfl, fun v h => by cases h⟩⟩
theorem MapIs.lt (h : MapIs P kt et en w b n g) : b < w.heap.size := by obtain ⟨D, h, -⟩ := h; exact h.lt
theorem MapIs.mono (h : MapIs P kt et en w b n g) {m : Nat} (hm : n ≤ m) : MapIs P kt et en w b m g := by obtain ⟨D, h, r⟩ := h; exact ⟨D, h.mono hm, r⟩
theorem MapIs.only {w' : World} {F : Nat → Prop} (h : MapIs P kt et en w b n g) (ho : Only F w w') (hn : ¬ F b) : MapIs P kt et en w' b n g := by
 obtain ⟨D, h, r⟩ := h
 have hlt := h.lt
 obtain ⟨es, clock, hb, Ft, hs, hD⟩ := h
 exact ⟨D, ⟨es, clock, (ho.block b hlt hn).trans hb, Ft, hs, hD⟩, r⟩
theorem MapIs.ext {w' : World} (h : MapIs P kt et en w b n g) (ho : Only No w w') : MapIs P kt et en w' b n g := h.only ho (fun h => h)
theorem o_mkM {t : TypeId} (k : K (.map (some w.heap.size)) (w.alloc (.map #[] 0))) : OP P e (.makeMap t none) ty w K :=
 OP.of (by simp [execOp, run_makeMap]) k
theorem MapIs.val {D : DataW Unit} (h : ∀ a, Maps.has D (en a) = (g a).isSome ∧ ∀ v, g a = some v → D.atKey (en a) (.lit (.int .i64 0)) = .lit (.int .i64 v)) {a : α} {c : Int} (hc : D.atKey (en a) (.lit (.int .i64 0)) = .lit (.int .i64 c)) : c = (g a).getD 0 := by
 obtain ⟨h1, h2⟩ := h a
 cases hg : g a with
 | some v =>
  rw [h2 v hg] at hc
  simp only [DataW.lit.injEq, Lit.int.injEq, true_and] at hc
  exact hc.symm
 | none =>
  rw [hg] at h1
  rw [atKey_of_not_has h1] at hc
  simp only [DataW.lit.injEq, Lit.int.injEq, true_and] at hc
  exact hc.symm
/-- 'v, ok := m[k]' -/
theorem o_lkO {x y : Operand} {key : Value} {a : α} (hT : MTy P t kt et) (hx : ev e x = .map (some b)) (hM : MapIs P kt et en w b n g) (hy : ev e y = key) (hkl : keyOf P kt key = some (en a))
  (kk : K (.tuple #[.int .i64 ((g a).getD 0), .bool (g a).isSome]) w) : OP P e (.lookup t x y true) ty w K := by
 obtain ⟨D, hown, hD⟩ := hM
 obtain ⟨v, ps, hrun, hv⟩ := hown.look_ok hT.kd hT.ht (hT.hz w) (plainElem_int hT.he (by decide)) hkl
 obtain ⟨c, rfl, hc, -⟩ := plainElem_int_inv hT.he hv
 have hcv := MapIs.val hD (congrArg Prod.fst hc)
 subst hcv
 rw [(hD a).1] at hrun
 exact OP.of (by simp [execOp, hx, hy, hrun]) kk
/-- 'm[k]' -/
theorem o_lk {x y : Operand} {key : Value} {a : α} (hT : MTy P t kt et) (hx : ev e x = .map (some b)) (hM : MapIs P kt et en w b n g) (hy : ev e y = key) (hkl : keyOf P kt key = some (en a))
  (kk : K (.int .i64 ((g a).getD 0)) w) : OP P e (.lookup t x y false) ty w K := by
 obtain ⟨D, hown, hD⟩ := hM
 obtain ⟨v, ps, hrun, hv⟩ := hown.lookup hT.kd hT.ht (hT.hz w) (plainElem_int hT.he (by decide)) hkl
 obtain ⟨c, rfl, hc, -⟩ := plainElem_int_inv hT.he hv
 have hcv := MapIs.val hD (congrArg Prod.fst hc)
 subst hcv
 exact OP.of (by simp [execOp, hx, hy, hrun]) kk
/-- 'm[k] = v' -/
theorem o_mu [DecidableEq α] {x y z : Operand} {key : Value} {a : α} {v : Int} (hen : ∀ a b, en a = en b → a = b) (hT : MTy P t kt et) (hx : ev e x = .map (some b)) (hM : MapIs P kt et en w b n g) (hy : ev e y = key) (hkl : keyOf P kt key = some (en a))
  (hv : ev e z = .int .i64 v) (hw : (Lit.int .i64 v).wf = true) (hn : n < maxLen)
  (kk : ∀ w', MapIs P kt et en w' b (n + 1) (fun c => if c = a then some v else g c) → Only (fun k => k = b) w w' → w'.heap.size = w.heap.size → K undef w') : OP P e (.mapUpdate t x y z) ty w K := by
 obtain ⟨D, hown, hD⟩ := hM
 obtain ⟨w', hrun, hown', es, clock, es', clock', hb, hw'⟩ := hown.store hT.kd hT.ht hn hkl (plainElem_int hT.he hw)
 refine OP.ofS (w' := w') (by simp [execOp, hx, hy, hv, hrun]) (kk w' ⟨_, hown', fun c => ?_⟩ ?_ ?_)
 ·have hK := hT.kd.key hkl
  by_cases hc : c = a
  ·subst hc
   simp only [if_true]
   rw [has_put_same hown.isMap hK]
   refine ⟨rfl, fun u hu => ?_⟩
   cases hu
   exact atKey_put_same hown.isMap hK _ _
  have hne : en c ≠ en a := fun h => hc (hen _ _ h)
  simp only [if_neg hc]
  rw [has_put_other hne]
  refine ⟨(hD c).1, fun u hu => ?_⟩
  rw [atKey_put_other hne]
  exact (hD c).2 u hu
 ·subst hw'
  exact ⟨rfl, rfl, rfl, by simp [setBlock], fun k _ hk => heap_setBlock_other hb _ (fun e => hk e)⟩
 subst hw'
 simp [setBlock]
theorem keyS {k : TypeId} (hk : P.underlying k = some .string) {s : List UInt8} (hs : s.length ≤ maxLen) : keyOf P k (st s) = some (enS s) :=
 Go.WideMaps.keyOf_string_mk hk (s := ⟨s.toArray⟩) (by simpa [ByteArray.size] using hs)
theorem keyI {k : TypeId} (hk : P.underlying k = some (.int .i64)) {a : Int} (h : -9223372036854775808 ≤ a ∧ a ≤ 9223372036854775807) : keyOf P k (.int .i64 a) = some (enI a) :=
 keyOf_int_mk hk (by simp [Lit.wf, IntKind.min, IntKind.max, IntKind.signed, IntKind.bits]; omega)
theorem wf_i64 {a : Int} (h : -9223372036854775808 ≤ a ∧ a ≤ 9223372036854775807) : (Lit.int .i64 a).wf = true := by
 simp [Lit.wf, IntKind.min, IntKind.max, IntKind.signed, IntKind.bits]; omega
theorem enS_inj : ∀ a b, enS a = enS b → a = b := fun a b h => by unfold enS at h; simpa using h
theorem enI_inj : ∀ a b, enI a = enI b → a = b := fun a b h => by unfold enI at h; simpa using h
end
end Go.Vc

namespace Go.Proofs.Ytpbflfgigfdohaa
open Go Go.Vc Go.RowKit Go.Proofs
theorem TI88 : Ty Try.prog 88 (.map 9 3) 1 8 (.map none) := ⟨Try.underlying88, Try.t88, Try.type88, rfl, rfl, rfl⟩
theorem MT88 : MTy Try.prog 88 9 3 := ⟨Go.Maps.string_keyed Try.underlying9, Try.underlying88, Try.underlying3, fun w => TI3.run_zero w⟩
theorem TI137 : Ty Try.prog 137 (.func #[3] #[4] .false) 1 8 .nilFunc := ⟨Try.underlying137, Try.t137, Try.type137, rfl, rfl, rfl⟩
theorem TI141 : Ty Try.prog 141 (.map 3 3) 1 8 (.map none) := ⟨Try.underlying141, Try.t141, Try.type141, rfl, rfl, rfl⟩
theorem MT141 : MTy Try.prog 141 3 3 := ⟨Go.Maps.int_keyed Try.underlying3, Try.underlying141, Try.underlying3, fun w => TI3.run_zero w⟩
theorem TI155 : Ty Try.prog 155 (.func #[3] #[3, 3] .false) 1 8 .nilFunc := ⟨Try.underlying155, Try.t155, Try.type155, rfl, rfl, rfl⟩
theorem where_hit {D : List Df} {nm : List UInt8} {k : Nat} (hk : k < D.length) (h : D[k].name = nm) (hb : ∀ j, j < k → ¬ (D.getD j df0).name = nm) : whereN D nm = some k := by
 refine List.findIdx?_eq_some_iff_getElem.2 ⟨hk, decide_eq_true h, fun j hj => ?_⟩
 have := hb j hj
 rw [getD_at (by omega)] at this
 simpa using this
theorem where_miss {D : List Df} {nm : List UInt8} (hb : ∀ j, j < D.length → ¬ (D.getD j df0).name = nm) : whereN D nm = none := by
 refine List.findIdx?_eq_none_iff.2 fun d hd => ?_
 obtain ⟨j, hj, rfl⟩ := List.getElem_of_mem hd
 have := hb j hj
 rw [getD_at hj] at this
 simpa using this
def iv (k : Nat) : Value := .int .i64 (k : Int)
/-- a source's book: where it lies, and its map -/
structure Bk (w : World) (pb mb : Nat) (D : List Df) (dv : Value) (V : Nat → Value) : Prop where
 cell : w.heap[pb]? = some (.cells #[dv, .map (some mb)] 136 (0, 0))
 rd : DefR w D dv V
 mp : MapIs Try.prog 9 3 enS w mb D.length (fun s => (whereN D s).map Int.ofNat)
theorem Bk.ext {w w' : World} {pb mb : Nat} {D : List Df} {dv : Value} {V : Nat → Value} (h : Bk w pb mb D dv V) (ho : Ext w w') : Bk w' pb mb D dv V := ⟨ho.blk h.cell (fun h => h), h.rd.ext ho, h.mp.ext ho⟩
theorem getD_cast (o : Option Nat) : (o.map Int.ofNat).getD 0 = ((o.getD 0 : Nat) : Int) := by cases o <;> rfl
/-- the names that the first k nodes use -/
def usesK (D : List Df) (L : List Ex) (k : Nat) : List Nat := ((L.take k).filter (fun x => decide (x.kind = 9))).map (fun x => (whereN D x.name).getD 0)
theorem usesK_no {D : List Df} {L : List Ex} {k : Nat} (hk : k < L.length) (h : ¬ L[k].kind = 9) : usesK D L (k + 1) = usesK D L k := by
 unfold usesK
 rw [List.take_succ_eq_append_getElem hk, List.filter_append]
 simp [h]
theorem usesK_yes {D : List Df} {L : List Ex} {k : Nat} (hk : k < L.length) (h : L[k].kind = 9) : usesK D L (k + 1) = usesK D L k ++ [(whereN D L[k].name).getD 0] := by
 unfold usesK
 rw [List.take_succ_eq_append_getElem hk, List.filter_append]
 simp [h]
theorem usesK_all {D : List Df} {i : Nat} (hi : i < D.length) : usesK D D[i].ty D[i].ty.length = usesD D i := by
 unfold usesK usesD
 rw [List.take_length, tyD_at hi]
theorem usesK_len (D : List Df) (L : List Ex) (k : Nat) : (usesK D L k).length ≤ L.length := by
 unfold usesK
 rw [List.length_map]
 exact Nat.le_trans (List.length_filter_le _ _) (by rw [List.length_take]; omega)

set_option maxHeartbeats 1000000 in
theorem find_spec (D : List Df) (dv : Value) (V : Nat → Value) (nm : List UInt8) (w0 : World) (hD : DefR w0 D dv V) (hlen : D.length * 48 ≤ 140737488351232) : Ca Try.prog 57 #[.agg #[dv], st nm] w0 (fun v w' => v = .tuple #[.int .i64 (((whereN D nm).getD 0 : Nat) : Int), .int .i64 (if (whereN D nm).isSome then 0 else 81)] ∧ Ext w0 w') := by
 refine Ca.of Try.func57 Try.ntmps57 rfl rfl (W.seq (W.region (WL.c rfl (o_boxB rfl ?_))))
 intro w2 hC2 hx2 hs2
 obtain ⟨b2, hb2⟩ : ∃ b, b = w0.heap.size := ⟨_, rfl⟩
 rw [← hb2] at hC2 ⊢
 replace hC2 : w2.heap[b2]? = some (.cells ([dv]).toArray 25 (0, 0)) := hC2
 have hx := hx2
 replace hD := hD.ext hx2
 refine WL.c rfl (o_ash vI (WL.c rfl (o_ash vI (WL.nil (W.seq (W.seq (W.region (WL.c rfl (o_fa 0 TI25 rfl TI23 rfl rfl (WL.c rfl (o_ld TI23 rfl rfl (cell_of hC2 rfl) (WL.c rfl (o_lenR TI23 rfl hD.row (WL.c rfl (o_mvh vI (WL.nil (W.block (W.loop (fun e w => ∃ k : Nat, k ≤ D.length ∧ e 1 = st nm ∧ e 9 = dv ∧ e 10 = .int .i64 (D.length : Int) ∧ e 11 = .int .i64 (k : Int) ∧ DefR w D dv V ∧ (∀ j, j < k → ¬ (D.getD j df0).name = nm) ∧ Ext w0 w) (fun e w => D.length - (intOf (e 11)).toNat) ?_ ?_))))))))))))))))))
 ·exact ⟨0, Nat.zero_le _, rfl, rfl, rfl, rfl, hD, fun j hj => by omega, hx⟩
 rintro e w ⟨k, hk, h1, h9, h10, h11, hD, hno, hx⟩
 have hm11 := h11
 refine W.seq (W.region (WL.c rfl (o_lt h11 h10 (WL.nil (W.seq (W.cond rfl (fun c12 => ?_) (fun c12 => ?_)))))))
 ·try simp only [cs8] at c12
  have hk1 : k < D.length := by omega
  obtain ⟨tb, to_, tc, rfl, htc, hty⟩ := hD.atk hk1
  refine W.skip (W.seq (W.block (W.seq (W.region (WL.c rfl (o_mvh h11 (WL.c rfl (o_ixB TI23 TI39 h9 h11 (by omega) (WL.c rfl (o_ldA TI39 rfl rfl htc rfl (WL.c rfl (o_alB TI39 ?_))))))))))))
  intro wa hCa hxa hsa
  refine WL.c rfl (o_ash vI (WL.u (o_stA TI39 rfl (show _ = Value.agg (dcell D[k] (V k)).toArray from rfl) rfl (by simp only [dcell, List.toArray, Array.toList, List.all_cons, List.all_nil, sl_one1 hty]; rfl) hCa rfl ?_)))
  intro wb7 hC7 hob hsb
  have hxb := Ext.own hxa (Nat.le_refl _) hob
  obtain ⟨b7, hb7⟩ : ∃ b, b = w.heap.size := ⟨_, rfl⟩
  rw [← hb7] at hC7 ⊢
  clear hCa hxa hsa hob hsb
  replace hx := hx.tr hxb
  replace hD := hD.ext hxb
  replace hty := hty.ext hxb
  clear hxb
  refine WL.nil (W.seq (W.region (WL.c rfl (o_fa 0 TI39 rfl TI9 rfl rfl (WL.c rfl (o_ld TI9 rfl rfl (cell_of hC7 rfl) (WL.c rfl (o_mvh h1 (WL.c rfl (o_eqT rfl rfl (WL.nil (W.cond rfl (fun c19 => ?_) (fun c19 => ?_)))))))))))))
  ·try simp only [cs8] at c19
   refine W.seq (W.region (WL.c rfl (o_mvh vI (WL.c rfl (o_ash vI (WL.c rfl (o_ash vI (WL.nil (W.ret (ret2v rfl vI vI ?_))))))))))
   exact ⟨by rw [where_hit hk1 (by simpa using c19) hno]; rfl, hx⟩
  try simp only [cs8] at c19
  refine W.skip (W.region (WL.c rfl (o_addi h11 rfl (by omega) (WL.c rfl (o_mvh vI (WL.nil (⟨⟨k + 1, by omega, h1, h9, h10, rfl, hD, fun j hj => ?_, hx⟩, ?_⟩)))))))
  ·rcases Nat.lt_or_ge j k with h | h
   ·exact hno j h
   rw [show j = k by omega, getD_at hk1]; simpa using c19
  show D.length - ((k : Int) + 1).toNat < _
  rw [hm11]; simp [intOf]; omega
 try simp only [cs8] at c12
 have hk1 : k = D.length := by omega
 refine W.exit (W.seq (W.region (WL.c rfl (o_ash vI (WL.c rfl (o_ash vI (WL.nil (W.ret (ret2v rfl vI vI ?_)))))))))
 exact ⟨by rw [where_miss (fun j hj => hno j (by omega))]; rfl, hx⟩
theorem fault_spec (er at_ : Int) (w0 : World) : Ca Try.prog 80 #[.int .i64 er, .int .i64 at_] w0 (fun v w' => v = .agg #[.int .i64 er, .int .i64 at_] ∧ Ext w0 w') := by
 refine Ca.of Try.func80 Try.ntmps80 rfl rfl (W.seq (W.region (WL.c rfl (o_alB TI28 ?_))))
 intro wa hCa hxa hsa
 obtain ⟨c4, hc4⟩ : ∃ c, c = w0.heap.size := ⟨_, rfl⟩
 rw [← hc4] at hCa ⊢
 refine WL.nil (W.seq (W.region (WL.c rfl (o_mvh vI (WL.c rfl (o_mvh vI (WL.c rfl (o_bldC (cs := [_, _]) TI28 (Sizes.cons TI26 (Sizes.cons TI3 Sizes.nil)) rfl (lcp vI (lcp vI lnp)) rfl rfl (WL.u (o_stA TI28 rfl (show _ = Value.agg #[.int .i64 er, .int .i64 at_] from rfl) rfl rfl hCa rfl ?_))))))))))
 intro wb hCb hob hsb
 have hx : Ext w0 wb := hxa.trans' hob (fun _ h => h) (fun k hk he => by omega)
 refine WL.nil (W.ret (retC rfl TI28 rfl rfl (show Cells _ c4 0 [.int .i64 er, .int .i64 at_] from Cells.of hCb 0 _ (by simp)) rfl ?_))
 exact ⟨rfl, hx⟩
set_option maxHeartbeats 1000000 in
theorem uses_spec (pb mb i : Nat) (D : List Df) (dv : Value) (V : Nat → Value) (w0 : World) (hB : Bk w0 pb mb D dv V) (hlim : DOk D) (hi : i < D.length) : Ca Try.prog 83 #[.pointer (some ⟨pb, 0, none⟩), .int .i64 (i : Int)] w0 (fun v w' => w'.ownsRow w0.heap.size 3 1 v (usesD D i).length ((usesD D i).map iv) ∧ Ext w0 w') := by
 have hx : Ext w0 w0 := Only.refl _ _
 have hlen := hlim.len
 have htl := hlim.ty _ (List.getElem_mem hi)
 have hnm := hlim.ex _ (List.getElem_mem hi)
 obtain ⟨gb, go, gc, hdv, hgc, hty⟩ := hB.rd.atk hi
 obtain ⟨BB, hBB⟩ : ∃ B, B = w0.heap.size := ⟨_, rfl⟩
 rw [← hBB]
 have hcl := hB.cell
 rw [hdv] at hcl
 have hB00 := hB
 have hty00 := hty
 refine Ca.of Try.func83 Try.ntmps83 rfl rfl (W.seq (W.region (WL.c rfl (o_ash (by first | exact vS | exact rfl) (WL.nil (W.seq (W.region (WL.c rfl (o_ash (by first | exact vS | exact rfl) (WL.nil (W.seq (W.seq (W.region (WL.c rfl (o_mvh (by first | exact (show _ = Value.pointer _ from rfl) | exact rfl) (WL.c rfl (o_nil rfl (WL.c rfl (o_fa 0 TI136 rfl TI23 rfl rfl (WL.c rfl (o_ld TI23 rfl rfl (cell_of hcl rfl) (WL.c rfl (o_mvh vI (WL.c rfl (o_ixB (i := i) TI23 TI39 rfl rfl (by omega) (WL.c rfl (o_fa 2 TI39 rfl TI37 rfl rfl (WL.c rfl (o_ld TI37 rfl rfl (hgc 2 _ rfl) (WL.c rfl (o_lenR TI37 rfl hty (WL.c rfl (o_mvh vI (WL.nil (W.block (W.loop (fun e w => ∃ (k : Nat) (out : Value), k ≤ D[i].ty.length ∧ e 0 = .pointer (some ⟨pb, 0, none⟩) ∧ e 5 = out ∧ e 15 = V i ∧ e 16 = .int .i64 (D[i].ty.length : Int) ∧ e 17 = .int .i64 (k : Int) ∧ Bk w pb mb D dv V ∧ Sl w 7 (V i) D[i].ty.length (exs D[i].ty) ∧ w.ownsRow BB 3 1 out (usesK D D[i].ty k).length ((usesK D D[i].ty k).map iv) ∧ Ext w0 w) (fun e w => D[i].ty.length - (intOf (e 17)).toNat) ?_ ?_))))))))))))))))))))))))))))))))))))
 ·exact ⟨0, .slice none 0 0, Nat.zero_le _, rfl, rfl, rfl, rfl, rfl, hB, hty, World.ownsRow_nil _ _ _ _, hx⟩
 rintro e w ⟨k, out, hk, h0, h5, h15, h16, h17, hB, hty, hrow, hx⟩
 have hm17 := h17
 refine W.seq (W.region (WL.c rfl (o_lt h17 h16 (WL.nil (W.seq (W.cond rfl (fun c18 => ?_) (fun c18 => ?_)))))))
 ·try simp only [cs8] at c18
  have hk1 : k < D[i].ty.length := by omega
  obtain ⟨ub, uo, uc, hV1, huc⟩ := Sl.exq hty hk1
  rw [hV1] at h15
  have hnk := (hnm _ (List.getElem_mem hk1)).1
  have hul := usesK_len D D[i].ty k
  refine W.skip (W.seq (W.block (W.seq (W.region (WL.c rfl (o_ixB TI37 TI41 h15 h17 (by omega) (WL.c rfl (o_ldA TI41 rfl rfl huc rfl (WL.c rfl (o_alB TI41 ?_))))))))))
  intro wa hCa hxa hsa
  refine WL.u (o_stA TI41 rfl (show _ = Value.agg (exV D[i].ty[k]).toArray from rfl) rfl rfl hCa rfl ?_)
  intro wb7 hC7 hob hsb
  have hxb := Ext.own hxa (Nat.le_refl _) hob
  obtain ⟨b7, hb7⟩ : ∃ b, b = w.heap.size := ⟨_, rfl⟩
  rw [← hb7] at hC7 ⊢
  clear hCa hxa hsa hob hsb
  replace hx := hx.tr hxb
  replace hB := hB.ext hxb
  replace hty := hty.ext hxb
  replace hrow := own_ext hrow hxb
  clear hxb
  refine WL.nil (W.seq (W.region (WL.c rfl (o_fa 0 TI41 rfl TI3 rfl rfl (WL.c rfl (o_ld TI3 rfl rfl (cell_of hC7 rfl) (WL.c rfl (o_eq rfl rfl (WL.nil (W.cond rfl (fun c23 => ?_) (fun c23 => ?_)))))))))))
  ·try simp only [cs8] at c23
   have h9 : D[i].ty[k].kind = 9 := by simpa using c23
   obtain ⟨wd, hwd⟩ : ∃ wd, wd = wb7.drew := ⟨_, rfl⟩
   have hxd : Ext wb7 wd := hwd ▸ Only.drew wb7
   replace hx := hx.tr hxd
   replace hB := hB.ext hxd
   replace hty := hty.ext hxd
   replace hrow := own_ext hrow hxd
   replace hC7 := hxd.blk hC7 (fun h => h)
   have hcl6 := hB.cell
   refine W.drawT 9 (Ext) [(0, fun v _ => v = _), (5, fun v _ => v = _), (7, fun v _ => v = _), (15, fun v _ => v = _), (16, fun v _ => v = _), (17, fun v _ => v = _)] rfl (by kernel_rfl) (Only.refl No) (fun _ _ _ h k => h.trans k) ⟨Mono.eq, Mono.eq, Mono.eq, Mono.eq, Mono.eq, Mono.eq, trivial⟩ ⟨h0, h5, rfl, h15, h16, h17, trivial⟩ (WD.p rfl (fun e w hR hh => by obtain ⟨h5, -⟩ := hh; exact SG.n (o_mvh h5 ⟨rfl, Only.refl No _⟩)) (WD.p rfl (fun e w hR hh => by obtain ⟨h0, -⟩ := hh; exact SG.n (o_mvh h0 ⟨rfl, Only.refl No _⟩)) (WD.p rfl (fun e w hR hh => by obtain ⟨h25, -⟩ := hh; exact SG.n (o_nil h25 ⟨rfl, Only.refl No _⟩)) (WD.p rfl (fun e w hR hh => by obtain ⟨h26, -⟩ := hh; exact SG.n (o_fa 1 TI136 rfl TI88 rfl h26 ⟨rfl, Only.refl No _⟩)) (WD.p rfl (fun e w hR hh => by obtain ⟨h27, -⟩ := hh; rw [← hwd] at hR; exact SG.n (o_ld TI88 rfl h27 (cell_of (hR.blk hcl6 (fun h => h)) rfl) ⟨rfl, Only.refl No _⟩)) (WD.p rfl (fun e w hR hh => by obtain ⟨h7, -⟩ := hh; exact SG.n (o_fa 2 TI41 rfl TI9 rfl h7 ⟨rfl, Only.refl No _⟩)) (WD.p rfl (fun e w hR hh => by obtain ⟨h29, -⟩ := hh; rw [← hwd] at hR; exact SG.n (o_ld TI9 rfl h29 (cell_of (hR.blk hC7 (fun h => h)) rfl) ⟨rfl, Only.refl No _⟩)) (WD.p rfl (fun e w hR hh => by obtain ⟨h30, h28, -⟩ := hh; rw [← hwd] at hR; exact SG.n (o_lk MT88 h28 (hB.mp.ext hR) h30 (keyS Try.underlying9 (by rw [maxLen_eq]; omega)) ⟨rfl, Only.refl No _⟩)) (WD.q (fun u w => w.ownsRow wd.heap.size 3 1 u 1 [iv ((whereN D D[i].ty[k].name).getD 0)]) (fun u w w2 hR hh => own_ext hh hR) rfl (fun e w hR hh => by obtain ⟨h31, -⟩ := hh; rw [← hwd] at hR; rw [getD_cast] at h31; exact SG.n (o_bs1 TI79 TI3 h31 (by decide) (by decide) rfl ⟨own_mono (own_new1 rfl) hR.size, Only.alloc w _⟩)) ?_)))))))))
   rintro e w hR ⟨h32, h31, h30, h29, h28, h27, h26, h25, h24, h0, h5, h7, h15, h16, h17, -⟩
   rw [← hwd] at hR
   replace hx := hx.tr hR
   replace hB := hB.ext hR
   replace hty := hty.ext hR
   replace hrow := own_ext hrow hR
   refine WL.c rfl (o_apO (BB) TI79 TI3 h24 rfl hrow (Sl.own h32) rfl (by decide) (fun a ha => by rw [List.mem_singleton.1 ha]; rfl) (by rw [maxLen_eq]; omega) (by omega) (by rw [hBB]; exact hx.size) ?_)
   intro v33 w33 hrow33 ho33 hb33 _
   have hrl : ∀ b, out.ownBlock = some b → BB ≤ b := fun b hb => (hrow.lt b hb).1
   have hxo : Ext w0 w33 := hx.trans' ho33 (fun _ h => h) (fun b hb he => by have := hrl b he; omega)
   replace hx := hxo
   obtain ⟨outN, hon⟩ : ∃ o, o = v33 := ⟨_, rfl⟩
   rw [← hon]
   have hrow2 : w33.ownsRow BB 3 1 outN (usesK D D[i].ty (k + 1)).length ((usesK D D[i].ty (k + 1)).map iv) := by
    rw [usesK_yes hk1 h9, List.map_append, List.length_append, hon]; exact hrow33
   replace hB := hB00.ext hx
   replace hty := hty00.ext hx
   refine WL.c rfl (o_ash (by first | exact vS | exact rfl) (WL.nil (W.region (WL.c rfl (o_addi h17 rfl (by omega) (WL.c rfl (o_mvh vI (WL.nil (⟨⟨k + 1, outN, by omega, h0, by first | exact h5 | rfl, h15.trans hV1.symm, h16, rfl, hB, hty, hrow2, hx⟩, ?_⟩)))))))))
   show D[i].ty.length - ((k : Int) + 1).toNat < _
   rw [hm17]; simp [intOf]; omega
  try simp only [cs8] at c23
  have h9 : ¬ D[i].ty[k].kind = 9 := by simpa using c23
  have hrow2 := hrow
  rw [← usesK_no hk1 h9] at hrow2
  obtain ⟨outN, hon⟩ : ∃ o, o = out := ⟨_, rfl⟩
  rw [← hon] at hrow2 h5
  refine W.skip (W.region (WL.c rfl (o_addi h17 rfl (by omega) (WL.c rfl (o_mvh vI (WL.nil (⟨⟨k + 1, outN, by omega, h0, by first | exact h5 | rfl, h15.trans hV1.symm, h16, rfl, hB, hty, hrow2, hx⟩, ?_⟩)))))))
  show D[i].ty.length - ((k : Int) + 1).toNat < _
  rw [hm17]; simp [intOf]; omega
 try simp only [cs8] at c18
 have hk1 : k = D[i].ty.length := by omega
 subst hk1
 refine W.exit (W.seq (W.region (WL.c rfl (o_mvh h5 (WL.c rfl (o_ash (by first | exact vS | exact rfl) (WL.nil (W.ret (ret1v rfl rfl ?_)))))))))
 exact ⟨by rw [← usesK_all hi]; exact hrow, hx⟩
end Go.Proofs.Ytpbflfgigfdohaa

namespace Go.Proofs.Ytpbflfgigfdohaa
open Go Go.Vc Go.RowKit Go.Proofs

/-- the first of the numbers below n at which f answers -/
def firstN {α : Type} (n : Nat) (f : Nat → Option α) : Option α := (List.range n).findSome? f
theorem firstN_hit {α : Type} {n k : Nat} {f : Nat → Option α} {v : α} (hk : k < n) (hv : f k = some v) (hb : ∀ j, j < k → f j = none) : firstN n f = some v := by
 unfold firstN
 induction n with
 | zero => omega
 | succ n ih =>
  rw [List.range_succ, List.findSome?_append]
  rcases Nat.lt_or_ge k n with h | h
  ·rw [ih h]; rfl
  obtain rfl : k = n := by omega
  have : (List.range k).findSome? f = none := List.findSome?_eq_none_iff.2 fun j hj => hb j (List.mem_range.1 hj)
  rw [this]
  simp [hv]
theorem firstN_miss {α : Type} {n : Nat} {f : Nat → Option α} (hb : ∀ j, j < n → f j = none) : firstN n f = none :=
 List.findSome?_eq_none_iff.2 fun j hj => hb j (List.mem_range.1 hj)
theorem firstN_none {α : Type} {n : Nat} {f : Nat → Option α} (h : firstN n f = none) : ∀ j, j < n → f j = none :=
 fun j hj => List.findSome?_eq_none_iff.1 h j (List.mem_range.2 hj)
/-- is a kid's head like one ahead of it? -/
def dupB (kind : Int) (seen : List Ex) (x : Ex) : Bool := if kind = 8 then seen.any (fun y => decide (y.label = x.label)) else if kind = 7 then seen.any (fun y => decide (y.tag = x.tag)) else false
mutual
/-- the places of kids that are like one ahead of them -/
def dupT : Tr → Nat → List Nat
 | .node y ks, a => dupK y.kind ks (a + 1) []
def dupK (kind : Int) : Trs → Nat → List Ex → List Nat
 | .nil, _, _ => []
 | .cons t ts, next, seen => (if dupB kind seen t.top then [next] else []) ++ (dupT t next ++ dupK kind ts (next + t.flat.length) (seen ++ [t.top]))
end
/-- the fault at a node -/
def nodeF (D : List Df) (dup : List Nat) (L : List Ex) (j : Nat) : Option (Int × Int) :=
 if j ∈ dup then some (80, (L.getD j ex0).at_) else if (L.getD j ex0).kind = 9 ∧ whereN D (L.getD j ex0).name = none then some (81, (L.getD j ex0).at_) else none
/-- the fault of a definition -/
def defF (D : List Df) (T : Nat → Tr) (i : Nat) : Option (Int × Int) :=
 if whereN D (D.getD i df0).name = some i then firstN (tyD D i).length (nodeF D (dupT (T i) 0) (tyD D i)) else some (80, (D.getD i df0).at_)
def resF (D : List Df) (T : Nat → Tr) : Option (Int × Int) := firstN D.length (defF D T)
theorem resF_known {D : List Df} {T : Nat → Tr} (h : resF D T = none) : ∀ d ∈ D, ∀ x ∈ d.ty, x.kind = 9 → ∃ i, whereN D x.name = some i := by
 intro d hd x hx h9
 obtain ⟨i, hi, rfl⟩ := List.getElem_of_mem hd
 have h1 := firstN_none h i hi
 unfold defF at h1
 split at h1
 ·obtain ⟨j, hj, rfl⟩ := List.getElem_of_mem hx
  rw [tyD_at hi] at h1
  have h2 := firstN_none h1 j hj
  unfold nodeF at h2
  split at h2
  ·cases h2
  split at h2
  ·cases h2
  rename_i hn
  rw [List.getD_eq_getElem?_getD, List.getElem?_eq_getElem hj, Option.getD_some] at hn
  cases hw : whereN D D[i].ty[j].name with
  | some k => exact ⟨k, rfl⟩
  | none => exact absurd ⟨h9, hw⟩ hn
 cases h1
open Classical in
noncomputable def ringF (D : List Df) : Option (Int × Int) := firstN D.length (fun i => if Relation.TransGen (Us (usesD D)) i i then some (82, (D.getD i df0).at_) else none)
theorem ringF_none {D : List Df} (h : ringF D = none) : ∀ i, i < D.length → ¬ Relation.TransGen (Us (usesD D)) i i := by
 intro i hi ht
 have h1 := firstN_none h i hi
 rw [if_pos ht] at h1
 cases h1
def ordN (D : List Df) : List Nat := orderF D.length (usesD D) D.length []
def whD (D : List Df) (nm : List UInt8) : Nat := (whereN D nm).getD 0
def depN (D : List Df) (T : Nat → Tr) : Nat → Nat := depO (whD D) T (ordN D) (fun _ => 0)
def deepF (D : List Df) (T : Nat → Tr) : Option (Int × Int) := firstN D.length (fun i => if 64 < depN D T i then some (83, (D.getD i df0).at_) else none)
end Go.Proofs.Ytpbflfgigfdohaa
