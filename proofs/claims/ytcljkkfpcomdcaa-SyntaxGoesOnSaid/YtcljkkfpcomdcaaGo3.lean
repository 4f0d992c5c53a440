/-
  Walks and lemmas. Written by program out of specs of mine.
-/
import Derived.WalkKit
import Derived.WalkSpells
import Derived.WalkLawsBesides
import Derived.Deep.Quiet
import Derived.StillTail
import Derived.StringKeys
import Derived.Laws.StructEq
import Derived.Laws.Externs
import Derived.Laws.Tables
import Derived.Scope
import Derived.Test.YtcljkkfpcomdcaaProg
import Derived.Laws.AppendOwn
import Derived.Maps.AppendAt
import Derived.Recover
import Derived.Lib.Bytealg
import Derived.SizedLaws
import Derived.ChangeArms
import Derived.ChangeSlices
import Derived.Test.YtcljkkfpcomdcaaRows
import Derived.ProofKit
import Derived.OpenShut
import Derived.ShutString
import Derived.ChangeOld
import Derived.Below
import Derived.Test.YtcljkkfpcomdcaaGo2
set_option linter.unusedSimpArgs false
set_option linter.unusedVariables false
set_option maxRecDepth 100000
set_option linter.unusedSimpArgs false
set_option linter.unusedVariables false
set_option maxRecDepth 100000
namespace Go.Proofs.Ytcljkkfpcomdcaa
open Go Go.Vc Go.RowKit Go.Proofs

theorem Many.sn {w : World} {B : Nat} {D : List Df} {V : Nat → Value} (h : Many w B 30 7 D.length V (fun j => (tyD D j).length) (fun j => exs (tyD D j))) {F : Nat → Prop} {w' : World} (ho : Only F w w') (hn : ∀ k, F k → k < B) : Many w' B 30 7 D.length V (fun j => (tyD D j).length) (fun j => exs (tyD D j)) :=
  h.only ho (fun j hj k hk hF => by have := (h.lt hj hk).1; have := hn k hF; omega)
theorem defsT_s {T : List Tk} {g i k : Nat} : defsT T (g + 1) i k = (if T.length ≤ i then .ok [] i
    else if k = 256 ∧ isT (tkA T i) 1 [116, 121, 112, 101] = true then .bad 5 i
    else (wantT T i 1 [116, 121, 112, 101]).bind fun _ i => (nameT T i).bind fun s j => (wantT T j 3 [61]).bind fun _ j => (exprT T (T.length + 2) j exM 0).bind fun N j => (wantT T j 3 [59]).bind fun _ j =>
      (defsT T g j (k + 1)).bind fun D j => .ok (⟨s, i, N⟩ :: D) j) := rfl
theorem own_base {w : World} {base base' : Nat} {el : TypeId} {s n : Nat} {v : Value} {xs : List Value} (h : w.ownsRow base el s v n xs) (hb : ∀ k, v.ownBlock = some k → base' ≤ k) : w.ownsRow base' el s v n xs := by
  obtain ⟨hl, h⟩ := h
  rcases h with h | ⟨g, cap, cur, rfl, hb2, r⟩
  · exact ⟨hl, .inl h⟩
  · exact ⟨hl, .inr ⟨g, cap, cur, rfl, hb g rfl, r⟩⟩
theorem Psr.move2 {w w' : World} {B0 p fin at_ c : Nat} {lv : Value} {T : List Tk} (h : Psr w B0 p lv T fin at_) (ho : Only (fun k => k = c) w w') (h1 : ¬ p = c) (h2 : ∀ b, lv.ownBlock = some b → ¬ b = c) : Psr w' B0 p lv T fin at_ :=
  ⟨ho.blk h.cell h1, h.toks.only ho h2, h.off, h.hp, h.le, h.small, Nat.le_trans h.b0 ho.size⟩
theorem dcell_one {s : List UInt8} {a : Int} {v : Value} (h : v.oneCell' = true) : ∀ x ∈ (Value.agg #[st s, .int .i64 a, v]).cells.toList, x.oneCell' = true := by
  intro x hx
  simp [Value.cells] at hx
  rcases hx with rfl | rfl | rfl
  · rfl
  · rfl
  · exact h
theorem cutL_ok : ∀ (xs : List UInt8) (k : Nat), (cutL xs k).2.1 = 0 → (cutL xs k).2.2 = 0 := by
  intro xs k
  induction hn : xs.length - k using Nat.strongRecOn generalizing k with
  | _ n ih =>
    rw [cutL_eq]
    split
    · rename_i hk
      split
      · have h1 := (runL_le (p := nnlB) (k := k + 1) (xs := xs) (by omega)).1
        exact ih (xs.length - runL nnlB xs (k + 1)) (by omega) _ rfl
      · split
        · exact ih (xs.length - (k + 1)) (by omega) _ rfl
        · split
          · rename_i he
            have h1 := oneL_fin xs k hk he
            exact ih (xs.length - (oneL xs k hk).2.fin) (by omega) _ rfl
          · rename_i he
            exact fun h => absurd h he
    · exact fun _ => rfl
theorem cutA_ok {xs : List UInt8} (h : (cutA xs).2.1 = 0) : (cutA xs).2.2 = 0 := by
  unfold cutA at h ⊢
  split at h
  · cases h
  · rename_i h1
    rw [if_neg h1]
    split at h
    · rename_i h2; rw [if_pos h2]; exact cutL_ok _ _ h2
    · rename_i h2; exact absurd h h2
/-- where Parse's body ends -/
def ParseQ (xs : List UInt8) (c2 c3 : Nat) (w0 : World) : Exit → Env → World → Prop
  | .ret, e, w => ∃ (dv : Value) (V : Nat → Value), e 2 = .pointer (some ⟨c2, 0, none⟩) ∧ e 3 = .pointer (some ⟨c3, 0, none⟩) ∧ (parseA xs).2 = (0, 0) ∧ w.heap[c2]? = some (.cells #[dv] 28 (0, 0)) ∧ w.heap[c3]? = some (.cells #[.int .i64 0, .int .i64 0] 49 (0, 0)) ∧ Defs w w0.heap.size (parseA xs).1 dv V ∧ Ext w0 w
  | .panic ch, e, w => ∃ (er j : Nat) (dv y1 y2 : Value), e 2 = .pointer (some ⟨c2, 0, none⟩) ∧ e 3 = .pointer (some ⟨c3, 0, none⟩) ∧ parseA xs = ([], er, plc (cutA xs).1 xs.length j) ∧ ch = [pan er (plc (cutA xs).1 xs.length j)] ∧ w.heap[c2]? = some (.cells #[dv] 28 (0, 0)) ∧ w.heap[c3]? = some (.cells #[y1, y2] 49 (0, 0)) ∧ Ext w0 w
  | _, _, _ => False

set_option maxHeartbeats 2000000 in
theorem parse_spec (xs : List UInt8) (w0 : World) (hlen : xs.length ≤ 9223372036854775807) : Ca Try.prog 19 #[st xs] w0 (fun v w' => ∃ dv V, v = .tuple #[.agg #[dv], .agg (faultV (parseA xs).2.1 (parseA xs).2.2)] ∧ Defs w' w0.heap.size (parseA xs).1 dv V ∧ Ext w0 w') := by
  obtain ⟨BB, hBB⟩ : ∃ B, B = w0.heap.size := ⟨_, rfl⟩
  rw [← hBB]
  refine calls_ofF (l := [st xs]) Try.func19 Try.ntmps19 rfl rfl ?_
  refine WF.seq ?_
  refine WF.of ?_
  refine W.region ?_
  refine WL.c rfl (o_alB TI28 ?_)
  intro w2 hC2 hx2 hs2
  obtain ⟨c2, hc2⟩ : ∃ c, c = w0.heap.size := ⟨_, rfl⟩
  rw [← hc2] at hC2 hs2 ⊢
  refine WL.c rfl (o_alB TI49 ?_)
  intro w3 hC3 hx3 hs3
  obtain ⟨c3, hc3⟩ : ∃ c, c = w2.heap.size := ⟨_, rfl⟩
  rw [← hc3] at hC3 hs3 ⊢
  replace hC2 := hx3.blk hC2 (fun h => h)
  have hx := hx2.tr hx3
  refine WL.nil ?_
  refine WF.seq ?_
  refine WF.of ?_
  refine W.region ?_
  refine WL.c rfl (o_mvh (show _ = Value.string _ from rfl) ?_)
  refine WL.c rfl (o_call Try.call21 (lc rfl ln) ((cut_spec xs _ hlen).mono ?_))
  rintro v9 w9 ⟨v1, rfl, hown, hx9⟩
  replace hC2 := hx9.blk hC2 (fun h => h)
  replace hC3 := hx9.blk hC3 (fun h => h)
  replace hx := hx.tr hx9
  have hs9 := hx9.size
  replace hown : w9.ownsRow w3.heap.size _ 5 v1 (cutA xs).1.length _ := hown
  have hTl := cutA_len xs
  obtain ⟨ta, tc, hv1⟩ : ∃ a c, v1 = .slice a (cutA xs).1.length c := (Sl.own hown).isSlice
  subst hv1
  have hTt := cut_texts xs
  have hPN : ¬ (cutA xs).2.1 = 0 → parseA xs = ([], (cutA xs).2) := fun h => by rw [parseA, if_neg h]
  have hPA : (cutA xs).2.1 = 0 → ∀ e i, defsT (cutA xs).1 ((cutA xs).1.length + 2) 0 0 = .bad e i → parseA xs = ([], e, plc (cutA xs).1 xs.length i) := fun h e i h2 => by rw [parseA, if_pos h, h2]
  have hPO : (cutA xs).2.1 = 0 → ∀ D i, defsT (cutA xs).1 ((cutA xs).1.length + 2) 0 0 = .ok D i → parseA xs = (D.map (plD (cutA xs).1), 0, 0) := fun h D i h2 => by rw [parseA, if_pos h, h2]
  refine WL.c rfl (o_mvh (by first | exact (show _ = Value.tuple _ from rfl) | exact rfl) ?_)
  refine WL.c rfl (o_ext rfl rfl ?_)
  refine WL.c rfl (o_ext rfl rfl ?_)
  refine WL.c rfl (o_ash (by first | exact (show _ = Value.slice _ _ _ from rfl) | exact rfl) ?_)
  refine WL.u (o_stA TI49 rfl (show _ = Value.agg (faultV (cutA xs).2.1 (cutA xs).2.2) from rfl) rfl rfl hC3 rfl ?_)
  intro w5 hC3' ho5 hs5
  replace hC2 := ho5.blk hC2 (show ¬ c2 = c3 by omega)
  replace hC3 : w5.heap[c3]? = some (.cells (faultV (cutA xs).2.1 (cutA xs).2.2) 49 (0, 0)) := hC3'
  replace hx := hx.trans' ho5 (fun _ h => h) (fun k hk he => by omega)
  replace hown := own_only hown ho5 (fun k hk he => by have := (hown.lt k hk).1; omega)
  clear hC3'
  refine WL.nil ?_
  refine WF.seq ?_
  refine WF.seq ?_
  refine WF.of ?_
  refine W.region ?_
  refine WL.c rfl (o_fa 0 TI49 rfl TI32 rfl rfl ?_)
  refine WL.c rfl (o_ld TI32 rfl rfl (cell_of hC3 rfl) ?_)
  refine WL.c rfl (o_ne rfl rfl ?_)
  refine WL.nil ?_
  refine WF.cond rfl (fun c14 => ?_) (fun c14 => ?_)
  · try simp only [decide_eq_true_eq, decide_eq_false_iff_not, Bool.not_eq_true', Bool.not_eq_false', Bool.and_eq_true, Bool.or_eq_true, Bool.and_eq_false_iff, Bool.or_eq_false_iff] at c14
    have hce : ¬ (cutA xs).2.1 = 0 := by omega
    refine WF.seq ?_
    refine WF.of ?_
    refine W.cut (fun e1 w1 => e1 2 = .pointer (some ⟨c2, 0, none⟩) ∧ e1 3 = .pointer (some ⟨c3, 0, none⟩) ∧ w1.heap[c2]? = some (.cells #[.slice none 0 0] 28 (0, 0)) ∧ w1.heap[c3]? = some (.cells (faultV (cutA xs).2.1 (cutA xs).2.2) 49 (0, 0)) ∧ Ext w0 w1) ?_ ?_
    · -- region 3
      refine W.enum rfl ?_
      have hdr := Only.drew w5
      replace hown := own_ext hown hdr
      replace hC2 := hdr.blk hC2 (fun h => h)
      replace hC3 := hdr.blk hC3 (fun h => h)
      replace hx := hx.tr hdr
      clear hdr
      generalize w5.drew = wd at *
      refine WA.step (r := [0, 1]) (by kernel_rfl) (by decide) (all2 ?_ ?_)
      · skip
        refine WO.c rfl rfl (o_bldC (cs := [(.slice none 0 0)]) TI28 (Sizes.cons TI26 Sizes.nil) rfl lnp rfl rfl ?_)
        refine WA.step (r := [1, 2]) (by kernel_rfl) (by decide) (all2 ?_ ?_)
        · skip
          refine WO.c rfl rfl (o_ldA TI49 rfl rfl (cells_all hC3) rfl ?_)
          refine WA.step (r := [2]) (by kernel_rfl) (by decide) (all1 ?_)
          refine WO.u rfl (o_stA TI28 rfl (show _ = Value.agg #[.slice none 0 0] from rfl) rfl rfl hC2 rfl ?_)
          intro w6 hC2' ho6 hs6
          replace hown := own_only hown ho6 (fun k hk he => by have := (hown.lt k hk).1; omega)
          replace hC3 := ho6.blk hC3 (show ¬ c3 = c2 by omega)
          replace hC2 := hC2'
          replace hx := hx.trans' ho6 (fun _ h => h) (fun k hk he => by omega)
          refine WA.step (r := [3]) (by kernel_rfl) (by decide) (all1 ?_)
          refine WO.u rfl (o_stA TI49 rfl (show _ = Value.agg (faultV (cutA xs).2.1 (cutA xs).2.2) from rfl) rfl rfl hC3 rfl ?_)
          intro w5 hC3' ho5 hs5
          replace hC2 := ho5.blk hC2 (show ¬ c2 = c3 by omega)
          replace hC3 : w5.heap[c3]? = some (.cells (faultV (cutA xs).2.1 (cutA xs).2.2) 49 (0, 0)) := hC3'
          replace hx := hx.trans' ho5 (fun _ h => h) (fun k hk he => by omega)
          replace hown := own_only hown ho5 (fun k hk he => by have := (hown.lt k hk).1; omega)
          clear hC3'
          refine WA.done (by kernel_rfl) ?_
          exact ⟨rfl, rfl, hC2, hC3, hx⟩
        · skip
          refine WO.u rfl (o_stA TI28 rfl (show _ = Value.agg #[.slice none 0 0] from rfl) rfl rfl hC2 rfl ?_)
          intro w6 hC2' ho6 hs6
          replace hown := own_only hown ho6 (fun k hk he => by have := (hown.lt k hk).1; omega)
          replace hC3 := ho6.blk hC3 (show ¬ c3 = c2 by omega)
          replace hC2 := hC2'
          replace hx := hx.trans' ho6 (fun _ h => h) (fun k hk he => by omega)
          refine WA.step (r := [1]) (by kernel_rfl) (by decide) (all1 ?_)
          refine WO.c rfl rfl (o_ldA TI49 rfl rfl (cells_all hC3) rfl ?_)
          refine WA.step (r := [3]) (by kernel_rfl) (by decide) (all1 ?_)
          refine WO.u rfl (o_stA TI49 rfl (show _ = Value.agg (faultV (cutA xs).2.1 (cutA xs).2.2) from rfl) rfl rfl hC3 rfl ?_)
          intro w5 hC3' ho5 hs5
          replace hC2 := ho5.blk hC2 (show ¬ c2 = c3 by omega)
          replace hC3 : w5.heap[c3]? = some (.cells (faultV (cutA xs).2.1 (cutA xs).2.2) 49 (0, 0)) := hC3'
          replace hx := hx.trans' ho5 (fun _ h => h) (fun k hk he => by omega)
          replace hown := own_only hown ho5 (fun k hk he => by have := (hown.lt k hk).1; omega)
          clear hC3'
          refine WA.done (by kernel_rfl) ?_
          exact ⟨rfl, rfl, hC2, hC3, hx⟩
      · skip
        refine WO.c rfl rfl (o_ldA TI49 rfl rfl (cells_all hC3) rfl ?_)
        refine WA.step (r := [0]) (by kernel_rfl) (by decide) (all1 ?_)
        refine WO.c rfl rfl (o_bldC (cs := [(.slice none 0 0)]) TI28 (Sizes.cons TI26 Sizes.nil) rfl lnp rfl rfl ?_)
        refine WA.step (r := [2]) (by kernel_rfl) (by decide) (all1 ?_)
        refine WO.u rfl (o_stA TI28 rfl (show _ = Value.agg #[.slice none 0 0] from rfl) rfl rfl hC2 rfl ?_)
        intro w6 hC2' ho6 hs6
        replace hown := own_only hown ho6 (fun k hk he => by have := (hown.lt k hk).1; omega)
        replace hC3 := ho6.blk hC3 (show ¬ c3 = c2 by omega)
        replace hC2 := hC2'
        replace hx := hx.trans' ho6 (fun _ h => h) (fun k hk he => by omega)
        refine WA.step (r := [3]) (by kernel_rfl) (by decide) (all1 ?_)
        refine WO.u rfl (o_stA TI49 rfl (show _ = Value.agg (faultV (cutA xs).2.1 (cutA xs).2.2) from rfl) rfl rfl hC3 rfl ?_)
        intro w5 hC3' ho5 hs5
        replace hC2 := ho5.blk hC2 (show ¬ c2 = c3 by omega)
        replace hC3 : w5.heap[c3]? = some (.cells (faultV (cutA xs).2.1 (cutA xs).2.2) 49 (0, 0)) := hC3'
        replace hx := hx.trans' ho5 (fun _ h => h) (fun k hk he => by omega)
        replace hown := own_only hown ho5 (fun k hk he => by have := (hown.lt k hk).1; omega)
        clear hC3'
        refine WA.done (by kernel_rfl) ?_
        exact ⟨rfl, rfl, hC2, hC3, hx⟩
    rintro e w ⟨h2, h3, hC2, hC3, hx⟩
    refine WF.of ?_
    refine W.ret ?_
    refine Lv.ret (R := fun v w' => v = .tuple #[.agg #[.slice none 0 0], .agg (faultV (cutA xs).2.1 (cutA xs).2.2)] ∧ w' = w) (retAA rfl TI28 rfl TI49 rfl h2 h3 (show Cells w c2 0 [.slice none 0 0] from Cells.of hC2 0 _ (by simp)) rfl (show Cells w c3 0 (faultV (cutA xs).2.1 (cutA xs).2.2).toList from Cells.of hC3 0 _ (by simp [faultV])) rfl ⟨rfl, rfl⟩) ?_
    rintro v w' ⟨rfl, rfl⟩
    rw [hPN hce]
    exact ⟨.slice none 0 0, fun _ => undef, rfl, Defs.nil _ _ _, hx⟩
  · try simp only [decide_eq_true_eq, decide_eq_false_iff_not, Bool.not_eq_true', Bool.not_eq_false', Bool.and_eq_true, Bool.or_eq_true, Bool.and_eq_false_iff, Bool.or_eq_false_iff] at c14
    have hce : (cutA xs).2.1 = 0 := by omega
    have hPC : (cutA xs).2.2 = 0 := cutA_ok hce
    have hC30 : w5.heap[c3]? = some (.cells #[.int .i64 0, .int .i64 0] 49 (0, 0)) := by rw [hce, hPC] at hC3; exact hC3
    clear hC3
    have hC3 := hC30
    refine WF.of ?_
    refine W.skip ?_
    refine WF.seq ?_
    refine WF.region ?_
    refine WLF.c rfl (o_mkF (lc rfl (lc rfl ln)) ?_)
    refine WLF.d rfl ?_
    refine WLF.nil ?_
    refine WF.of ?_
    refine W.mono (Q' := ParseQ xs c2 c3 w0) ?_ ?_
    rotate_left
    · rintro x e w hq
      cases x with
      | ret =>
        obtain ⟨dv, V, g2, g3, gA, gC2, gC3, gD, gx⟩ := hq
        refine Lv.one Try.call30 (by simp) (S := fun u2 w' => u2 = .returning ∧ w' = w) ((parse1_ret c2 c3 w).mono (fun en u w' h => by cases en <;> exact h)) ?_
        rintro u' w11 ⟨rfl, rfl⟩
        refine Lv.ret (R := fun v w' => v = .tuple #[.agg #[dv], .agg #[.int .i64 0, .int .i64 0]] ∧ w' = w11) (retAA rfl TI28 rfl TI49 rfl g2 g3 (show Cells w11 c2 0 [dv] from Cells.of gC2 0 _ (by simp)) rfl (show Cells w11 c3 0 [.int .i64 0, .int .i64 0] from Cells.of gC3 0 _ (by simp)) rfl ⟨rfl, rfl⟩) ?_
        rintro v w' ⟨rfl, rfl⟩
        exact ⟨dv, V, by rw [gA]; rfl, by rw [hBB]; exact gD, gx⟩
      | panic ch =>
        obtain ⟨er, j, dv, y1, y2, g2, g3, gA, rfl, gC2, gC3, gx⟩ := hq
        refine Lv.one Try.call30 (by simp) (S := fun u2 w' => u2 = .panicking [{ pan er (plc (cutA xs).1 xs.length j) with recovered := true }] ∧ (w'.heap[c2]? = some (.cells #[.slice none 0 0] 28 (0, 0)) ∧ w'.heap[c3]? = some (.cells #[.int .i64 (er : Int), .int .i64 (plc (cutA xs).1 xs.length j : Int)] 49 (0, 0)) ∧ Only (fun k => k = c2 ∨ k = c3) w w')) ((parse1_panic c2 c3 er (plc (cutA xs).1 xs.length j) _ _ _ w gC2 gC3).mono (fun en u w' h => by cases en <;> exact h)) ?_
        rintro u' w9 ⟨rfl, hB2, hB3, ho9⟩
        refine Lv.ret (R := fun v w' => v = .tuple #[.agg #[.slice none 0 0], .agg #[.int .i64 (er : Int), .int .i64 (plc (cutA xs).1 xs.length j : Int)]] ∧ w' = w9) (retAA rfl TI28 rfl TI49 rfl g2 g3 (show Cells w9 c2 0 [.slice none 0 0] from Cells.of hB2 0 _ (by simp)) rfl (show Cells w9 c3 0 [.int .i64 (er : Int), .int .i64 (plc (cutA xs).1 xs.length j : Int)] from Cells.of hB3 0 _ (by simp)) rfl ⟨rfl, rfl⟩) ?_
        rintro v w' ⟨rfl, rfl⟩
        rw [gA]
        exact ⟨.slice none 0 0, fun _ => undef, rfl, Defs.nil _ _ _, gx.trans' ho9 (fun _ h => h) (fun k hk hF => by omega)⟩
      | _ => exact hq.elim
    refine W.seq ?_
    refine W.region ?_
    refine WL.c rfl (o_mvh (by first | exact (show _ = Value.slice _ _ _ from rfl) | exact rfl) ?_)
    refine WL.c rfl (o_mvh (show _ = Value.string _ from rfl) ?_)
    refine WL.c rfl (o_lenT TI9 rfl ?_)
    refine WL.c rfl (o_bldC (cs := [_, (.int .i64 0), _]) TI77 (Sizes.cons TI54 (Sizes.cons TI3 (Sizes.cons TI3 Sizes.nil))) rfl (lcp (show _ = Value.slice ta (cutA xs).1.length tc from rfl) (lcp (show _ = Value.int _ _ from rfl) lnp)) rfl rfl ?_)
    refine WL.c rfl (o_boxB rfl ?_)
    intro w22 hC22 hx22 hs22
    obtain ⟨p, hp⟩ : ∃ c, c = w5.heap.size := ⟨_, rfl⟩
    rw [← hp] at hC22 hs22 ⊢
    replace hC22 : w22.heap[p]? = some (.cells #[.slice ta (cutA xs).1.length tc, .int .i64 ((0 : Nat) : Int), .int .i64 (xs.length : Int)] 77 (0, 0)) := hC22
    have h5s : w5.heap.size = w9.heap.size := hs5
    obtain ⟨B, hB⟩ : ∃ B, B = p + 1 := ⟨_, rfl⟩
    have h : Psr w22 B p (.slice ta (cutA xs).1.length tc) (cutA xs).1 xs.length 0 := ⟨hC22, Sl.ext (Sl.own hown) hx22, fun b hb => by have := (hown.lt b hb).2; omega, by omega, Nat.zero_le _, by omega, by omega⟩
    replace hC2 := hx22.blk hC2 (fun h => h)
    replace hC3 := hx22.blk hC3 (fun h => h)
    replace hx := hx.tr hx22
    have hc2p : ¬ c2 = p := by omega
    have hc3p : ¬ c3 = p := by omega
    have hfu : ∀ k, k < w9.heap.size → ¬ B ≤ k := fun k hk => by omega
    have hBw : w0.heap.size ≤ B := by omega
    refine WL.c rfl (o_ash (by first | exact (show _ = Value.pointer _ from rfl) | exact rfl) ?_)
    refine WL.nil ?_
    refine W.seq ?_
    refine W.block ?_
    refine W.loopN (fun g e w => ∃ (i : Nat) (D : List Df) (dv : Value) (V : Nat → Value), e 2 = .pointer (some ⟨c2, 0, none⟩) ∧ e 3 = .pointer (some ⟨c3, 0, none⟩) ∧ e 5 = .pointer (some ⟨p, 0, none⟩) ∧ Psr w B p (.slice ta (cutA xs).1.length tc) (cutA xs).1 xs.length i ∧ w.heap[c2]? = some (.cells #[dv] 28 (0, 0)) ∧ w.heap[c3]? = some (.cells #[.int .i64 0, .int .i64 0] 49 (0, 0)) ∧ Defs w B (D.map (plD (cutA xs).1)) dv V ∧ D.length ≤ i ∧ (cutA xs).1.length + 2 ≤ g + i ∧ defsT (cutA xs).1 ((cutA xs).1.length + 2) 0 0 = ((defsT (cutA xs).1 g i D.length).bind fun D' j => .ok (D ++ D') j) ∧ Ext w0 w) ?_ ?_
    · refine ⟨(cutA xs).1.length + 2, 0, [], .slice none 0 0, fun _ => undef, rfl, rfl, rfl, h, hC2, hC3, Defs.nil _ _ _, Nat.le_refl _, Nat.le_refl _, ?_, hx⟩
      cases defsT (cutA xs).1 ((cutA xs).1.length + 2) 0 0 <;> simp [Pr.bind]
    rintro g e w ⟨i, D, dv, V, h2, h3, h5, h, hC2, hC3, hD, hDi, hgi, hres, hx⟩
    refine W.seq ?_
    refine W.seq ?_
    refine W.quiet rfl (by kernel_rfl) ?_
    refine WQ.c rfl ((QO.o rfl fun _ => o_mvh h5 ⟨rfl, rfl⟩)) ?_
    refine WQ.c rfl ((QO.r fun _ => r_nil rfl)) ?_
    refine WQ.c rfl ((QO.o rfl fun _ => o_fa 1 TI77 rfl TI3 rfl rfl ⟨rfl, rfl⟩)) ?_
    refine WQ.c rfl ((QO.o rfl fun _ => o_ld TI3 rfl rfl (cell_of h.cell rfl) ⟨rfl, rfl⟩)) ?_
    refine WQ.c rfl ((QO.o rfl fun _ => o_mvh h5 ⟨rfl, rfl⟩)) ?_
    refine WQ.c rfl ((QO.r fun _ => r_nil rfl)) ?_
    refine WQ.c rfl ((QO.o rfl fun _ => o_fa 0 TI77 rfl TI54 rfl rfl ⟨rfl, rfl⟩)) ?_
    refine WQ.c rfl ((QO.o rfl fun _ => o_ld TI54 rfl rfl (cell_of h.cell rfl) ⟨rfl, rfl⟩)) ?_
    refine WQ.c rfl ((QO.r fun _ => r_lenR TI54 rfl h.toks)) ?_
    refine WQ.c rfl ((QO.o rfl fun _ => o_lt rfl rfl ⟨rfl, rfl⟩)) ?_
    refine WQ.nil ?_
    intro nq
    have hxq := Only.drewN w nq
    replace h := h.ext hxq
    replace hC2 := hxq.blk hC2 (fun h => h)
    replace hC3 := hxq.blk hC3 (fun h => h)
    replace hD := hD.ext hxq
    replace hx := hx.tr hxq
    clear hxq
    generalize w.drewN nq = wq at *
    refine W.cond rfl (fun c32 => ?_) (fun c32 => ?_)
    · try simp only [decide_eq_true_eq, decide_eq_false_iff_not, Bool.not_eq_true', Bool.not_eq_false', Bool.and_eq_true, Bool.or_eq_true, Bool.and_eq_false_iff, Bool.or_eq_false_iff] at c32
      have hil : i < (cutA xs).1.length := by omega
      obtain ⟨g, rfl⟩ : ∃ g', g = g' + 1 := ⟨g - 1, by omega⟩
      refine W.skip ?_
      refine W.block ?_
      refine W.seq ?_
      refine W.seq ?_
      refine W.region ?_
      refine WL.cut (fun e1 w1 => e1 2 = .pointer (some ⟨c2, 0, none⟩) ∧ e1 3 = .pointer (some ⟨c3, 0, none⟩) ∧ e1 5 = .pointer (some ⟨p, 0, none⟩) ∧ e1 40 = .bool (decide (D.length = 256 ∧ isT (tkA (cutA xs).1 i) 1 [116, 121, 112, 101] = true)) ∧ Ext wq w1) ?_ ?_
      · -- region 7
        refine WL.c rfl (o_fa 0 TI28 rfl TI26 rfl h2 ?_)
        refine WL.c rfl (o_ld TI26 rfl rfl (cell_of hC2 rfl) ?_)
        refine WL.c rfl (o_lenR TI26 rfl (Sl.own hD.row) ?_)
        refine WL.c rfl (o_eq rfl rfl ?_)
        refine WL.c rfl (o_mvh (show _ = Value.bool _ from rfl) ?_)
        refine WL.sp 4 rfl (fun g37 => ?_) (fun g37 => ?_)
        · skip
          refine WL.g rfl (g37) rfl (o_mvh h5 ?_)
          refine WL.g rfl (g37) rfl (o_call Try.call31 (lc rfl (lc rfl (lc rfl ln))) ((is_spec B p (.slice ta (cutA xs).1.length tc) (cutA xs).1 xs.length i _ h 1 [116, 121, 112, 101]).mono ?_))
          rintro v39 w39 ⟨rfl, hx39⟩
          refine WL.c rfl (o_pickA rfl rfl ?_)
          exact WL.nil (⟨h2, h3, h5, congrArg Value.bool (by rw [List.length_map] at g37; rw [Bool.eq_iff_iff]; simp_all <;> omega), by first | exact hx39 | exact Only.refl _ _⟩)
        · skip
          refine WL.s rfl (g37) rfl ?_
          refine WL.s rfl (g37) rfl ?_
          refine WL.c rfl (o_pickF rfl (g37) ?_)
          exact WL.nil (⟨h2, h3, h5, congrArg Value.bool (by rw [List.length_map] at g37; rw [Bool.eq_iff_iff]; simp_all <;> omega), by first | exact hx39 | exact Only.refl _ _⟩)
      rintro e w ⟨h2, h3, h5, h40, hx7⟩
      replace h := h.ext hx7
      replace hC2 := hx7.blk hC2 (fun h => h)
      replace hC3 := hx7.blk hC3 (fun h => h)
      replace hD := hD.ext hx7
      replace hx := hx.tr hx7
      refine W.cond h40 (fun c40 => ?_) (fun c40 => ?_)
      · try simp only [decide_eq_true_eq, decide_eq_false_iff_not, Bool.not_eq_true', Bool.not_eq_false', Bool.and_eq_true, Bool.or_eq_true, Bool.and_eq_false_iff, Bool.or_eq_false_iff] at c40
        have hnm : D.length = 256 ∧ isT (tkA (cutA xs).1 i) 1 [116, 121, 112, 101] = true := by simpa using c40
        refine W.region ?_
        refine WL.c rfl (o_mvh h5 ?_)
        refine WL.cx rfl (ox_call Try.call32 (lc rfl (lc rfl ln)) ((fails_spec B p (.slice ta (cutA xs).1.length tc) (cutA xs).1 xs.length i _ h 5).mono ?_ (fun ch w' hh => by obtain ⟨g2, g3⟩ := hh; exact ⟨5, i, dv, _, _, h2, h3, hPA hce _ _ (by rw [hres, defsT_s, if_neg (by omega), if_pos hnm]; rfl), g2, g3.blk hC2 (fun h => h), g3.blk hC3 (fun h => h), hx.tr g3⟩)))
        exact fun _ _ hf => hf.elim
      · try simp only [decide_eq_true_eq, decide_eq_false_iff_not, Bool.not_eq_true', Bool.not_eq_false', Bool.and_eq_true, Bool.or_eq_true, Bool.and_eq_false_iff, Bool.or_eq_false_iff] at c40
        have hnm : ¬ (D.length = 256 ∧ isT (tkA (cutA xs).1 i) 1 [116, 121, 112, 101] = true) := by simpa using c40
        refine W.skip ?_
        refine W.seq ?_
        refine W.region ?_
        refine WL.c rfl (o_mvh h5 ?_)
        refine WL.cx rfl (ox_call Try.call33 (lc rfl (lc rfl (lc rfl ln))) ((want_spec B p (.slice ta (cutA xs).1.length tc) (cutA xs).1 xs.length i _ h 1 (by decide) [116, 121, 112, 101]).mono ?_ (fun ch w' hh => by obtain ⟨er, j, g1, g2, g3⟩ := hh; exact ⟨er, j, dv, _, _, h2, h3, hPA hce _ _ (by rw [hres, defsT_s, if_neg (by omega), if_neg hnm, g1]; rfl), g2, g3.blk hC2 (fun h => h), g3.blk hC3 (fun h => h), hx.tr g3⟩)))
        rintro v44 w44 ⟨hw1, h', ho⟩
        replace h := h'
        replace hC2 := ho.blk hC2 hc2p
        replace hC3 := ho.blk hC3 hc3p
        replace hD := hD.only ho (fun k hk he => by have := (hD.lt k hk).1; omega)
        replace hx := hx.trans' ho (fun _ h => h) (fun k hk he => by omega)
        refine WL.nil ?_
        refine W.seq ?_
        refine W.region ?_
        refine WL.c rfl (o_mvh h5 ?_)
        refine WL.c rfl (o_call Try.call34 (lc rfl ln) ((place_spec B p (.slice ta (cutA xs).1.length tc) (cutA xs).1 xs.length (i + 1) _ h).mono ?_))
        rintro v46 w46 ⟨rfl, hx46⟩
        replace h := h.ext hx46
        replace hC2 := hx46.blk hC2 (fun h => h)
        replace hC3 := hx46.blk hC3 (fun h => h)
        replace hD := hD.ext hx46
        replace hx := hx.tr hx46
        have hp46 := (Array.getElem?_eq_some_iff.1 h.cell).1
        have hc246 := (Array.getElem?_eq_some_iff.1 hC2).1
        have hc346 := (Array.getElem?_eq_some_iff.1 hC3).1
        have hx46s := hx.size
        have hD46 := hD
        refine WL.c rfl (o_bldC (cs := [(.string ⟨#[]⟩), _, (.slice none 0 0)]) TI40 (Sizes.cons TI9 (Sizes.cons TI3 (Sizes.cons TI38 Sizes.nil))) rfl (lcp (show _ = Value.int _ _ from rfl) lnp) rfl rfl ?_)
        refine WL.c rfl (o_alB TI40 ?_)
        intro wa hCa hxa hsa
        refine WL.u (o_stA TI40 rfl (show _ = Value.agg #[st [], .int .i64 (plc (cutA xs).1 xs.length (i + 1) : Int), .slice none 0 0] from rfl) rfl rfl hCa rfl ?_)
        intro wb hC6 hob hsb
        have hxb := Ext.own hxa (Nat.le_refl _) hob
        clear hCa hxa hob
        replace h := h.ext hxb
        replace hC2 := hxb.blk hC2 (fun h => h)
        replace hC3 := hxb.blk hC3 (fun h => h)
        replace hD := hD.ext hxb
        replace hx := hx.tr hxb
        obtain ⟨c6, hc6⟩ : ∃ c, c = w46.heap.size := ⟨_, rfl⟩
        rw [← hc6] at hC6 ⊢
        have hc6p : ¬ c6 = p := by omega
        have hc26 : ¬ c2 = c6 := by omega
        have hc36 : ¬ c3 = c6 := by omega
        have hc6B : B ≤ c6 := by omega
        have hDc6 : ∀ k, DF dv V (D.map (plD (cutA xs).1)).length k → ¬ k = c6 := fun k hk he => by have := (hD46.lt k hk).2; omega
        refine WL.nil ?_
        refine W.seq ?_
        refine W.region ?_
        refine WL.c rfl (o_mvh h5 ?_)
        refine WL.cx rfl (ox_call Try.call35 (lc rfl ln) ((namep_spec B p (.slice ta (cutA xs).1.length tc) (cutA xs).1 xs.length (i + 1) _ h (hTt _)).mono ?_ (fun ch w' hh => by obtain ⟨er, j, g1, g2, g3⟩ := hh; exact ⟨er, j, dv, _, _, h2, h3, hPA hce _ _ (by rw [hres, defsT_s, if_neg (by omega), if_neg hnm, hw1, Pr.bind_ok, g1]; rfl), g2, g3.blk hC2 (fun h => h), g3.blk hC3 (fun h => h), hx.tr g3⟩)))
        rintro v49 w49 ⟨sn, hw2, rfl, h', ho⟩
        replace h := h'
        replace hC2 := ho.blk hC2 hc2p
        replace hC3 := ho.blk hC3 hc3p
        replace hD := hD.only ho (fun k hk he => by have := (hD.lt k hk).1; omega)
        replace hC6 := ho.blk hC6 hc6p
        replace hx := hx.trans' ho (fun _ h => h) (fun k hk he => by omega)
        have hnl : i + 1 < (cutA xs).1.length := by have := h.le; omega
        refine WL.c rfl (o_fa 0 TI40 rfl TI9 rfl rfl ?_)
        refine WL.u (o_stB TI9 rfl (show _ = Value.string _ from rfl) rfl hC6 (show 0 < 3 by decide) ?_)
        intro w50 hC6' ho6 hs6
        replace hC6 : w50.heap[c6]? = some (.cells #[st sn, .int .i64 (plc (cutA xs).1 xs.length (i + 1) : Int), .slice none 0 0] 40 (0, 0)) := hC6'
        clear hC6'
        replace h := h.keep ho6 (fun k hk => by omega)
        replace hC2 := ho6.blk hC2 hc26
        replace hC3 := ho6.blk hC3 hc36
        replace hD := hD.only ho6 hDc6
        replace hx := hx.trans' ho6 (fun _ h => h) (fun k hk he => by omega)
        refine WL.nil ?_
        refine W.seq ?_
        refine W.region ?_
        refine WL.c rfl (o_mvh h5 ?_)
        refine WL.cx rfl (ox_call Try.call36 (lc rfl (lc rfl ln)) ((mark_spec B p (.slice ta (cutA xs).1.length tc) (cutA xs).1 xs.length (i + 1 + 1) _ h [61]).mono ?_ (fun ch w' hh => by obtain ⟨er, j, g1, g2, g3⟩ := hh; exact ⟨er, j, dv, _, _, h2, h3, hPA hce _ _ (by rw [hres, defsT_s, if_neg (by omega), if_neg hnm, hw1, Pr.bind_ok, hw2, Pr.bind_ok, g1]; rfl), g2, g3.blk hC2 (fun h => h), g3.blk hC3 (fun h => h), hx.tr g3⟩)))
        rintro v52 w52 ⟨hw3, h', ho⟩
        replace h := h'
        replace hC2 := ho.blk hC2 hc2p
        replace hC3 := ho.blk hC3 hc3p
        replace hD := hD.only ho (fun k hk he => by have := (hD.lt k hk).1; omega)
        replace hC6 := ho.blk hC6 hc6p
        replace hx := hx.trans' ho (fun _ h => h) (fun k hk he => by omega)
        refine WL.nil ?_
        refine W.seq ?_
        refine W.region ?_
        refine WL.c rfl (o_mvh h5 ?_)
        refine WL.c rfl (o_bldC (cs := [(.int .i64 0), (.int .i64 0), (.string ⟨#[]⟩), (.string ⟨#[]⟩), (.int .i64 0), (.int .i64 0), (.int .i64 (-1))]) TI30 (Sizes.cons TI3 (Sizes.cons TI3 (Sizes.cons TI9 (Sizes.cons TI9 (Sizes.cons TI3 (Sizes.cons TI3 (Sizes.cons TI3 Sizes.nil))))))) rfl (lcp (show _ = Value.int _ _ from rfl) lnp) rfl rfl ?_)
        have hE2 := expr_spec (B0 := B) (p := p) (lv := .slice ta (cutA xs).1.length tc) (fin := xs.length) hTt ((cutA xs).1.length + 2) 0 0 (by omega) (by omega) (i + 1 + 1 + 1) exM [] (.slice none 0 0) _ (Nat.zero_le _) rfl h (World.ownsRow_nil _ _ _ _) (Nat.zero_le _)
        rw [plE_exM] at hE2
        have hs55 := hx.size
        have hD55 := hD
        have h55b := h.b0
        have hnil : True := trivial
        refine WL.cx rfl (ox_call Try.call37 (lc rfl (lc rfl (lc rfl (lc rfl ln)))) ((hE2).mono ?_ (fun ch w' hh => by obtain ⟨er, j, g1, g2, g3⟩ := hh; replace g1 : exprT (cutA xs).1 ((cutA xs).1.length + 2) (i + 1 + 1 + 1) exM 0 = .bad er j := g1; replace g3 : Only (fun k => k = p) _ w' := g3.mono (fun k _ hk => by rcases hk with hk | hk; exact hk; cases hk); exact ⟨er, j, dv, _, _, h2, h3, hPA hce _ _ (by rw [hres, defsT_s, if_neg (by omega), if_neg hnm, hw1, Pr.bind_ok, hw2, Pr.bind_ok, hw3, Pr.bind_ok, g1]; rfl), g2, g3.blk hC2 hc2p, g3.blk hC3 hc3p, hx.trans' g3 (fun _ h => h) (fun k hk he => by omega)⟩)))
        rintro v55 w55 ⟨N, j, hN, hty, hNl, hij, hvb, h', ho0⟩
        replace hN : exprT (cutA xs).1 ((cutA xs).1.length + 2) (i + 1 + 1 + 1) exM 0 = .ok N j := hN
        have ho : Only (fun k => k = p) _ w55 := ho0.mono (fun k _ hk => by rcases hk with hk | hk; exact hk; cases hk)
        clear ho0
        have hvb2 : ∀ k, v55.ownBlock = some k → w52.heap.size ≤ k := fun k hk => by rcases hvb k hk with h1 | h1; cases h1; exact h1
        replace hty := own_base hty hvb2
        have hc652 := (Array.getElem?_eq_some_iff.1 hC6).1
        replace h := h'
        replace hC2 := ho.blk hC2 hc2p
        replace hC3 := ho.blk hC3 hc3p
        replace hD := hD.only ho (fun k hk he => by have := (hD.lt k hk).1; omega)
        replace hC6 := ho.blk hC6 hc6p
        replace hx := hx.trans' ho (fun _ h => h) (fun k hk he => by omega)
        refine WL.c rfl (o_fa 2 TI40 rfl TI38 rfl rfl ?_)
        refine WL.u (o_stB TI38 rfl (show _ = v55 from rfl) (own_one hty) hC6 (show 2 < 3 by decide) ?_)
        intro w56 hC6' ho6 hs6
        replace hC6 : w56.heap[c6]? = some (.cells #[st sn, .int .i64 (plc (cutA xs).1 xs.length (i + 1) : Int), v55] 40 (0, 0)) := hC6'
        clear hC6'
        replace h := h.keep ho6 (fun k hk => by omega)
        replace hC2 := ho6.blk hC2 hc26
        replace hC3 := ho6.blk hC3 hc36
        replace hD := hD.only ho6 hDc6
        replace hx := hx.trans' ho6 (fun _ h => h) (fun k hk he => by omega)
        replace hty := own_only hty ho6 (fun k hk he => by have := hvb2 k hk; omega)
        refine WL.nil ?_
        refine W.seq ?_
        refine W.region ?_
        refine WL.c rfl (o_mvh h5 ?_)
        refine WL.cx rfl (ox_call Try.call36 (lc rfl (lc rfl ln)) ((mark_spec B p (.slice ta (cutA xs).1.length tc) (cutA xs).1 xs.length j _ h [59]).mono ?_ (fun ch w' hh => by obtain ⟨er, j, g1, g2, g3⟩ := hh; exact ⟨er, j, dv, _, _, h2, h3, hPA hce _ _ (by rw [hres, defsT_s, if_neg (by omega), if_neg hnm, hw1, Pr.bind_ok, hw2, Pr.bind_ok, hw3, Pr.bind_ok, hN, Pr.bind_ok, g1]; rfl), g2, g3.blk hC2 (fun h => h), g3.blk hC3 (fun h => h), hx.tr g3⟩)))
        rintro v58 w58 ⟨hw4, h', ho⟩
        replace hty := own_only hty ho (fun k hk he => by have := hvb2 k hk; omega)
        replace h := h'
        replace hC2 := ho.blk hC2 hc2p
        replace hC3 := ho.blk hC3 hc3p
        replace hD := hD.only ho (fun k hk he => by have := (hD.lt k hk).1; omega)
        replace hC6 := ho.blk hC6 hc6p
        replace hx := hx.trans' ho (fun _ h => h) (fun k hk he => by omega)
        refine WL.nil ?_
        refine W.region ?_
        refine WL.c rfl (o_fa 0 TI28 rfl TI26 rfl h2 ?_)
        refine WL.c rfl (o_ld TI26 rfl rfl (cell_of hC2 rfl) ?_)
        refine WL.c rfl (o_ldA TI40 rfl rfl (show Cells _ c6 0 [st sn, .int .i64 (plc (cutA xs).1 xs.length (i + 1) : Int), v55] from Cells.of hC6 0 _ (by simp)) rfl ?_)
        have hty1 := own_one hty
        refine WL.apO (B) rfl rfl TI26 TI40 rfl rfl hD.row (by decide) (by decide) rfl (dcell_one hty1) rfl (by rw [maxLen_eq, List.length_map]; omega) (by rw [List.length_map]; omega) (by have := h.b0; omega) ?_
        intro v63 w63 hown1 ho63 hob63 _
        replace hob63 : v63.ownBlock = dv.ownBlock ∨ _ := hob63
        replace ho63 : Only (fun k => dv.ownBlock = some k) _ _ := ho63
        have hdl : ∀ k, dv.ownBlock = some k → B ≤ k := fun k hk => (hD.row.lt k hk).1
        replace h := h.keep ho63 (fun k hk => by have := hdl k hk; omega)
        replace hC3 := ho63.blk hC3 (fun hk => by have := hdl _ hk; omega)
        have hC2o := hC2
        replace hC2 := ho63.blk hC2 (fun hk => by have := hdl _ hk; omega)
        have htys := hD.tys.only ho63 (fun j hj k hk hF => own_row_off hD.row (hD.tys.row j hj) (by decide) k hk hF)
        replace hty := own_only hty ho63 (fun k hk hF => own_row_off hD.row hty (by decide) k hk hF)
        replace hx := hx.trans' ho63 (fun _ h => h) (fun k hk hF => by have := hdl k hF; omega)
        have hV55 : ∀ j, j < (D.map (plD (cutA xs).1)).length → ∀ k, (V j).ownBlock = some k → k < w52.heap.size := fun j hj k hk => (hD55.tys.lt hj hk).2
        have hB52 : B ≤ w52.heap.size := by have := h55b; omega
        have hpd : dcell (plD (cutA xs).1 ⟨sn, ((i + 1 : Nat) : Int), N⟩) v55 = [st sn, .int .i64 (plc (cutA xs).1 xs.length (i + 1) : Int), v55] := by rw [plc_lt hnl]; rfl
        have hDn := Defs.snoc (d := plD (cutA xs).1 ⟨sn, ((i + 1 : Nat) : Int), N⟩) (by rw [hpd]; exact hown1) htys hty hB52 hV55
        have h63c : ¬ v63.ownBlock = some c2 := own_off hown1 hC2 (by decide)
        refine WL.c rfl (o_fa 0 TI28 rfl TI26 rfl h2 ?_)
        refine WL.u (o_stB TI26 rfl (show _ = v63 from rfl) (own_one hown1) hC2 (show 0 < 1 by decide) ?_)
        intro w64 hC2' ho64 hs64
        replace hC2 : w64.heap[c2]? = some (.cells #[v63] 28 (0, 0)) := hC2'
        replace hC3 := ho64.blk hC3 (show ¬ c3 = c2 by omega)
        replace h := h.move2 ho64 (show ¬ p = c2 by omega) (fun b hb => by have := (hown.lt b hb).1; omega)
        have hDm := hDn.only ho64 (fun k hk he => by have := (hDn.lt k hk).1; omega)
        replace hx := hx.trans' ho64 (fun _ h => h) (fun k hk he => by omega)
        refine WL.nil ?_
        refine ⟨g, by omega, j + 1, D ++ [⟨sn, ((i + 1 : Nat) : Int), N⟩], v63, _, h2, h3, h5, h, hC2, hC3, (by rw [List.map_append, List.map_singleton]; exact hDm), by rw [List.length_append, List.length_singleton]; omega, by omega, ?_, hx⟩
        rw [hres, defsT_s, if_neg (by omega), if_neg hnm, hw1, Pr.bind_ok, hw2, Pr.bind_ok, hw3, Pr.bind_ok, hN, Pr.bind_ok, hw4, Pr.bind_ok, List.length_append, List.length_singleton]
        cases defsT (cutA xs).1 g (j + 1) (D.length + 1) <;> simp [Pr.bind]
    · try simp only [decide_eq_true_eq, decide_eq_false_iff_not, Bool.not_eq_true', Bool.not_eq_false', Bool.and_eq_true, Bool.or_eq_true, Bool.and_eq_false_iff, Bool.or_eq_false_iff] at c32
      have hil : (cutA xs).1.length ≤ i := by omega
      obtain ⟨g, rfl⟩ : ∃ g', g = g' + 1 := ⟨g - 1, by have := h.le; omega⟩
      have hfin := hPO hce _ _ (hres.trans (by rw [defsT_s, if_pos hil]; rfl))
      refine W.exit ?_
      refine W.seq ?_
      refine W.region ?_
      refine WL.c rfl (o_ldA TI28 rfl h2 (show Cells _ c2 0 [dv] from Cells.of hC2 0 _ (by simp)) rfl ?_)
      refine WL.c rfl (o_bldC (cs := [(.int .i64 0), (.int .i64 0)]) TI49 (Sizes.cons TI32 (Sizes.cons TI3 Sizes.nil)) rfl lnp rfl rfl ?_)
      refine WL.u (o_stA TI28 h2 (show _ = Value.agg #[dv] from rfl) rfl (by simp [own_one hD.row]) hC2 rfl ?_)
      intro wa hC2' hoa hsa
      replace hC3 := hoa.blk hC3 (show ¬ c3 = c2 by omega)
      replace hD := hD.only hoa (fun k hk he => by have := (hD.lt k hk).1; omega)
      replace hx := hx.trans' hoa (fun _ h => h) (fun k hk he => by omega)
      refine WL.u (o_stA TI49 h3 (show _ = Value.agg #[.int .i64 0, .int .i64 0] from rfl) rfl rfl hC3 rfl ?_)
      intro wb hC3' hob hsb
      replace hC2 := hob.blk hC2' (show ¬ c2 = c3 by omega)
      replace hD := hD.only hob (fun k hk he => by have := (hD.lt k hk).1; omega)
      replace hx := hx.trans' hob (fun _ h => h) (fun k hk he => by omega)
      refine WL.nil ?_
      refine W.ret ?_
      rw [List.append_nil] at hfin
      exact ⟨dv, V, h2, h3, by rw [hfin], hC2, hC3', by rw [hfin]; exact hD.mono hBw, hx⟩
end Go.Proofs.Ytcljkkfpcomdcaa

set_option linter.unusedSimpArgs false
set_option linter.unusedVariables false
set_option maxRecDepth 100000
namespace Go.Proofs.Ytcljkkfpcomdcaa
open Go Go.Vc Go.RowKit Go.Proofs

theorem sub_length {xs : List UInt8} {l h : Nat} (hh : h ≤ xs.length) : (sub xs l h).length = h - l := by unfold sub; simp; omega
def Asc (lo : Nat) : List Tk → Prop
  | [] => True
  | t :: ts => lo ≤ t.at_ ∧ t.at_ < t.fin ∧ Asc t.fin ts
theorem oneL_at {xs : List UInt8} {k : Nat} {h : k < xs.length} (he : (oneL xs k h).1 = 0) : (oneL xs k h).2.at_ = k := by
  unfold oneL at he ⊢
  repeat' split
  all_goals first | rfl | skip
theorem cutL_asc (xs : List UInt8) : ∀ k, Asc k (cutL xs k).1 ∧ ∀ t ∈ (cutL xs k).1, ∃ h : t.at_ < xs.length, oneL xs t.at_ h = (0, t) := by
  intro k
  induction hn : xs.length - k using Nat.strongRecOn generalizing k with
  | _ n ih =>
    have asc_le : ∀ {a b : Nat} {l : List Tk}, a ≤ b → Asc b l → Asc a l := fun {a b l} hab h => by
      cases l with
      | nil => trivial
      | cons t ts => exact ⟨Nat.le_trans hab h.1, h.2⟩
    rw [cutL_eq]
    split
    · rename_i hk
      split
      · have h1 := (runL_le (p := nnlB) (k := k + 1) (xs := xs) (by omega)).1
        have h2 := ih (xs.length - runL nnlB xs (k + 1)) (by omega) _ rfl
        exact ⟨asc_le (by omega) h2.1, h2.2⟩
      · split
        · have h2 := ih (xs.length - (k + 1)) (by omega) _ rfl
          exact ⟨asc_le (by omega) h2.1, h2.2⟩
        · split
          · rename_i he
            have h1 := oneL_fin xs k hk he
            have h3 := oneL_at he
            have h2 := ih (xs.length - (oneL xs k hk).2.fin) (by omega) _ rfl
            refine ⟨⟨by omega, by omega, h2.1⟩, fun t ht => ?_⟩
            rcases List.mem_cons.1 ht with rfl | ht
            · refine ⟨by omega, ?_⟩
              simp only [h3]
              exact Prod.ext he rfl
            · exact h2.2 t ht
          · exact ⟨trivial, fun t ht => by cases ht⟩
    · exact ⟨trivial, fun t ht => by cases ht⟩
/-- a token that stands in a text -/
structure TokIn (xs : List UInt8) (t : Tk) : Prop where
  lt : t.at_ < t.fin
  le : t.fin ≤ xs.length
  kind : t.kind = 1 ∨ t.kind = 2 ∨ t.kind = 3
  text : t.kind ≠ 2 → t.text = sub xs t.at_ t.fin
  num : t.kind = 2 → t.text = []
  zero : t.kind ≠ 2 → t.n = 0
  small : t.n ≤ 2147483647
theorem numF_le : ∀ (xs : List UInt8) (n : Nat), (numF n xs).1 ≤ 2147483647 ∨ (numF n xs).2 ≠ 0 ∨ (numF n xs).1 = n := by
  intro xs
  induction xs with
  | nil => intro n; exact .inr (.inr rfl)
  | cons c cs ih =>
    intro n
    unfold numF
    split
    · exact .inl (Nat.zero_le _)
    · rename_i hh
      rcases ih (10 * n + (c.toNat - 48)) with h1 | h1 | h1
      · exact .inl h1
      · exact .inr (.inl h1)
      · exact .inl (by rw [h1]; omega)


theorem tok_in {xs : List UInt8} {t : Tk} (h : t.at_ < xs.length) (ho : oneL xs t.at_ h = (0, t)) : TokIn xs t := by
  have hf := oneL_fin xs t.at_ h (by rw [ho])
  rw [ho] at hf
  obtain ⟨k, tx, n, a, f⟩ := t
  simp only at h ho hf
  unfold oneL at ho
  split at ho
  · split at ho
    · cases ho
    · simp only [Prod.mk.injEq, Tk.mk.injEq] at ho
      obtain ⟨-, rfl, rfl, rfl, -, rfl⟩ := ho
      exact ⟨hf.1, hf.2, .inl rfl, fun _ => rfl, fun h => (by cases h), fun _ => rfl, Nat.zero_le _⟩
  · split at ho
    · simp only [Prod.mk.injEq, Tk.mk.injEq] at ho
      obtain ⟨h0, rfl, rfl, rfl, -, rfl⟩ := ho
      refine ⟨hf.1, hf.2, .inr (.inl rfl), fun h => absurd rfl h, fun _ => rfl, fun h => absurd rfl h, ?_⟩
      show (numL _).1 ≤ _
      unfold numL at h0 ⊢
      split
      · exact Nat.zero_le _
      · rename_i hl
        rw [if_neg hl] at h0
        rcases numF_le (sub xs a (runL digB xs a)) 0 with g | g | g
        · exact g
        · exact absurd h0 g
        · rw [g]; exact Nat.zero_le _
    · split at ho
      · simp only [Prod.mk.injEq, Tk.mk.injEq] at ho
        obtain ⟨-, rfl, rfl, rfl, -, rfl⟩ := ho
        exact ⟨hf.1, hf.2, .inr (.inr rfl), fun _ => rfl, fun h => (by cases h), fun _ => rfl, Nat.zero_le _⟩
      · cases ho
theorem cutA_toks (xs : List UInt8) : Asc 0 (cutA xs).1 ∧ ∀ t ∈ (cutA xs).1, TokIn xs t := by
  unfold cutA
  split
  · exact ⟨trivial, fun t ht => by cases ht⟩
  · split
    · have h := cutL_asc xs 0
      exact ⟨h.1, fun t ht => by obtain ⟨h1, h2⟩ := h.2 t ht; exact tok_in h1 h2⟩
    · exact ⟨trivial, fun t ht => by cases ht⟩
theorem cut_in {xs : List UInt8} {i : Nat} (h : i < (cutA xs).1.length) : TokIn xs (tkA (cutA xs).1 i) := by
  rw [tkA_lt h]; exact (cutA_toks xs).2 _ (List.getElem_mem h)
def hdOk (T : List Tk) (u : Bool) (i : Nat) : Prop := if u then (tkA T i).kind = 2 else nmT (tkA T i) = true
def hdE (T : List Tk) (u : Bool) (i : Nat) : Ex := if u then { ex0 with at_ := i, tag := (tkA T i).n } else { ex0 with at_ := i, label := (tkA T i).text }
/-- a type (none) or rows behind their bracket, of which k were ahead -/
inductive PX (T : List Tk) : Option (Bool × Nat) → Nat → Nat → Ex → List Ex → Nat → Nat → Prop
  | leaf {deep i : Nat} {x : Ex} {kn : Int × Int} (hb : bgnT (tkA T i) = true) (hd : deep ≤ 16) (hl : leafE (tkA T i).text = some kn) : PX T none deep i x [(atE i x).lf kn.1 kn.2] 0 (i + 1)
  | nm {deep i : Nat} {x : Ex} (hb : bgnT (tkA T i) = true) (hd : deep ≤ 16) (hl : leafE (tkA T i).text = none) (hv : ¬ ((tkA T i).text = [118, 101, 99, 116, 111, 114] ∨ (tkA T i).text = [108, 105, 115, 116])) (ho : ¬ (tkA T i).text = [111, 112, 116, 105, 111, 110]) (hu : ¬ (tkA T i).text = [117, 110, 105, 111, 110]) (hs : ¬ (tkA T i).text = [115, 116, 114, 117, 99, 116]) : PX T none deep i x [(atE i x).nm (tkA T i).text] 0 (i + 1)
  | vec {deep i : Nat} {x : Ex} {N : List Ex} {j : Nat} (hb : bgnT (tkA T i) = true) (hd : deep ≤ 16) (hl : leafE (tkA T i).text = none) (hv : (tkA T i).text = [118, 101, 99, 116, 111, 114] ∨ (tkA T i).text = [108, 105, 115, 116]) (h1 : isT (tkA T (i + 1)) 3 [60] = true) (hN : PX T none (deep + 1) (i + 2) exM N 0 j) (h2 : isT (tkA T j) 3 [44] = true) (h3 : (tkA T (j + 1)).kind = 2) (h4 : isT (tkA T (j + 2)) 3 [62] = true) : PX T none deep i x ((atE i x).vec (decide ((tkA T i).text = [108, 105, 115, 116])) (tkA T (j + 1)).n :: N) 0 (j + 3)
  | opt {deep i : Nat} {x : Ex} {N : List Ex} {j : Nat} (hb : bgnT (tkA T i) = true) (hd : deep ≤ 16) (hl : leafE (tkA T i).text = none) (ho : (tkA T i).text = [111, 112, 116, 105, 111, 110]) (h1 : isT (tkA T (i + 1)) 3 [60] = true) (hN : PX T none (deep + 1) (i + 2) exM N 0 j) (h2 : isT (tkA T j) 3 [62] = true) : PX T none deep i x ((atE i x).opt :: N) 0 (j + 1)
  | br {deep i : Nat} {x : Ex} (u : Bool) {M : List Ex} {n j : Nat} (hb : bgnT (tkA T i) = true) (hd : deep ≤ 16) (hl : leafE (tkA T i).text = none) (hw : (tkA T i).text = if u then [117, 110, 105, 111, 110] else [115, 116, 114, 117, 99, 116]) (h1 : isT (tkA T (i + 1)) 3 [123] = true) (hM : PX T (some (u, 0)) deep (i + 2) ex0 M n j) : PX T none deep i x ((atE i x).br u (n : Nat) :: M) 0 j
  | last {deep i : Nat} {u : Bool} {k : Nat} {N : List Ex} {j : Nat} (hk : k < 64) (hh : hdOk T u i) (hc : isT (tkA T (i + 1)) 3 [58] = true) (hN : PX T none (deep + 1) (i + 2) (hdE T u i) N 0 j) (hm : isT (tkA T j) 3 [44] = false) (hr : isT (tkA T j) 3 [125] = true) : PX T (some (u, k)) deep i ex0 N (k + 1) (j + 1)
  | more {deep i : Nat} {u : Bool} {k : Nat} {N M : List Ex} {j n e : Nat} (hk : k < 64) (hh : hdOk T u i) (hc : isT (tkA T (i + 1)) 3 [58] = true) (hN : PX T none (deep + 1) (i + 2) (hdE T u i) N 0 j) (hm : isT (tkA T j) 3 [44] = true) (hR : PX T (some (u, k + 1)) deep (j + 1) ex0 M n e) : PX T (some (u, k)) deep i ex0 (N ++ M) n e
theorem bind_ok {α β : Type} {r : Pr α} {f : α → Nat → Pr β} {b : β} {j : Nat} (h : r.bind f = .ok b j) : ∃ a i, r = .ok a i ∧ f a i = .ok b j := by
  cases r with
  | ok a i => exact ⟨a, i, rfl, h⟩
  | bad e i => cases h
theorem wantT_ok {T : List Tk} {i k j : Nat} {s : List UInt8} {a : Unit} (h : wantT T i k s = .ok a j) : isT (tkA T i) k s = true ∧ j = i + 1 := by
  unfold wantT at h
  split at h
  · rename_i h1; cases h; exact ⟨h1, rfl⟩
  · cases h
theorem numT_ok {T : List Tk} {i j n : Nat} (h : numT T i = .ok n j) : (tkA T i).kind = 2 ∧ n = (tkA T i).n ∧ j = i + 1 := by
  unfold numT at h
  split at h
  · rename_i h1; cases h; exact ⟨h1, rfl, rfl⟩
  · cases h
theorem nameT_ok {T : List Tk} {i j : Nat} {s : List UInt8} (h : nameT T i = .ok s j) : nmT (tkA T i) = true ∧ s = (tkA T i).text ∧ j = i + 1 := by
  unfold nameT at h
  split at h
  · rename_i h1; cases h; exact ⟨h1, rfl, rfl⟩
  · cases h
theorem headT_ok {T : List Tk} {u full : Bool} {i j : Nat} {y : Ex} (h : headT T u full i { ex0 with at_ := i } = .ok y j) : hdOk T u i ∧ y = hdE T u i ∧ j = i + 1 ∧ full = false := by
  cases u
  · rw [headT_s] at h
    split at h
    · cases h
    · rename_i hn
      obtain ⟨s, i2, h1, h2⟩ := bind_ok h
      obtain ⟨g1, rfl, rfl⟩ := nameT_ok h1
      cases h2
      refine ⟨g1, rfl, rfl, ?_⟩
      cases full
      · rfl
      · exact absurd ⟨rfl, g1⟩ hn
  · rw [headT_u] at h
    split at h
    · cases h
    · rename_i hn
      obtain ⟨s, i2, h1, h2⟩ := bind_ok h
      obtain ⟨g1, rfl, rfl⟩ := numT_ok h1
      cases h2
      refine ⟨g1, rfl, rfl, ?_⟩
      cases full
      · rfl
      · exact absurd ⟨rfl, g1⟩ hn
theorem rows_px {T : List Tk} {E : Nat → Ex → Pr (List Ex)} {u : Bool} {deep : Nat} (hE : ∀ i x N j, E i x = .ok N j → PX T none (deep + 1) i x N 0 j) : ∀ (g i k : Nat) (M : List Ex) (n e : Nat), k ≤ 64 → rowsT E T u g i k = .ok (M, n) e → PX T (some (u, k)) deep i ex0 M n e
  | 0, i, k, M, n, e, hk, h => by cases h
  | g + 1, i, k, M, n, e, hk, h => by
    rw [rowsT_s] at h
    obtain ⟨y, i1, h1, h⟩ := bind_ok h
    obtain ⟨hh, rfl, rfl, hf⟩ := headT_ok h1
    obtain ⟨_, i2, h2, h⟩ := bind_ok h
    obtain ⟨hc, rfl⟩ := wantT_ok h2
    obtain ⟨N, j, h3, h⟩ := bind_ok h
    have hk2 : k < 64 := by simp at hf; omega
    split at h
    · rename_i hm
      obtain ⟨⟨M', n'⟩, e', h4, h⟩ := bind_ok h
      cases h
      exact .more hk2 hh hc (hE _ _ _ _ h3) hm (rows_px hE g _ _ _ _ _ (by omega) h4)
    · rename_i hm
      obtain ⟨_, e', h4, h⟩ := bind_ok h
      obtain ⟨hr, rfl⟩ := wantT_ok h4
      cases h
      exact .last hk2 hh hc (hE _ _ _ _ h3) (by simpa using hm) hr
theorem expr_px {T : List Tk} : ∀ (f i : Nat) (x : Ex) (deep : Nat) (N : List Ex) (j : Nat), exprT T f i x deep = .ok N j → PX T none deep i x N 0 j
  | 0, i, x, deep, N, j, h => by cases h
  | f + 1, i, x, deep, N, j, h => by
    rw [exprT_s] at h
    split at h
    · cases h
    · rename_i hb
      have hb : bgnT (tkA T i) = true := by simpa using hb
      split at h
      · cases h
      · rename_i hd
        have hd : deep ≤ 16 := by omega
        split at h
        · rename_i kn hl
          cases h
          exact .leaf hb hd hl
        · rename_i hl
          split at h
          · rename_i hv
            obtain ⟨_, i1, h1, h⟩ := bind_ok h
            obtain ⟨g1, rfl⟩ := wantT_ok h1
            obtain ⟨M, j1, h2, h⟩ := bind_ok h
            obtain ⟨_, j2, h3, h⟩ := bind_ok h
            obtain ⟨g3, rfl⟩ := wantT_ok h3
            obtain ⟨n, j3, h4, h⟩ := bind_ok h
            obtain ⟨g4, rfl, rfl⟩ := numT_ok h4
            obtain ⟨_, j4, h5, h⟩ := bind_ok h
            obtain ⟨g5, rfl⟩ := wantT_ok h5
            cases h
            exact .vec hb hd hl hv g1 (expr_px f _ _ _ _ _ h2) g3 g4 g5
          · rename_i hv
            split at h
            · rename_i ho
              obtain ⟨_, i1, h1, h⟩ := bind_ok h
              obtain ⟨g1, rfl⟩ := wantT_ok h1
              obtain ⟨M, j1, h2, h⟩ := bind_ok h
              obtain ⟨_, j2, h3, h⟩ := bind_ok h
              obtain ⟨g3, rfl⟩ := wantT_ok h3
              cases h
              exact .opt hb hd hl ho g1 (expr_px f _ _ _ _ _ h2) g3
            · rename_i ho
              split at h
              · rename_i hu
                obtain ⟨⟨M, n⟩, j1, h2, h⟩ := bind_ok h
                obtain ⟨_, i1, h1, h2⟩ := bind_ok h2
                obtain ⟨g1, rfl⟩ := wantT_ok h1
                cases h
                exact .br true hb hd hl hu g1 (rows_px (fun i x N j hh => expr_px f i x _ N j hh) _ _ _ _ _ _ (by omega) h2)
              · rename_i hu
                split at h
                · rename_i hs
                  obtain ⟨⟨M, n⟩, j1, h2, h⟩ := bind_ok h
                  obtain ⟨_, i1, h1, h2⟩ := bind_ok h2
                  obtain ⟨g1, rfl⟩ := wantT_ok h1
                  cases h
                  exact .br false hb hd hl hs g1 (rows_px (fun i x N j hh => expr_px f i x _ N j hh) _ _ _ _ _ _ (by omega) h2)
                · rename_i hs
                  cases h
                  exact .nm hb hd hl hv ho hu hs

end Go.Proofs.Ytcljkkfpcomdcaa

set_option linter.unusedSimpArgs false
set_option linter.unusedVariables false
set_option maxRecDepth 100000
namespace Go.Proofs.Ytcljkkfpcomdcaa
open Go Go.Vc Go.RowKit Go.Proofs

def okB (x : Ex) : Bool :=
  if x.kind = 1 then (decide (x.n = 1) || decide (x.n = 2) || decide (x.n = 4) || decide (x.n = 8)) && decide (x.kids = 0)
  else if x.kind = 2 ∨ x.kind = 3 ∨ x.kind = 9 then decide (x.n = 0) && decide (x.kids = 0)
  else if x.kind = 4 ∨ x.kind = 5 then decide (0 ≤ x.n) && decide (x.n ≤ 2147483647) && decide (x.kids = 1)
  else if x.kind = 6 then decide (x.n = 0) && decide (x.kids = 1)
  else if x.kind = 7 ∨ x.kind = 8 then decide (x.n = 0) && decide (1 ≤ x.kids)
  else false
def namB (x : Ex) : Bool := if x.kind = 9 then nameB x.name else decide (x.name = [])
def labB (x : Ex) (above : Int) : Bool := if above = 8 then nameB x.label else decide (x.label = [])
def tagB (x : Ex) (above : Int) : Bool := decide (x.tag = 0) || (decide (above = 7) && decide (0 < x.tag) && decide (x.tag ≤ 2147483647))
def rightB (x : Ex) (above : Int) : Bool := okB x && namB x && labB x above && tagB x above
set_option maxHeartbeats 2000000 in
theorem right_spec (x : Ex) (above : Int) (w0 : World) (hn : x.name.length ≤ 9223372036854775807) (hl : x.label.length ≤ 9223372036854775807) : Ca Try.prog 48 #[.agg (exV x).toArray, .int .i64 above] w0 (fun v w' => v = .bool (rightB x above) ∧ Ext w0 w') := by
  refine Ca.of Try.func48 Try.ntmps48 rfl rfl ?_
  refine W.seq ?_
  refine W.region ?_
  refine WL.c rfl (o_boxB rfl ?_)
  intro w2 hC2 hx2 hs2
  obtain ⟨c2, hc2⟩ : ∃ c, c = w0.heap.size := ⟨_, rfl⟩
  rw [← hc2] at hC2 ⊢
  replace hC2 : w2.heap[c2]? = some (.cells (exV x).toArray 30 (0, 0)) := hC2
  refine WL.c rfl (o_ash (show _ = Value.bool _ from rfl) ?_)
  refine WL.nil ?_
  refine W.seq ?_
  refine W.region ?_
  refine WL.c rfl (o_ash (show _ = Value.bool _ from rfl) ?_)
  refine WL.nil ?_
  refine W.seq ?_
  refine W.seq ?_
  refine W.region ?_
  refine WL.c rfl (o_fa 0 TI30 rfl TI3 rfl rfl ?_)
  refine WL.c rfl (o_ld TI3 rfl rfl (cell_of hC2 rfl) ?_)
  refine WL.nil ?_
  refine W.block ?_
  refine W.seq ?_
  refine W.region ?_
  refine WL.c rfl (o_eq rfl rfl ?_)
  refine WL.c rfl (o_ash (show _ = Value.bool _ from rfl) ?_)
  refine WL.nil ?_
  refine W.cut (fun e1 w1 => e1 1 = .int .i64 above ∧ e1 2 = .pointer (some ⟨c2, 0, none⟩) ∧ e1 5 = .bool (okB x) ∧ w1 = w2) ?_ ?_
  · -- both ways
    refine W.cond rfl (fun c11 => ?_) (fun c11 => ?_)
    · try simp only [decide_eq_true_eq, decide_eq_false_iff_not, Bool.not_eq_true', Bool.not_eq_false', Bool.and_eq_true, Bool.or_eq_true, Bool.and_eq_false_iff, Bool.or_eq_false_iff] at c11
      refine W.region ?_
      refine WL.c rfl (o_fa 1 TI30 rfl TI3 rfl rfl ?_)
      refine WL.c rfl (o_ld TI3 rfl rfl (cell_of hC2 rfl) ?_)
      refine WL.c rfl (o_eq rfl rfl ?_)
      refine WL.c rfl (o_mvh (show _ = Value.bool _ from rfl) ?_)
      refine WL.sp 3 rfl (fun g16 => ?_) (fun g16 => ?_)
      · skip
        refine WL.s rfl (g16) rfl ?_
        refine WL.s rfl (g16) rfl ?_
        refine WL.s rfl (g16) rfl ?_
        refine WL.c rfl (o_pickT rfl (g16) ?_)
        refine WL.c rfl (o_mvh (show _ = Value.bool _ from rfl) ?_)
        refine WL.s rfl (rfl) rfl ?_
        refine WL.s rfl (rfl) rfl ?_
        refine WL.s rfl (rfl) rfl ?_
        refine WL.c rfl (o_pickT rfl (rfl) ?_)
        refine WL.c rfl (o_mvh (show _ = Value.bool _ from rfl) ?_)
        refine WL.s rfl (rfl) rfl ?_
        refine WL.s rfl (rfl) rfl ?_
        refine WL.s rfl (rfl) rfl ?_
        refine WL.c rfl (o_pickT rfl (rfl) ?_)
        refine WL.c rfl (o_mvh (show _ = Value.bool _ from rfl) ?_)
        refine WL.g rfl (rfl) rfl (o_fa 5 TI30 rfl TI3 rfl rfl ?_)
        refine WL.g rfl (rfl) rfl (o_ld TI3 rfl rfl (cell_of hC2 rfl) ?_)
        refine WL.g rfl (rfl) rfl (o_eq rfl rfl ?_)
        refine WL.c rfl (o_pickA rfl rfl ?_)
        refine WL.c rfl (o_ash (show _ = Value.bool _ from rfl) ?_)
        refine WL.nil ?_
        exact ⟨rfl, rfl, congrArg Value.bool (by rw [Bool.eq_iff_iff]; simp_all [okB] <;> omega), rfl⟩
      · skip
        refine WL.g rfl (g16) rfl (o_fa 1 TI30 rfl TI3 rfl rfl ?_)
        refine WL.g rfl (g16) rfl (o_ld TI3 rfl rfl (cell_of hC2 rfl) ?_)
        refine WL.g rfl (g16) rfl (o_eq rfl rfl ?_)
        refine WL.c rfl (o_pickO rfl rfl ?_)
        refine WL.c rfl (o_mvh (show _ = Value.bool _ from rfl) ?_)
        refine WL.sp 8 rfl (fun g21 => ?_) (fun g21 => ?_)
        · skip
          refine WL.s rfl (g21) rfl ?_
          refine WL.s rfl (g21) rfl ?_
          refine WL.s rfl (g21) rfl ?_
          refine WL.c rfl (o_pickT rfl (g21) ?_)
          refine WL.c rfl (o_mvh (show _ = Value.bool _ from rfl) ?_)
          refine WL.s rfl (rfl) rfl ?_
          refine WL.s rfl (rfl) rfl ?_
          refine WL.s rfl (rfl) rfl ?_
          refine WL.c rfl (o_pickT rfl (rfl) ?_)
          refine WL.c rfl (o_mvh (show _ = Value.bool _ from rfl) ?_)
          refine WL.g rfl (rfl) rfl (o_fa 5 TI30 rfl TI3 rfl rfl ?_)
          refine WL.g rfl (rfl) rfl (o_ld TI3 rfl rfl (cell_of hC2 rfl) ?_)
          refine WL.g rfl (rfl) rfl (o_eq rfl rfl ?_)
          refine WL.c rfl (o_pickA rfl rfl ?_)
          refine WL.c rfl (o_ash (show _ = Value.bool _ from rfl) ?_)
          refine WL.nil ?_
          exact ⟨rfl, rfl, congrArg Value.bool (by rw [Bool.eq_iff_iff]; simp_all [okB] <;> omega), rfl⟩
        · skip
          refine WL.g rfl (g21) rfl (o_fa 1 TI30 rfl TI3 rfl rfl ?_)
          refine WL.g rfl (g21) rfl (o_ld TI3 rfl rfl (cell_of hC2 rfl) ?_)
          refine WL.g rfl (g21) rfl (o_eq rfl rfl ?_)
          refine WL.c rfl (o_pickO rfl rfl ?_)
          refine WL.c rfl (o_mvh (show _ = Value.bool _ from rfl) ?_)
          refine WL.sp 13 rfl (fun g26 => ?_) (fun g26 => ?_)
          · skip
            refine WL.s rfl (g26) rfl ?_
            refine WL.s rfl (g26) rfl ?_
            refine WL.s rfl (g26) rfl ?_
            refine WL.c rfl (o_pickT rfl (g26) ?_)
            refine WL.c rfl (o_mvh (show _ = Value.bool _ from rfl) ?_)
            refine WL.g rfl (rfl) rfl (o_fa 5 TI30 rfl TI3 rfl rfl ?_)
            refine WL.g rfl (rfl) rfl (o_ld TI3 rfl rfl (cell_of hC2 rfl) ?_)
            refine WL.g rfl (rfl) rfl (o_eq rfl rfl ?_)
            refine WL.c rfl (o_pickA rfl rfl ?_)
            refine WL.c rfl (o_ash (show _ = Value.bool _ from rfl) ?_)
            refine WL.nil ?_
            exact ⟨rfl, rfl, congrArg Value.bool (by rw [Bool.eq_iff_iff]; simp_all [okB] <;> omega), rfl⟩
          · skip
            refine WL.g rfl (g26) rfl (o_fa 1 TI30 rfl TI3 rfl rfl ?_)
            refine WL.g rfl (g26) rfl (o_ld TI3 rfl rfl (cell_of hC2 rfl) ?_)
            refine WL.g rfl (g26) rfl (o_eq rfl rfl ?_)
            refine WL.c rfl (o_pickO rfl rfl ?_)
            refine WL.c rfl (o_mvh (show _ = Value.bool _ from rfl) ?_)
            refine WL.sp 18 rfl (fun g31 => ?_) (fun g31 => ?_)
            · skip
              refine WL.g rfl (g31) rfl (o_fa 5 TI30 rfl TI3 rfl rfl ?_)
              refine WL.g rfl (g31) rfl (o_ld TI3 rfl rfl (cell_of hC2 rfl) ?_)
              refine WL.g rfl (g31) rfl (o_eq rfl rfl ?_)
              refine WL.c rfl (o_pickA rfl rfl ?_)
              refine WL.c rfl (o_ash (show _ = Value.bool _ from rfl) ?_)
              refine WL.nil ?_
              exact ⟨rfl, rfl, congrArg Value.bool (by rw [Bool.eq_iff_iff]; simp_all [okB] <;> omega), rfl⟩
            · skip
              refine WL.s rfl (g31) rfl ?_
              refine WL.s rfl (g31) rfl ?_
              refine WL.s rfl (g31) rfl ?_
              refine WL.c rfl (o_pickF rfl (g31) ?_)
              refine WL.c rfl (o_ash (show _ = Value.bool _ from rfl) ?_)
              refine WL.nil ?_
              exact ⟨rfl, rfl, congrArg Value.bool (by rw [Bool.eq_iff_iff]; simp_all [okB] <;> omega), rfl⟩
    · try simp only [decide_eq_true_eq, decide_eq_false_iff_not, Bool.not_eq_true', Bool.not_eq_false', Bool.and_eq_true, Bool.or_eq_true, Bool.and_eq_false_iff, Bool.or_eq_false_iff] at c11
      refine W.seq ?_
      refine W.seq ?_
      refine W.region ?_
      refine WL.c rfl (o_eq rfl rfl ?_)
      refine WL.c rfl (o_ash (show _ = Value.bool _ from rfl) ?_)
      refine WL.nil ?_
      refine W.cond rfl (fun c36 => ?_) (fun c36 => ?_)
      · try simp only [decide_eq_true_eq, decide_eq_false_iff_not, Bool.not_eq_true', Bool.not_eq_false', Bool.and_eq_true, Bool.or_eq_true, Bool.and_eq_false_iff, Bool.or_eq_false_iff] at c36
        refine W.skip ?_
        refine W.cond rfl (fun c36 => ?_) (fun c36 => ?_)
        · try simp only [decide_eq_true_eq, decide_eq_false_iff_not, Bool.not_eq_true', Bool.not_eq_false', Bool.and_eq_true, Bool.or_eq_true, Bool.and_eq_false_iff, Bool.or_eq_false_iff] at c36
          refine W.region ?_
          refine WL.c rfl (o_fa 1 TI30 rfl TI3 rfl rfl ?_)
          refine WL.c rfl (o_ld TI3 rfl rfl (cell_of hC2 rfl) ?_)
          refine WL.c rfl (o_eq rfl rfl ?_)
          refine WL.c rfl (o_mvh (show _ = Value.bool _ from rfl) ?_)
          refine WL.sp 3 rfl (fun g43 => ?_) (fun g43 => ?_)
          · skip
            refine WL.g rfl (g43) rfl (o_fa 5 TI30 rfl TI3 rfl rfl ?_)
            refine WL.g rfl (g43) rfl (o_ld TI3 rfl rfl (cell_of hC2 rfl) ?_)
            refine WL.g rfl (g43) rfl (o_eq rfl rfl ?_)
            refine WL.c rfl (o_pickA rfl rfl ?_)
            refine WL.c rfl (o_ash (show _ = Value.bool _ from rfl) ?_)
            refine WL.nil ?_
            exact ⟨rfl, rfl, congrArg Value.bool (by rw [Bool.eq_iff_iff]; simp_all [okB] <;> omega), rfl⟩
          · skip
            refine WL.s rfl (g43) rfl ?_
            refine WL.s rfl (g43) rfl ?_
            refine WL.s rfl (g43) rfl ?_
            refine WL.c rfl (o_pickF rfl (g43) ?_)
            refine WL.c rfl (o_ash (show _ = Value.bool _ from rfl) ?_)
            refine WL.nil ?_
            exact ⟨rfl, rfl, congrArg Value.bool (by rw [Bool.eq_iff_iff]; simp_all [okB] <;> omega), rfl⟩
        · try simp only [decide_eq_true_eq, decide_eq_false_iff_not, Bool.not_eq_true', Bool.not_eq_false', Bool.and_eq_true, Bool.or_eq_true, Bool.and_eq_false_iff, Bool.or_eq_false_iff] at c36
          refine W.seq ?_
          refine W.seq ?_
          refine W.region ?_
          refine WL.c rfl (o_eq rfl rfl ?_)
          refine WL.c rfl (o_ash (show _ = Value.bool _ from rfl) ?_)
          refine WL.nil ?_
          refine W.cond rfl (fun c48 => ?_) (fun c48 => ?_)
          · try simp only [decide_eq_true_eq, decide_eq_false_iff_not, Bool.not_eq_true', Bool.not_eq_false', Bool.and_eq_true, Bool.or_eq_true, Bool.and_eq_false_iff, Bool.or_eq_false_iff] at c48
            refine W.skip ?_
            refine W.cond rfl (fun c48 => ?_) (fun c48 => ?_)
            · try simp only [decide_eq_true_eq, decide_eq_false_iff_not, Bool.not_eq_true', Bool.not_eq_false', Bool.and_eq_true, Bool.or_eq_true, Bool.and_eq_false_iff, Bool.or_eq_false_iff] at c48
              refine W.region ?_
              refine WL.c rfl (o_fa 1 TI30 rfl TI3 rfl rfl ?_)
              refine WL.c rfl (o_ld TI3 rfl rfl (cell_of hC2 rfl) ?_)
              refine WL.c rfl (o_ge rfl rfl ?_)
              refine WL.c rfl (o_mvh (show _ = Value.bool _ from rfl) ?_)
              refine WL.sp 3 rfl (fun g54 => ?_) (fun g54 => ?_)
              · skip
                refine WL.g rfl (g54) rfl (o_fa 1 TI30 rfl TI3 rfl rfl ?_)
                refine WL.g rfl (g54) rfl (o_ld TI3 rfl rfl (cell_of hC2 rfl) ?_)
                refine WL.g rfl (g54) rfl (o_le rfl rfl ?_)
                refine WL.c rfl (o_pickA rfl rfl ?_)
                refine WL.c rfl (o_mvh (show _ = Value.bool _ from rfl) ?_)
                refine WL.sp 8 rfl (fun g59 => ?_) (fun g59 => ?_)
                · skip
                  refine WL.g rfl (g59) rfl (o_fa 5 TI30 rfl TI3 rfl rfl ?_)
                  refine WL.g rfl (g59) rfl (o_ld TI3 rfl rfl (cell_of hC2 rfl) ?_)
                  refine WL.g rfl (g59) rfl (o_eq rfl rfl ?_)
                  refine WL.c rfl (o_pickA rfl rfl ?_)
                  refine WL.c rfl (o_ash (show _ = Value.bool _ from rfl) ?_)
                  refine WL.nil ?_
                  exact ⟨rfl, rfl, congrArg Value.bool (by rw [Bool.eq_iff_iff]; simp_all [okB] <;> omega), rfl⟩
                · skip
                  refine WL.s rfl (g59) rfl ?_
                  refine WL.s rfl (g59) rfl ?_
                  refine WL.s rfl (g59) rfl ?_
                  refine WL.c rfl (o_pickF rfl (g59) ?_)
                  refine WL.c rfl (o_ash (show _ = Value.bool _ from rfl) ?_)
                  refine WL.nil ?_
                  exact ⟨rfl, rfl, congrArg Value.bool (by rw [Bool.eq_iff_iff]; simp_all [okB] <;> omega), rfl⟩
              · skip
                refine WL.s rfl (g54) rfl ?_
                refine WL.s rfl (g54) rfl ?_
                refine WL.s rfl (g54) rfl ?_
                refine WL.c rfl (o_pickF rfl (g54) ?_)
                refine WL.c rfl (o_mvh (show _ = Value.bool _ from rfl) ?_)
                refine WL.s rfl (rfl) rfl ?_
                refine WL.s rfl (rfl) rfl ?_
                refine WL.s rfl (rfl) rfl ?_
                refine WL.c rfl (o_pickF rfl (rfl) ?_)
                refine WL.c rfl (o_ash (show _ = Value.bool _ from rfl) ?_)
                refine WL.nil ?_
                exact ⟨rfl, rfl, congrArg Value.bool (by rw [Bool.eq_iff_iff]; simp_all [okB] <;> omega), rfl⟩
            · try simp only [decide_eq_true_eq, decide_eq_false_iff_not, Bool.not_eq_true', Bool.not_eq_false', Bool.and_eq_true, Bool.or_eq_true, Bool.and_eq_false_iff, Bool.or_eq_false_iff] at c48
              refine W.seq ?_
              refine W.region ?_
              refine WL.c rfl (o_eq rfl rfl ?_)
              refine WL.c rfl (o_ash (show _ = Value.bool _ from rfl) ?_)
              refine WL.nil ?_
              refine W.cond rfl (fun c64 => ?_) (fun c64 => ?_)
              · try simp only [decide_eq_true_eq, decide_eq_false_iff_not, Bool.not_eq_true', Bool.not_eq_false', Bool.and_eq_true, Bool.or_eq_true, Bool.and_eq_false_iff, Bool.or_eq_false_iff] at c64
                refine W.region ?_
                refine WL.c rfl (o_fa 1 TI30 rfl TI3 rfl rfl ?_)
                refine WL.c rfl (o_ld TI3 rfl rfl (cell_of hC2 rfl) ?_)
                refine WL.c rfl (o_eq rfl rfl ?_)
                refine WL.c rfl (o_mvh (show _ = Value.bool _ from rfl) ?_)
                refine WL.sp 3 rfl (fun g69 => ?_) (fun g69 => ?_)
                · skip
                  refine WL.g rfl (g69) rfl (o_fa 5 TI30 rfl TI3 rfl rfl ?_)
                  refine WL.g rfl (g69) rfl (o_ld TI3 rfl rfl (cell_of hC2 rfl) ?_)
                  refine WL.g rfl (g69) rfl (o_eq rfl rfl ?_)
                  refine WL.c rfl (o_pickA rfl rfl ?_)
                  refine WL.c rfl (o_ash (show _ = Value.bool _ from rfl) ?_)
                  refine WL.nil ?_
                  exact ⟨rfl, rfl, congrArg Value.bool (by rw [Bool.eq_iff_iff]; simp_all [okB] <;> omega), rfl⟩
                · skip
                  refine WL.s rfl (g69) rfl ?_
                  refine WL.s rfl (g69) rfl ?_
                  refine WL.s rfl (g69) rfl ?_
                  refine WL.c rfl (o_pickF rfl (g69) ?_)
                  refine WL.c rfl (o_ash (show _ = Value.bool _ from rfl) ?_)
                  refine WL.nil ?_
                  exact ⟨rfl, rfl, congrArg Value.bool (by rw [Bool.eq_iff_iff]; simp_all [okB] <;> omega), rfl⟩
              · try simp only [decide_eq_true_eq, decide_eq_false_iff_not, Bool.not_eq_true', Bool.not_eq_false', Bool.and_eq_true, Bool.or_eq_true, Bool.and_eq_false_iff, Bool.or_eq_false_iff] at c64
                refine W.seq ?_
                refine W.seq ?_
                refine W.region ?_
                refine WL.c rfl (o_eq rfl rfl ?_)
                refine WL.c rfl (o_ash (show _ = Value.bool _ from rfl) ?_)
                refine WL.nil ?_
                refine W.cond rfl (fun c74 => ?_) (fun c74 => ?_)
                · try simp only [decide_eq_true_eq, decide_eq_false_iff_not, Bool.not_eq_true', Bool.not_eq_false', Bool.and_eq_true, Bool.or_eq_true, Bool.and_eq_false_iff, Bool.or_eq_false_iff] at c74
                  refine W.skip ?_
                  refine W.cond rfl (fun c74 => ?_) (fun c74 => ?_)
                  · try simp only [decide_eq_true_eq, decide_eq_false_iff_not, Bool.not_eq_true', Bool.not_eq_false', Bool.and_eq_true, Bool.or_eq_true, Bool.and_eq_false_iff, Bool.or_eq_false_iff] at c74
                    refine W.region ?_
                    refine WL.c rfl (o_fa 1 TI30 rfl TI3 rfl rfl ?_)
                    refine WL.c rfl (o_ld TI3 rfl rfl (cell_of hC2 rfl) ?_)
                    refine WL.c rfl (o_eq rfl rfl ?_)
                    refine WL.c rfl (o_mvh (show _ = Value.bool _ from rfl) ?_)
                    refine WL.sp 3 rfl (fun g80 => ?_) (fun g80 => ?_)
                    · skip
                      refine WL.g rfl (g80) rfl (o_fa 5 TI30 rfl TI3 rfl rfl ?_)
                      refine WL.g rfl (g80) rfl (o_ld TI3 rfl rfl (cell_of hC2 rfl) ?_)
                      refine WL.g rfl (g80) rfl (o_ge rfl rfl ?_)
                      refine WL.c rfl (o_pickA rfl rfl ?_)
                      refine WL.c rfl (o_ash (show _ = Value.bool _ from rfl) ?_)
                      refine WL.nil ?_
                      exact ⟨rfl, rfl, congrArg Value.bool (by rw [Bool.eq_iff_iff]; simp_all [okB] <;> omega), rfl⟩
                    · skip
                      refine WL.s rfl (g80) rfl ?_
                      refine WL.s rfl (g80) rfl ?_
                      refine WL.s rfl (g80) rfl ?_
                      refine WL.c rfl (o_pickF rfl (g80) ?_)
                      refine WL.c rfl (o_ash (show _ = Value.bool _ from rfl) ?_)
                      refine WL.nil ?_
                      exact ⟨rfl, rfl, congrArg Value.bool (by rw [Bool.eq_iff_iff]; simp_all [okB] <;> omega), rfl⟩
                  · try simp only [decide_eq_true_eq, decide_eq_false_iff_not, Bool.not_eq_true', Bool.not_eq_false', Bool.and_eq_true, Bool.or_eq_true, Bool.and_eq_false_iff, Bool.or_eq_false_iff] at c74
                    refine W.seq ?_
                    refine W.region ?_
                    refine WL.c rfl (o_ash (show _ = Value.bool _ from rfl) ?_)
                    refine WL.nil ?_
                    refine W.ret ?_
                    refine ret1v rfl (show _ = Value.bool _ from rfl) ?_
                    have h9 : okB x = false := by
                      unfold okB
                      repeat' split
                      all_goals first | rfl | omega
                    exact ⟨congrArg Value.bool (by rw [rightB, h9]; rfl), hx2⟩
                · try simp only [decide_eq_true_eq, decide_eq_false_iff_not, Bool.not_eq_true', Bool.not_eq_false', Bool.and_eq_true, Bool.or_eq_true, Bool.and_eq_false_iff, Bool.or_eq_false_iff] at c74
                  refine W.region ?_
                  refine WL.c rfl (o_eq rfl rfl ?_)
                  refine WL.c rfl (o_ash (show _ = Value.bool _ from rfl) ?_)
                  refine WL.nil ?_
                  refine W.cond rfl (fun c74 => ?_) (fun c74 => ?_)
                  · try simp only [decide_eq_true_eq, decide_eq_false_iff_not, Bool.not_eq_true', Bool.not_eq_false', Bool.and_eq_true, Bool.or_eq_true, Bool.and_eq_false_iff, Bool.or_eq_false_iff] at c74
                    refine W.region ?_
                    refine WL.c rfl (o_fa 1 TI30 rfl TI3 rfl rfl ?_)
                    refine WL.c rfl (o_ld TI3 rfl rfl (cell_of hC2 rfl) ?_)
                    refine WL.c rfl (o_eq rfl rfl ?_)
                    refine WL.c rfl (o_mvh (show _ = Value.bool _ from rfl) ?_)
                    refine WL.sp 3 rfl (fun g80 => ?_) (fun g80 => ?_)
                    · skip
                      refine WL.g rfl (g80) rfl (o_fa 5 TI30 rfl TI3 rfl rfl ?_)
                      refine WL.g rfl (g80) rfl (o_ld TI3 rfl rfl (cell_of hC2 rfl) ?_)
                      refine WL.g rfl (g80) rfl (o_ge rfl rfl ?_)
                      refine WL.c rfl (o_pickA rfl rfl ?_)
                      refine WL.c rfl (o_ash (show _ = Value.bool _ from rfl) ?_)
                      refine WL.nil ?_
                      exact ⟨rfl, rfl, congrArg Value.bool (by rw [Bool.eq_iff_iff]; simp_all [okB] <;> omega), rfl⟩
                    · skip
                      refine WL.s rfl (g80) rfl ?_
                      refine WL.s rfl (g80) rfl ?_
                      refine WL.s rfl (g80) rfl ?_
                      refine WL.c rfl (o_pickF rfl (g80) ?_)
                      refine WL.c rfl (o_ash (show _ = Value.bool _ from rfl) ?_)
                      refine WL.nil ?_
                      exact ⟨rfl, rfl, congrArg Value.bool (by rw [Bool.eq_iff_iff]; simp_all [okB] <;> omega), rfl⟩
                  · try simp only [decide_eq_true_eq, decide_eq_false_iff_not, Bool.not_eq_true', Bool.not_eq_false', Bool.and_eq_true, Bool.or_eq_true, Bool.and_eq_false_iff, Bool.or_eq_false_iff] at c74
                    refine W.seq ?_
                    refine W.region ?_
                    refine WL.c rfl (o_ash (show _ = Value.bool _ from rfl) ?_)
                    refine WL.nil ?_
                    refine W.ret ?_
                    refine ret1v rfl (show _ = Value.bool _ from rfl) ?_
                    have h9 : okB x = false := by
                      unfold okB
                      repeat' split
                      all_goals first | rfl | omega
                    exact ⟨congrArg Value.bool (by rw [rightB, h9]; rfl), hx2⟩
          · try simp only [decide_eq_true_eq, decide_eq_false_iff_not, Bool.not_eq_true', Bool.not_eq_false', Bool.and_eq_true, Bool.or_eq_true, Bool.and_eq_false_iff, Bool.or_eq_false_iff] at c48
            refine W.region ?_
            refine WL.c rfl (o_eq rfl rfl ?_)
            refine WL.c rfl (o_ash (show _ = Value.bool _ from rfl) ?_)
            refine WL.nil ?_
            refine W.cond rfl (fun c48 => ?_) (fun c48 => ?_)
            · try simp only [decide_eq_true_eq, decide_eq_false_iff_not, Bool.not_eq_true', Bool.not_eq_false', Bool.and_eq_true, Bool.or_eq_true, Bool.and_eq_false_iff, Bool.or_eq_false_iff] at c48
              refine W.region ?_
              refine WL.c rfl (o_fa 1 TI30 rfl TI3 rfl rfl ?_)
              refine WL.c rfl (o_ld TI3 rfl rfl (cell_of hC2 rfl) ?_)
              refine WL.c rfl (o_ge rfl rfl ?_)
              refine WL.c rfl (o_mvh (show _ = Value.bool _ from rfl) ?_)
              refine WL.sp 3 rfl (fun g54 => ?_) (fun g54 => ?_)
              · skip
                refine WL.g rfl (g54) rfl (o_fa 1 TI30 rfl TI3 rfl rfl ?_)
                refine WL.g rfl (g54) rfl (o_ld TI3 rfl rfl (cell_of hC2 rfl) ?_)
                refine WL.g rfl (g54) rfl (o_le rfl rfl ?_)
                refine WL.c rfl (o_pickA rfl rfl ?_)
                refine WL.c rfl (o_mvh (show _ = Value.bool _ from rfl) ?_)
                refine WL.sp 8 rfl (fun g59 => ?_) (fun g59 => ?_)
                · skip
                  refine WL.g rfl (g59) rfl (o_fa 5 TI30 rfl TI3 rfl rfl ?_)
                  refine WL.g rfl (g59) rfl (o_ld TI3 rfl rfl (cell_of hC2 rfl) ?_)
                  refine WL.g rfl (g59) rfl (o_eq rfl rfl ?_)
                  refine WL.c rfl (o_pickA rfl rfl ?_)
                  refine WL.c rfl (o_ash (show _ = Value.bool _ from rfl) ?_)
                  refine WL.nil ?_
                  exact ⟨rfl, rfl, congrArg Value.bool (by rw [Bool.eq_iff_iff]; simp_all [okB] <;> omega), rfl⟩
                · skip
                  refine WL.s rfl (g59) rfl ?_
                  refine WL.s rfl (g59) rfl ?_
                  refine WL.s rfl (g59) rfl ?_
                  refine WL.c rfl (o_pickF rfl (g59) ?_)
                  refine WL.c rfl (o_ash (show _ = Value.bool _ from rfl) ?_)
                  refine WL.nil ?_
                  exact ⟨rfl, rfl, congrArg Value.bool (by rw [Bool.eq_iff_iff]; simp_all [okB] <;> omega), rfl⟩
              · skip
                refine WL.s rfl (g54) rfl ?_
                refine WL.s rfl (g54) rfl ?_
                refine WL.s rfl (g54) rfl ?_
                refine WL.c rfl (o_pickF rfl (g54) ?_)
                refine WL.c rfl (o_mvh (show _ = Value.bool _ from rfl) ?_)
                refine WL.s rfl (rfl) rfl ?_
                refine WL.s rfl (rfl) rfl ?_
                refine WL.s rfl (rfl) rfl ?_
                refine WL.c rfl (o_pickF rfl (rfl) ?_)
                refine WL.c rfl (o_ash (show _ = Value.bool _ from rfl) ?_)
                refine WL.nil ?_
                exact ⟨rfl, rfl, congrArg Value.bool (by rw [Bool.eq_iff_iff]; simp_all [okB] <;> omega), rfl⟩
            · try simp only [decide_eq_true_eq, decide_eq_false_iff_not, Bool.not_eq_true', Bool.not_eq_false', Bool.and_eq_true, Bool.or_eq_true, Bool.and_eq_false_iff, Bool.or_eq_false_iff] at c48
              refine W.seq ?_
              refine W.region ?_
              refine WL.c rfl (o_eq rfl rfl ?_)
              refine WL.c rfl (o_ash (show _ = Value.bool _ from rfl) ?_)
              refine WL.nil ?_
              refine W.cond rfl (fun c64 => ?_) (fun c64 => ?_)
              · try simp only [decide_eq_true_eq, decide_eq_false_iff_not, Bool.not_eq_true', Bool.not_eq_false', Bool.and_eq_true, Bool.or_eq_true, Bool.and_eq_false_iff, Bool.or_eq_false_iff] at c64
                refine W.region ?_
                refine WL.c rfl (o_fa 1 TI30 rfl TI3 rfl rfl ?_)
                refine WL.c rfl (o_ld TI3 rfl rfl (cell_of hC2 rfl) ?_)
                refine WL.c rfl (o_eq rfl rfl ?_)
                refine WL.c rfl (o_mvh (show _ = Value.bool _ from rfl) ?_)
                refine WL.sp 3 rfl (fun g69 => ?_) (fun g69 => ?_)
                · skip
                  refine WL.g rfl (g69) rfl (o_fa 5 TI30 rfl TI3 rfl rfl ?_)
                  refine WL.g rfl (g69) rfl (o_ld TI3 rfl rfl (cell_of hC2 rfl) ?_)
                  refine WL.g rfl (g69) rfl (o_eq rfl rfl ?_)
                  refine WL.c rfl (o_pickA rfl rfl ?_)
                  refine WL.c rfl (o_ash (show _ = Value.bool _ from rfl) ?_)
                  refine WL.nil ?_
                  exact ⟨rfl, rfl, congrArg Value.bool (by rw [Bool.eq_iff_iff]; simp_all [okB] <;> omega), rfl⟩
                · skip
                  refine WL.s rfl (g69) rfl ?_
                  refine WL.s rfl (g69) rfl ?_
                  refine WL.s rfl (g69) rfl ?_
                  refine WL.c rfl (o_pickF rfl (g69) ?_)
                  refine WL.c rfl (o_ash (show _ = Value.bool _ from rfl) ?_)
                  refine WL.nil ?_
                  exact ⟨rfl, rfl, congrArg Value.bool (by rw [Bool.eq_iff_iff]; simp_all [okB] <;> omega), rfl⟩
              · try simp only [decide_eq_true_eq, decide_eq_false_iff_not, Bool.not_eq_true', Bool.not_eq_false', Bool.and_eq_true, Bool.or_eq_true, Bool.and_eq_false_iff, Bool.or_eq_false_iff] at c64
                refine W.seq ?_
                refine W.seq ?_
                refine W.region ?_
                refine WL.c rfl (o_eq rfl rfl ?_)
                refine WL.c rfl (o_ash (show _ = Value.bool _ from rfl) ?_)
                refine WL.nil ?_
                refine W.cond rfl (fun c74 => ?_) (fun c74 => ?_)
                · try simp only [decide_eq_true_eq, decide_eq_false_iff_not, Bool.not_eq_true', Bool.not_eq_false', Bool.and_eq_true, Bool.or_eq_true, Bool.and_eq_false_iff, Bool.or_eq_false_iff] at c74
                  refine W.skip ?_
                  refine W.cond rfl (fun c74 => ?_) (fun c74 => ?_)
                  · try simp only [decide_eq_true_eq, decide_eq_false_iff_not, Bool.not_eq_true', Bool.not_eq_false', Bool.and_eq_true, Bool.or_eq_true, Bool.and_eq_false_iff, Bool.or_eq_false_iff] at c74
                    refine W.region ?_
                    refine WL.c rfl (o_fa 1 TI30 rfl TI3 rfl rfl ?_)
                    refine WL.c rfl (o_ld TI3 rfl rfl (cell_of hC2 rfl) ?_)
                    refine WL.c rfl (o_eq rfl rfl ?_)
                    refine WL.c rfl (o_mvh (show _ = Value.bool _ from rfl) ?_)
                    refine WL.sp 3 rfl (fun g80 => ?_) (fun g80 => ?_)
                    · skip
                      refine WL.g rfl (g80) rfl (o_fa 5 TI30 rfl TI3 rfl rfl ?_)
                      refine WL.g rfl (g80) rfl (o_ld TI3 rfl rfl (cell_of hC2 rfl) ?_)
                      refine WL.g rfl (g80) rfl (o_ge rfl rfl ?_)
                      refine WL.c rfl (o_pickA rfl rfl ?_)
                      refine WL.c rfl (o_ash (show _ = Value.bool _ from rfl) ?_)
                      refine WL.nil ?_
                      exact ⟨rfl, rfl, congrArg Value.bool (by rw [Bool.eq_iff_iff]; simp_all [okB] <;> omega), rfl⟩
                    · skip
                      refine WL.s rfl (g80) rfl ?_
                      refine WL.s rfl (g80) rfl ?_
                      refine WL.s rfl (g80) rfl ?_
                      refine WL.c rfl (o_pickF rfl (g80) ?_)
                      refine WL.c rfl (o_ash (show _ = Value.bool _ from rfl) ?_)
                      refine WL.nil ?_
                      exact ⟨rfl, rfl, congrArg Value.bool (by rw [Bool.eq_iff_iff]; simp_all [okB] <;> omega), rfl⟩
                  · try simp only [decide_eq_true_eq, decide_eq_false_iff_not, Bool.not_eq_true', Bool.not_eq_false', Bool.and_eq_true, Bool.or_eq_true, Bool.and_eq_false_iff, Bool.or_eq_false_iff] at c74
                    refine W.seq ?_
                    refine W.region ?_
                    refine WL.c rfl (o_ash (show _ = Value.bool _ from rfl) ?_)
                    refine WL.nil ?_
                    refine W.ret ?_
                    refine ret1v rfl (show _ = Value.bool _ from rfl) ?_
                    have h9 : okB x = false := by
                      unfold okB
                      repeat' split
                      all_goals first | rfl | omega
                    exact ⟨congrArg Value.bool (by rw [rightB, h9]; rfl), hx2⟩
                · try simp only [decide_eq_true_eq, decide_eq_false_iff_not, Bool.not_eq_true', Bool.not_eq_false', Bool.and_eq_true, Bool.or_eq_true, Bool.and_eq_false_iff, Bool.or_eq_false_iff] at c74
                  refine W.region ?_
                  refine WL.c rfl (o_eq rfl rfl ?_)
                  refine WL.c rfl (o_ash (show _ = Value.bool _ from rfl) ?_)
                  refine WL.nil ?_
                  refine W.cond rfl (fun c74 => ?_) (fun c74 => ?_)
                  · try simp only [decide_eq_true_eq, decide_eq_false_iff_not, Bool.not_eq_true', Bool.not_eq_false', Bool.and_eq_true, Bool.or_eq_true, Bool.and_eq_false_iff, Bool.or_eq_false_iff] at c74
                    refine W.region ?_
                    refine WL.c rfl (o_fa 1 TI30 rfl TI3 rfl rfl ?_)
                    refine WL.c rfl (o_ld TI3 rfl rfl (cell_of hC2 rfl) ?_)
                    refine WL.c rfl (o_eq rfl rfl ?_)
                    refine WL.c rfl (o_mvh (show _ = Value.bool _ from rfl) ?_)
                    refine WL.sp 3 rfl (fun g80 => ?_) (fun g80 => ?_)
                    · skip
                      refine WL.g rfl (g80) rfl (o_fa 5 TI30 rfl TI3 rfl rfl ?_)
                      refine WL.g rfl (g80) rfl (o_ld TI3 rfl rfl (cell_of hC2 rfl) ?_)
                      refine WL.g rfl (g80) rfl (o_ge rfl rfl ?_)
                      refine WL.c rfl (o_pickA rfl rfl ?_)
                      refine WL.c rfl (o_ash (show _ = Value.bool _ from rfl) ?_)
                      refine WL.nil ?_
                      exact ⟨rfl, rfl, congrArg Value.bool (by rw [Bool.eq_iff_iff]; simp_all [okB] <;> omega), rfl⟩
                    · skip
                      refine WL.s rfl (g80) rfl ?_
                      refine WL.s rfl (g80) rfl ?_
                      refine WL.s rfl (g80) rfl ?_
                      refine WL.c rfl (o_pickF rfl (g80) ?_)
                      refine WL.c rfl (o_ash (show _ = Value.bool _ from rfl) ?_)
                      refine WL.nil ?_
                      exact ⟨rfl, rfl, congrArg Value.bool (by rw [Bool.eq_iff_iff]; simp_all [okB] <;> omega), rfl⟩
                  · try simp only [decide_eq_true_eq, decide_eq_false_iff_not, Bool.not_eq_true', Bool.not_eq_false', Bool.and_eq_true, Bool.or_eq_true, Bool.and_eq_false_iff, Bool.or_eq_false_iff] at c74
                    refine W.seq ?_
                    refine W.region ?_
                    refine WL.c rfl (o_ash (show _ = Value.bool _ from rfl) ?_)
                    refine WL.nil ?_
                    refine W.ret ?_
                    refine ret1v rfl (show _ = Value.bool _ from rfl) ?_
                    have h9 : okB x = false := by
                      unfold okB
                      repeat' split
                      all_goals first | rfl | omega
                    exact ⟨congrArg Value.bool (by rw [rightB, h9]; rfl), hx2⟩
      · try simp only [decide_eq_true_eq, decide_eq_false_iff_not, Bool.not_eq_true', Bool.not_eq_false', Bool.and_eq_true, Bool.or_eq_true, Bool.and_eq_false_iff, Bool.or_eq_false_iff] at c36
        refine W.seq ?_
        refine W.region ?_
        refine WL.c rfl (o_eq rfl rfl ?_)
        refine WL.c rfl (o_ash (show _ = Value.bool _ from rfl) ?_)
        refine WL.nil ?_
        refine W.cond rfl (fun c36 => ?_) (fun c36 => ?_)
        · try simp only [decide_eq_true_eq, decide_eq_false_iff_not, Bool.not_eq_true', Bool.not_eq_false', Bool.and_eq_true, Bool.or_eq_true, Bool.and_eq_false_iff, Bool.or_eq_false_iff] at c36
          refine W.skip ?_
          refine W.cond rfl (fun c36 => ?_) (fun c36 => ?_)
          · try simp only [decide_eq_true_eq, decide_eq_false_iff_not, Bool.not_eq_true', Bool.not_eq_false', Bool.and_eq_true, Bool.or_eq_true, Bool.and_eq_false_iff, Bool.or_eq_false_iff] at c36
            refine W.region ?_
            refine WL.c rfl (o_fa 1 TI30 rfl TI3 rfl rfl ?_)
            refine WL.c rfl (o_ld TI3 rfl rfl (cell_of hC2 rfl) ?_)
            refine WL.c rfl (o_eq rfl rfl ?_)
            refine WL.c rfl (o_mvh (show _ = Value.bool _ from rfl) ?_)
            refine WL.sp 3 rfl (fun g43 => ?_) (fun g43 => ?_)
            · skip
              refine WL.g rfl (g43) rfl (o_fa 5 TI30 rfl TI3 rfl rfl ?_)
              refine WL.g rfl (g43) rfl (o_ld TI3 rfl rfl (cell_of hC2 rfl) ?_)
              refine WL.g rfl (g43) rfl (o_eq rfl rfl ?_)
              refine WL.c rfl (o_pickA rfl rfl ?_)
              refine WL.c rfl (o_ash (show _ = Value.bool _ from rfl) ?_)
              refine WL.nil ?_
              exact ⟨rfl, rfl, congrArg Value.bool (by rw [Bool.eq_iff_iff]; simp_all [okB] <;> omega), rfl⟩
            · skip
              refine WL.s rfl (g43) rfl ?_
              refine WL.s rfl (g43) rfl ?_
              refine WL.s rfl (g43) rfl ?_
              refine WL.c rfl (o_pickF rfl (g43) ?_)
              refine WL.c rfl (o_ash (show _ = Value.bool _ from rfl) ?_)
              refine WL.nil ?_
              exact ⟨rfl, rfl, congrArg Value.bool (by rw [Bool.eq_iff_iff]; simp_all [okB] <;> omega), rfl⟩
          · try simp only [decide_eq_true_eq, decide_eq_false_iff_not, Bool.not_eq_true', Bool.not_eq_false', Bool.and_eq_true, Bool.or_eq_true, Bool.and_eq_false_iff, Bool.or_eq_false_iff] at c36
            refine W.seq ?_
            refine W.seq ?_
            refine W.region ?_
            refine WL.c rfl (o_eq rfl rfl ?_)
            refine WL.c rfl (o_ash (show _ = Value.bool _ from rfl) ?_)
            refine WL.nil ?_
            refine W.cond rfl (fun c48 => ?_) (fun c48 => ?_)
            · try simp only [decide_eq_true_eq, decide_eq_false_iff_not, Bool.not_eq_true', Bool.not_eq_false', Bool.and_eq_true, Bool.or_eq_true, Bool.and_eq_false_iff, Bool.or_eq_false_iff] at c48
              refine W.skip ?_
              refine W.cond rfl (fun c48 => ?_) (fun c48 => ?_)
              · try simp only [decide_eq_true_eq, decide_eq_false_iff_not, Bool.not_eq_true', Bool.not_eq_false', Bool.and_eq_true, Bool.or_eq_true, Bool.and_eq_false_iff, Bool.or_eq_false_iff] at c48
                refine W.region ?_
                refine WL.c rfl (o_fa 1 TI30 rfl TI3 rfl rfl ?_)
                refine WL.c rfl (o_ld TI3 rfl rfl (cell_of hC2 rfl) ?_)
                refine WL.c rfl (o_ge rfl rfl ?_)
                refine WL.c rfl (o_mvh (show _ = Value.bool _ from rfl) ?_)
                refine WL.sp 3 rfl (fun g54 => ?_) (fun g54 => ?_)
                · skip
                  refine WL.g rfl (g54) rfl (o_fa 1 TI30 rfl TI3 rfl rfl ?_)
                  refine WL.g rfl (g54) rfl (o_ld TI3 rfl rfl (cell_of hC2 rfl) ?_)
                  refine WL.g rfl (g54) rfl (o_le rfl rfl ?_)
                  refine WL.c rfl (o_pickA rfl rfl ?_)
                  refine WL.c rfl (o_mvh (show _ = Value.bool _ from rfl) ?_)
                  refine WL.sp 8 rfl (fun g59 => ?_) (fun g59 => ?_)
                  · skip
                    refine WL.g rfl (g59) rfl (o_fa 5 TI30 rfl TI3 rfl rfl ?_)
                    refine WL.g rfl (g59) rfl (o_ld TI3 rfl rfl (cell_of hC2 rfl) ?_)
                    refine WL.g rfl (g59) rfl (o_eq rfl rfl ?_)
                    refine WL.c rfl (o_pickA rfl rfl ?_)
                    refine WL.c rfl (o_ash (show _ = Value.bool _ from rfl) ?_)
                    refine WL.nil ?_
                    exact ⟨rfl, rfl, congrArg Value.bool (by rw [Bool.eq_iff_iff]; simp_all [okB] <;> omega), rfl⟩
                  · skip
                    refine WL.s rfl (g59) rfl ?_
                    refine WL.s rfl (g59) rfl ?_
                    refine WL.s rfl (g59) rfl ?_
                    refine WL.c rfl (o_pickF rfl (g59) ?_)
                    refine WL.c rfl (o_ash (show _ = Value.bool _ from rfl) ?_)
                    refine WL.nil ?_
                    exact ⟨rfl, rfl, congrArg Value.bool (by rw [Bool.eq_iff_iff]; simp_all [okB] <;> omega), rfl⟩
                · skip
                  refine WL.s rfl (g54) rfl ?_
                  refine WL.s rfl (g54) rfl ?_
                  refine WL.s rfl (g54) rfl ?_
                  refine WL.c rfl (o_pickF rfl (g54) ?_)
                  refine WL.c rfl (o_mvh (show _ = Value.bool _ from rfl) ?_)
                  refine WL.s rfl (rfl) rfl ?_
                  refine WL.s rfl (rfl) rfl ?_
                  refine WL.s rfl (rfl) rfl ?_
                  refine WL.c rfl (o_pickF rfl (rfl) ?_)
                  refine WL.c rfl (o_ash (show _ = Value.bool _ from rfl) ?_)
                  refine WL.nil ?_
                  exact ⟨rfl, rfl, congrArg Value.bool (by rw [Bool.eq_iff_iff]; simp_all [okB] <;> omega), rfl⟩
              · try simp only [decide_eq_true_eq, decide_eq_false_iff_not, Bool.not_eq_true', Bool.not_eq_false', Bool.and_eq_true, Bool.or_eq_true, Bool.and_eq_false_iff, Bool.or_eq_false_iff] at c48
                refine W.seq ?_
                refine W.region ?_
                refine WL.c rfl (o_eq rfl rfl ?_)
                refine WL.c rfl (o_ash (show _ = Value.bool _ from rfl) ?_)
                refine WL.nil ?_
                refine W.cond rfl (fun c64 => ?_) (fun c64 => ?_)
                · try simp only [decide_eq_true_eq, decide_eq_false_iff_not, Bool.not_eq_true', Bool.not_eq_false', Bool.and_eq_true, Bool.or_eq_true, Bool.and_eq_false_iff, Bool.or_eq_false_iff] at c64
                  refine W.region ?_
                  refine WL.c rfl (o_fa 1 TI30 rfl TI3 rfl rfl ?_)
                  refine WL.c rfl (o_ld TI3 rfl rfl (cell_of hC2 rfl) ?_)
                  refine WL.c rfl (o_eq rfl rfl ?_)
                  refine WL.c rfl (o_mvh (show _ = Value.bool _ from rfl) ?_)
                  refine WL.sp 3 rfl (fun g69 => ?_) (fun g69 => ?_)
                  · skip
                    refine WL.g rfl (g69) rfl (o_fa 5 TI30 rfl TI3 rfl rfl ?_)
                    refine WL.g rfl (g69) rfl (o_ld TI3 rfl rfl (cell_of hC2 rfl) ?_)
                    refine WL.g rfl (g69) rfl (o_eq rfl rfl ?_)
                    refine WL.c rfl (o_pickA rfl rfl ?_)
                    refine WL.c rfl (o_ash (show _ = Value.bool _ from rfl) ?_)
                    refine WL.nil ?_
                    exact ⟨rfl, rfl, congrArg Value.bool (by rw [Bool.eq_iff_iff]; simp_all [okB] <;> omega), rfl⟩
                  · skip
                    refine WL.s rfl (g69) rfl ?_
                    refine WL.s rfl (g69) rfl ?_
                    refine WL.s rfl (g69) rfl ?_
                    refine WL.c rfl (o_pickF rfl (g69) ?_)
                    refine WL.c rfl (o_ash (show _ = Value.bool _ from rfl) ?_)
                    refine WL.nil ?_
                    exact ⟨rfl, rfl, congrArg Value.bool (by rw [Bool.eq_iff_iff]; simp_all [okB] <;> omega), rfl⟩
                · try simp only [decide_eq_true_eq, decide_eq_false_iff_not, Bool.not_eq_true', Bool.not_eq_false', Bool.and_eq_true, Bool.or_eq_true, Bool.and_eq_false_iff, Bool.or_eq_false_iff] at c64
                  refine W.seq ?_
                  refine W.seq ?_
                  refine W.region ?_
                  refine WL.c rfl (o_eq rfl rfl ?_)
                  refine WL.c rfl (o_ash (show _ = Value.bool _ from rfl) ?_)
                  refine WL.nil ?_
                  refine W.cond rfl (fun c74 => ?_) (fun c74 => ?_)
                  · try simp only [decide_eq_true_eq, decide_eq_false_iff_not, Bool.not_eq_true', Bool.not_eq_false', Bool.and_eq_true, Bool.or_eq_true, Bool.and_eq_false_iff, Bool.or_eq_false_iff] at c74
                    refine W.skip ?_
                    refine W.cond rfl (fun c74 => ?_) (fun c74 => ?_)
                    · try simp only [decide_eq_true_eq, decide_eq_false_iff_not, Bool.not_eq_true', Bool.not_eq_false', Bool.and_eq_true, Bool.or_eq_true, Bool.and_eq_false_iff, Bool.or_eq_false_iff] at c74
                      refine W.region ?_
                      refine WL.c rfl (o_fa 1 TI30 rfl TI3 rfl rfl ?_)
                      refine WL.c rfl (o_ld TI3 rfl rfl (cell_of hC2 rfl) ?_)
                      refine WL.c rfl (o_eq rfl rfl ?_)
                      refine WL.c rfl (o_mvh (show _ = Value.bool _ from rfl) ?_)
                      refine WL.sp 3 rfl (fun g80 => ?_) (fun g80 => ?_)
                      · skip
                        refine WL.g rfl (g80) rfl (o_fa 5 TI30 rfl TI3 rfl rfl ?_)
                        refine WL.g rfl (g80) rfl (o_ld TI3 rfl rfl (cell_of hC2 rfl) ?_)
                        refine WL.g rfl (g80) rfl (o_ge rfl rfl ?_)
                        refine WL.c rfl (o_pickA rfl rfl ?_)
                        refine WL.c rfl (o_ash (show _ = Value.bool _ from rfl) ?_)
                        refine WL.nil ?_
                        exact ⟨rfl, rfl, congrArg Value.bool (by rw [Bool.eq_iff_iff]; simp_all [okB] <;> omega), rfl⟩
                      · skip
                        refine WL.s rfl (g80) rfl ?_
                        refine WL.s rfl (g80) rfl ?_
                        refine WL.s rfl (g80) rfl ?_
                        refine WL.c rfl (o_pickF rfl (g80) ?_)
                        refine WL.c rfl (o_ash (show _ = Value.bool _ from rfl) ?_)
                        refine WL.nil ?_
                        exact ⟨rfl, rfl, congrArg Value.bool (by rw [Bool.eq_iff_iff]; simp_all [okB] <;> omega), rfl⟩
                    · try simp only [decide_eq_true_eq, decide_eq_false_iff_not, Bool.not_eq_true', Bool.not_eq_false', Bool.and_eq_true, Bool.or_eq_true, Bool.and_eq_false_iff, Bool.or_eq_false_iff] at c74
                      refine W.seq ?_
                      refine W.region ?_
                      refine WL.c rfl (o_ash (show _ = Value.bool _ from rfl) ?_)
                      refine WL.nil ?_
                      refine W.ret ?_
                      refine ret1v rfl (show _ = Value.bool _ from rfl) ?_
                      have h9 : okB x = false := by
                        unfold okB
                        repeat' split
                        all_goals first | rfl | omega
                      exact ⟨congrArg Value.bool (by rw [rightB, h9]; rfl), hx2⟩
                  · try simp only [decide_eq_true_eq, decide_eq_false_iff_not, Bool.not_eq_true', Bool.not_eq_false', Bool.and_eq_true, Bool.or_eq_true, Bool.and_eq_false_iff, Bool.or_eq_false_iff] at c74
                    refine W.region ?_
                    refine WL.c rfl (o_eq rfl rfl ?_)
                    refine WL.c rfl (o_ash (show _ = Value.bool _ from rfl) ?_)
                    refine WL.nil ?_
                    refine W.cond rfl (fun c74 => ?_) (fun c74 => ?_)
                    · try simp only [decide_eq_true_eq, decide_eq_false_iff_not, Bool.not_eq_true', Bool.not_eq_false', Bool.and_eq_true, Bool.or_eq_true, Bool.and_eq_false_iff, Bool.or_eq_false_iff] at c74
                      refine W.region ?_
                      refine WL.c rfl (o_fa 1 TI30 rfl TI3 rfl rfl ?_)
                      refine WL.c rfl (o_ld TI3 rfl rfl (cell_of hC2 rfl) ?_)
                      refine WL.c rfl (o_eq rfl rfl ?_)
                      refine WL.c rfl (o_mvh (show _ = Value.bool _ from rfl) ?_)
                      refine WL.sp 3 rfl (fun g80 => ?_) (fun g80 => ?_)
                      · skip
                        refine WL.g rfl (g80) rfl (o_fa 5 TI30 rfl TI3 rfl rfl ?_)
                        refine WL.g rfl (g80) rfl (o_ld TI3 rfl rfl (cell_of hC2 rfl) ?_)
                        refine WL.g rfl (g80) rfl (o_ge rfl rfl ?_)
                        refine WL.c rfl (o_pickA rfl rfl ?_)
                        refine WL.c rfl (o_ash (show _ = Value.bool _ from rfl) ?_)
                        refine WL.nil ?_
                        exact ⟨rfl, rfl, congrArg Value.bool (by rw [Bool.eq_iff_iff]; simp_all [okB] <;> omega), rfl⟩
                      · skip
                        refine WL.s rfl (g80) rfl ?_
                        refine WL.s rfl (g80) rfl ?_
                        refine WL.s rfl (g80) rfl ?_
                        refine WL.c rfl (o_pickF rfl (g80) ?_)
                        refine WL.c rfl (o_ash (show _ = Value.bool _ from rfl) ?_)
                        refine WL.nil ?_
                        exact ⟨rfl, rfl, congrArg Value.bool (by rw [Bool.eq_iff_iff]; simp_all [okB] <;> omega), rfl⟩
                    · try simp only [decide_eq_true_eq, decide_eq_false_iff_not, Bool.not_eq_true', Bool.not_eq_false', Bool.and_eq_true, Bool.or_eq_true, Bool.and_eq_false_iff, Bool.or_eq_false_iff] at c74
                      refine W.seq ?_
                      refine W.region ?_
                      refine WL.c rfl (o_ash (show _ = Value.bool _ from rfl) ?_)
                      refine WL.nil ?_
                      refine W.ret ?_
                      refine ret1v rfl (show _ = Value.bool _ from rfl) ?_
                      have h9 : okB x = false := by
                        unfold okB
                        repeat' split
                        all_goals first | rfl | omega
                      exact ⟨congrArg Value.bool (by rw [rightB, h9]; rfl), hx2⟩
            · try simp only [decide_eq_true_eq, decide_eq_false_iff_not, Bool.not_eq_true', Bool.not_eq_false', Bool.and_eq_true, Bool.or_eq_true, Bool.and_eq_false_iff, Bool.or_eq_false_iff] at c48
              refine W.region ?_
              refine WL.c rfl (o_eq rfl rfl ?_)
              refine WL.c rfl (o_ash (show _ = Value.bool _ from rfl) ?_)
              refine WL.nil ?_
              refine W.cond rfl (fun c48 => ?_) (fun c48 => ?_)
              · try simp only [decide_eq_true_eq, decide_eq_false_iff_not, Bool.not_eq_true', Bool.not_eq_false', Bool.and_eq_true, Bool.or_eq_true, Bool.and_eq_false_iff, Bool.or_eq_false_iff] at c48
                refine W.region ?_
                refine WL.c rfl (o_fa 1 TI30 rfl TI3 rfl rfl ?_)
                refine WL.c rfl (o_ld TI3 rfl rfl (cell_of hC2 rfl) ?_)
                refine WL.c rfl (o_ge rfl rfl ?_)
                refine WL.c rfl (o_mvh (show _ = Value.bool _ from rfl) ?_)
                refine WL.sp 3 rfl (fun g54 => ?_) (fun g54 => ?_)
                · skip
                  refine WL.g rfl (g54) rfl (o_fa 1 TI30 rfl TI3 rfl rfl ?_)
                  refine WL.g rfl (g54) rfl (o_ld TI3 rfl rfl (cell_of hC2 rfl) ?_)
                  refine WL.g rfl (g54) rfl (o_le rfl rfl ?_)
                  refine WL.c rfl (o_pickA rfl rfl ?_)
                  refine WL.c rfl (o_mvh (show _ = Value.bool _ from rfl) ?_)
                  refine WL.sp 8 rfl (fun g59 => ?_) (fun g59 => ?_)
                  · skip
                    refine WL.g rfl (g59) rfl (o_fa 5 TI30 rfl TI3 rfl rfl ?_)
                    refine WL.g rfl (g59) rfl (o_ld TI3 rfl rfl (cell_of hC2 rfl) ?_)
                    refine WL.g rfl (g59) rfl (o_eq rfl rfl ?_)
                    refine WL.c rfl (o_pickA rfl rfl ?_)
                    refine WL.c rfl (o_ash (show _ = Value.bool _ from rfl) ?_)
                    refine WL.nil ?_
                    exact ⟨rfl, rfl, congrArg Value.bool (by rw [Bool.eq_iff_iff]; simp_all [okB] <;> omega), rfl⟩
                  · skip
                    refine WL.s rfl (g59) rfl ?_
                    refine WL.s rfl (g59) rfl ?_
                    refine WL.s rfl (g59) rfl ?_
                    refine WL.c rfl (o_pickF rfl (g59) ?_)
                    refine WL.c rfl (o_ash (show _ = Value.bool _ from rfl) ?_)
                    refine WL.nil ?_
                    exact ⟨rfl, rfl, congrArg Value.bool (by rw [Bool.eq_iff_iff]; simp_all [okB] <;> omega), rfl⟩
                · skip
                  refine WL.s rfl (g54) rfl ?_
                  refine WL.s rfl (g54) rfl ?_
                  refine WL.s rfl (g54) rfl ?_
                  refine WL.c rfl (o_pickF rfl (g54) ?_)
                  refine WL.c rfl (o_mvh (show _ = Value.bool _ from rfl) ?_)
                  refine WL.s rfl (rfl) rfl ?_
                  refine WL.s rfl (rfl) rfl ?_
                  refine WL.s rfl (rfl) rfl ?_
                  refine WL.c rfl (o_pickF rfl (rfl) ?_)
                  refine WL.c rfl (o_ash (show _ = Value.bool _ from rfl) ?_)
                  refine WL.nil ?_
                  exact ⟨rfl, rfl, congrArg Value.bool (by rw [Bool.eq_iff_iff]; simp_all [okB] <;> omega), rfl⟩
              · try simp only [decide_eq_true_eq, decide_eq_false_iff_not, Bool.not_eq_true', Bool.not_eq_false', Bool.and_eq_true, Bool.or_eq_true, Bool.and_eq_false_iff, Bool.or_eq_false_iff] at c48
                refine W.seq ?_
                refine W.region ?_
                refine WL.c rfl (o_eq rfl rfl ?_)
                refine WL.c rfl (o_ash (show _ = Value.bool _ from rfl) ?_)
                refine WL.nil ?_
                refine W.cond rfl (fun c64 => ?_) (fun c64 => ?_)
                · try simp only [decide_eq_true_eq, decide_eq_false_iff_not, Bool.not_eq_true', Bool.not_eq_false', Bool.and_eq_true, Bool.or_eq_true, Bool.and_eq_false_iff, Bool.or_eq_false_iff] at c64
                  refine W.region ?_
                  refine WL.c rfl (o_fa 1 TI30 rfl TI3 rfl rfl ?_)
                  refine WL.c rfl (o_ld TI3 rfl rfl (cell_of hC2 rfl) ?_)
                  refine WL.c rfl (o_eq rfl rfl ?_)
                  refine WL.c rfl (o_mvh (show _ = Value.bool _ from rfl) ?_)
                  refine WL.sp 3 rfl (fun g69 => ?_) (fun g69 => ?_)
                  · skip
                    refine WL.g rfl (g69) rfl (o_fa 5 TI30 rfl TI3 rfl rfl ?_)
                    refine WL.g rfl (g69) rfl (o_ld TI3 rfl rfl (cell_of hC2 rfl) ?_)
                    refine WL.g rfl (g69) rfl (o_eq rfl rfl ?_)
                    refine WL.c rfl (o_pickA rfl rfl ?_)
                    refine WL.c rfl (o_ash (show _ = Value.bool _ from rfl) ?_)
                    refine WL.nil ?_
                    exact ⟨rfl, rfl, congrArg Value.bool (by rw [Bool.eq_iff_iff]; simp_all [okB] <;> omega), rfl⟩
                  · skip
                    refine WL.s rfl (g69) rfl ?_
                    refine WL.s rfl (g69) rfl ?_
                    refine WL.s rfl (g69) rfl ?_
                    refine WL.c rfl (o_pickF rfl (g69) ?_)
                    refine WL.c rfl (o_ash (show _ = Value.bool _ from rfl) ?_)
                    refine WL.nil ?_
                    exact ⟨rfl, rfl, congrArg Value.bool (by rw [Bool.eq_iff_iff]; simp_all [okB] <;> omega), rfl⟩
                · try simp only [decide_eq_true_eq, decide_eq_false_iff_not, Bool.not_eq_true', Bool.not_eq_false', Bool.and_eq_true, Bool.or_eq_true, Bool.and_eq_false_iff, Bool.or_eq_false_iff] at c64
                  refine W.seq ?_
                  refine W.seq ?_
                  refine W.region ?_
                  refine WL.c rfl (o_eq rfl rfl ?_)
                  refine WL.c rfl (o_ash (show _ = Value.bool _ from rfl) ?_)
                  refine WL.nil ?_
                  refine W.cond rfl (fun c74 => ?_) (fun c74 => ?_)
                  · try simp only [decide_eq_true_eq, decide_eq_false_iff_not, Bool.not_eq_true', Bool.not_eq_false', Bool.and_eq_true, Bool.or_eq_true, Bool.and_eq_false_iff, Bool.or_eq_false_iff] at c74
                    refine W.skip ?_
                    refine W.cond rfl (fun c74 => ?_) (fun c74 => ?_)
                    · try simp only [decide_eq_true_eq, decide_eq_false_iff_not, Bool.not_eq_true', Bool.not_eq_false', Bool.and_eq_true, Bool.or_eq_true, Bool.and_eq_false_iff, Bool.or_eq_false_iff] at c74
                      refine W.region ?_
                      refine WL.c rfl (o_fa 1 TI30 rfl TI3 rfl rfl ?_)
                      refine WL.c rfl (o_ld TI3 rfl rfl (cell_of hC2 rfl) ?_)
                      refine WL.c rfl (o_eq rfl rfl ?_)
                      refine WL.c rfl (o_mvh (show _ = Value.bool _ from rfl) ?_)
                      refine WL.sp 3 rfl (fun g80 => ?_) (fun g80 => ?_)
                      · skip
                        refine WL.g rfl (g80) rfl (o_fa 5 TI30 rfl TI3 rfl rfl ?_)
                        refine WL.g rfl (g80) rfl (o_ld TI3 rfl rfl (cell_of hC2 rfl) ?_)
                        refine WL.g rfl (g80) rfl (o_ge rfl rfl ?_)
                        refine WL.c rfl (o_pickA rfl rfl ?_)
                        refine WL.c rfl (o_ash (show _ = Value.bool _ from rfl) ?_)
                        refine WL.nil ?_
                        exact ⟨rfl, rfl, congrArg Value.bool (by rw [Bool.eq_iff_iff]; simp_all [okB] <;> omega), rfl⟩
                      · skip
                        refine WL.s rfl (g80) rfl ?_
                        refine WL.s rfl (g80) rfl ?_
                        refine WL.s rfl (g80) rfl ?_
                        refine WL.c rfl (o_pickF rfl (g80) ?_)
                        refine WL.c rfl (o_ash (show _ = Value.bool _ from rfl) ?_)
                        refine WL.nil ?_
                        exact ⟨rfl, rfl, congrArg Value.bool (by rw [Bool.eq_iff_iff]; simp_all [okB] <;> omega), rfl⟩
                    · try simp only [decide_eq_true_eq, decide_eq_false_iff_not, Bool.not_eq_true', Bool.not_eq_false', Bool.and_eq_true, Bool.or_eq_true, Bool.and_eq_false_iff, Bool.or_eq_false_iff] at c74
                      refine W.seq ?_
                      refine W.region ?_
                      refine WL.c rfl (o_ash (show _ = Value.bool _ from rfl) ?_)
                      refine WL.nil ?_
                      refine W.ret ?_
                      refine ret1v rfl (show _ = Value.bool _ from rfl) ?_
                      have h9 : okB x = false := by
                        unfold okB
                        repeat' split
                        all_goals first | rfl | omega
                      exact ⟨congrArg Value.bool (by rw [rightB, h9]; rfl), hx2⟩
                  · try simp only [decide_eq_true_eq, decide_eq_false_iff_not, Bool.not_eq_true', Bool.not_eq_false', Bool.and_eq_true, Bool.or_eq_true, Bool.and_eq_false_iff, Bool.or_eq_false_iff] at c74
                    refine W.region ?_
                    refine WL.c rfl (o_eq rfl rfl ?_)
                    refine WL.c rfl (o_ash (show _ = Value.bool _ from rfl) ?_)
                    refine WL.nil ?_
                    refine W.cond rfl (fun c74 => ?_) (fun c74 => ?_)
                    · try simp only [decide_eq_true_eq, decide_eq_false_iff_not, Bool.not_eq_true', Bool.not_eq_false', Bool.and_eq_true, Bool.or_eq_true, Bool.and_eq_false_iff, Bool.or_eq_false_iff] at c74
                      refine W.region ?_
                      refine WL.c rfl (o_fa 1 TI30 rfl TI3 rfl rfl ?_)
                      refine WL.c rfl (o_ld TI3 rfl rfl (cell_of hC2 rfl) ?_)
                      refine WL.c rfl (o_eq rfl rfl ?_)
                      refine WL.c rfl (o_mvh (show _ = Value.bool _ from rfl) ?_)
                      refine WL.sp 3 rfl (fun g80 => ?_) (fun g80 => ?_)
                      · skip
                        refine WL.g rfl (g80) rfl (o_fa 5 TI30 rfl TI3 rfl rfl ?_)
                        refine WL.g rfl (g80) rfl (o_ld TI3 rfl rfl (cell_of hC2 rfl) ?_)
                        refine WL.g rfl (g80) rfl (o_ge rfl rfl ?_)
                        refine WL.c rfl (o_pickA rfl rfl ?_)
                        refine WL.c rfl (o_ash (show _ = Value.bool _ from rfl) ?_)
                        refine WL.nil ?_
                        exact ⟨rfl, rfl, congrArg Value.bool (by rw [Bool.eq_iff_iff]; simp_all [okB] <;> omega), rfl⟩
                      · skip
                        refine WL.s rfl (g80) rfl ?_
                        refine WL.s rfl (g80) rfl ?_
                        refine WL.s rfl (g80) rfl ?_
                        refine WL.c rfl (o_pickF rfl (g80) ?_)
                        refine WL.c rfl (o_ash (show _ = Value.bool _ from rfl) ?_)
                        refine WL.nil ?_
                        exact ⟨rfl, rfl, congrArg Value.bool (by rw [Bool.eq_iff_iff]; simp_all [okB] <;> omega), rfl⟩
                    · try simp only [decide_eq_true_eq, decide_eq_false_iff_not, Bool.not_eq_true', Bool.not_eq_false', Bool.and_eq_true, Bool.or_eq_true, Bool.and_eq_false_iff, Bool.or_eq_false_iff] at c74
                      refine W.seq ?_
                      refine W.region ?_
                      refine WL.c rfl (o_ash (show _ = Value.bool _ from rfl) ?_)
                      refine WL.nil ?_
                      refine W.ret ?_
                      refine ret1v rfl (show _ = Value.bool _ from rfl) ?_
                      have h9 : okB x = false := by
                        unfold okB
                        repeat' split
                        all_goals first | rfl | omega
                      exact ⟨congrArg Value.bool (by rw [rightB, h9]; rfl), hx2⟩
        · try simp only [decide_eq_true_eq, decide_eq_false_iff_not, Bool.not_eq_true', Bool.not_eq_false', Bool.and_eq_true, Bool.or_eq_true, Bool.and_eq_false_iff, Bool.or_eq_false_iff] at c36
          refine W.region ?_
          refine WL.c rfl (o_eq rfl rfl ?_)
          refine WL.c rfl (o_ash (show _ = Value.bool _ from rfl) ?_)
          refine WL.nil ?_
          refine W.cond rfl (fun c36 => ?_) (fun c36 => ?_)
          · try simp only [decide_eq_true_eq, decide_eq_false_iff_not, Bool.not_eq_true', Bool.not_eq_false', Bool.and_eq_true, Bool.or_eq_true, Bool.and_eq_false_iff, Bool.or_eq_false_iff] at c36
            refine W.region ?_
            refine WL.c rfl (o_fa 1 TI30 rfl TI3 rfl rfl ?_)
            refine WL.c rfl (o_ld TI3 rfl rfl (cell_of hC2 rfl) ?_)
            refine WL.c rfl (o_eq rfl rfl ?_)
            refine WL.c rfl (o_mvh (show _ = Value.bool _ from rfl) ?_)
            refine WL.sp 3 rfl (fun g43 => ?_) (fun g43 => ?_)
            · skip
              refine WL.g rfl (g43) rfl (o_fa 5 TI30 rfl TI3 rfl rfl ?_)
              refine WL.g rfl (g43) rfl (o_ld TI3 rfl rfl (cell_of hC2 rfl) ?_)
              refine WL.g rfl (g43) rfl (o_eq rfl rfl ?_)
              refine WL.c rfl (o_pickA rfl rfl ?_)
              refine WL.c rfl (o_ash (show _ = Value.bool _ from rfl) ?_)
              refine WL.nil ?_
              exact ⟨rfl, rfl, congrArg Value.bool (by rw [Bool.eq_iff_iff]; simp_all [okB] <;> omega), rfl⟩
            · skip
              refine WL.s rfl (g43) rfl ?_
              refine WL.s rfl (g43) rfl ?_
              refine WL.s rfl (g43) rfl ?_
              refine WL.c rfl (o_pickF rfl (g43) ?_)
              refine WL.c rfl (o_ash (show _ = Value.bool _ from rfl) ?_)
              refine WL.nil ?_
              exact ⟨rfl, rfl, congrArg Value.bool (by rw [Bool.eq_iff_iff]; simp_all [okB] <;> omega), rfl⟩
          · try simp only [decide_eq_true_eq, decide_eq_false_iff_not, Bool.not_eq_true', Bool.not_eq_false', Bool.and_eq_true, Bool.or_eq_true, Bool.and_eq_false_iff, Bool.or_eq_false_iff] at c36
            refine W.seq ?_
            refine W.seq ?_
            refine W.region ?_
            refine WL.c rfl (o_eq rfl rfl ?_)
            refine WL.c rfl (o_ash (show _ = Value.bool _ from rfl) ?_)
            refine WL.nil ?_
            refine W.cond rfl (fun c48 => ?_) (fun c48 => ?_)
            · try simp only [decide_eq_true_eq, decide_eq_false_iff_not, Bool.not_eq_true', Bool.not_eq_false', Bool.and_eq_true, Bool.or_eq_true, Bool.and_eq_false_iff, Bool.or_eq_false_iff] at c48
              refine W.skip ?_
              refine W.cond rfl (fun c48 => ?_) (fun c48 => ?_)
              · try simp only [decide_eq_true_eq, decide_eq_false_iff_not, Bool.not_eq_true', Bool.not_eq_false', Bool.and_eq_true, Bool.or_eq_true, Bool.and_eq_false_iff, Bool.or_eq_false_iff] at c48
                refine W.region ?_
                refine WL.c rfl (o_fa 1 TI30 rfl TI3 rfl rfl ?_)
                refine WL.c rfl (o_ld TI3 rfl rfl (cell_of hC2 rfl) ?_)
                refine WL.c rfl (o_ge rfl rfl ?_)
                refine WL.c rfl (o_mvh (show _ = Value.bool _ from rfl) ?_)
                refine WL.sp 3 rfl (fun g54 => ?_) (fun g54 => ?_)
                · skip
                  refine WL.g rfl (g54) rfl (o_fa 1 TI30 rfl TI3 rfl rfl ?_)
                  refine WL.g rfl (g54) rfl (o_ld TI3 rfl rfl (cell_of hC2 rfl) ?_)
                  refine WL.g rfl (g54) rfl (o_le rfl rfl ?_)
                  refine WL.c rfl (o_pickA rfl rfl ?_)
                  refine WL.c rfl (o_mvh (show _ = Value.bool _ from rfl) ?_)
                  refine WL.sp 8 rfl (fun g59 => ?_) (fun g59 => ?_)
                  · skip
                    refine WL.g rfl (g59) rfl (o_fa 5 TI30 rfl TI3 rfl rfl ?_)
                    refine WL.g rfl (g59) rfl (o_ld TI3 rfl rfl (cell_of hC2 rfl) ?_)
                    refine WL.g rfl (g59) rfl (o_eq rfl rfl ?_)
                    refine WL.c rfl (o_pickA rfl rfl ?_)
                    refine WL.c rfl (o_ash (show _ = Value.bool _ from rfl) ?_)
                    refine WL.nil ?_
                    exact ⟨rfl, rfl, congrArg Value.bool (by rw [Bool.eq_iff_iff]; simp_all [okB] <;> omega), rfl⟩
                  · skip
                    refine WL.s rfl (g59) rfl ?_
                    refine WL.s rfl (g59) rfl ?_
                    refine WL.s rfl (g59) rfl ?_
                    refine WL.c rfl (o_pickF rfl (g59) ?_)
                    refine WL.c rfl (o_ash (show _ = Value.bool _ from rfl) ?_)
                    refine WL.nil ?_
                    exact ⟨rfl, rfl, congrArg Value.bool (by rw [Bool.eq_iff_iff]; simp_all [okB] <;> omega), rfl⟩
                · skip
                  refine WL.s rfl (g54) rfl ?_
                  refine WL.s rfl (g54) rfl ?_
                  refine WL.s rfl (g54) rfl ?_
                  refine WL.c rfl (o_pickF rfl (g54) ?_)
                  refine WL.c rfl (o_mvh (show _ = Value.bool _ from rfl) ?_)
                  refine WL.s rfl (rfl) rfl ?_
                  refine WL.s rfl (rfl) rfl ?_
                  refine WL.s rfl (rfl) rfl ?_
                  refine WL.c rfl (o_pickF rfl (rfl) ?_)
                  refine WL.c rfl (o_ash (show _ = Value.bool _ from rfl) ?_)
                  refine WL.nil ?_
                  exact ⟨rfl, rfl, congrArg Value.bool (by rw [Bool.eq_iff_iff]; simp_all [okB] <;> omega), rfl⟩
              · try simp only [decide_eq_true_eq, decide_eq_false_iff_not, Bool.not_eq_true', Bool.not_eq_false', Bool.and_eq_true, Bool.or_eq_true, Bool.and_eq_false_iff, Bool.or_eq_false_iff] at c48
                refine W.seq ?_
                refine W.region ?_
                refine WL.c rfl (o_eq rfl rfl ?_)
                refine WL.c rfl (o_ash (show _ = Value.bool _ from rfl) ?_)
                refine WL.nil ?_
                refine W.cond rfl (fun c64 => ?_) (fun c64 => ?_)
                · try simp only [decide_eq_true_eq, decide_eq_false_iff_not, Bool.not_eq_true', Bool.not_eq_false', Bool.and_eq_true, Bool.or_eq_true, Bool.and_eq_false_iff, Bool.or_eq_false_iff] at c64
                  refine W.region ?_
                  refine WL.c rfl (o_fa 1 TI30 rfl TI3 rfl rfl ?_)
                  refine WL.c rfl (o_ld TI3 rfl rfl (cell_of hC2 rfl) ?_)
                  refine WL.c rfl (o_eq rfl rfl ?_)
                  refine WL.c rfl (o_mvh (show _ = Value.bool _ from rfl) ?_)
                  refine WL.sp 3 rfl (fun g69 => ?_) (fun g69 => ?_)
                  · skip
                    refine WL.g rfl (g69) rfl (o_fa 5 TI30 rfl TI3 rfl rfl ?_)
                    refine WL.g rfl (g69) rfl (o_ld TI3 rfl rfl (cell_of hC2 rfl) ?_)
                    refine WL.g rfl (g69) rfl (o_eq rfl rfl ?_)
                    refine WL.c rfl (o_pickA rfl rfl ?_)
                    refine WL.c rfl (o_ash (show _ = Value.bool _ from rfl) ?_)
                    refine WL.nil ?_
                    exact ⟨rfl, rfl, congrArg Value.bool (by rw [Bool.eq_iff_iff]; simp_all [okB] <;> omega), rfl⟩
                  · skip
                    refine WL.s rfl (g69) rfl ?_
                    refine WL.s rfl (g69) rfl ?_
                    refine WL.s rfl (g69) rfl ?_
                    refine WL.c rfl (o_pickF rfl (g69) ?_)
                    refine WL.c rfl (o_ash (show _ = Value.bool _ from rfl) ?_)
                    refine WL.nil ?_
                    exact ⟨rfl, rfl, congrArg Value.bool (by rw [Bool.eq_iff_iff]; simp_all [okB] <;> omega), rfl⟩
                · try simp only [decide_eq_true_eq, decide_eq_false_iff_not, Bool.not_eq_true', Bool.not_eq_false', Bool.and_eq_true, Bool.or_eq_true, Bool.and_eq_false_iff, Bool.or_eq_false_iff] at c64
                  refine W.seq ?_
                  refine W.seq ?_
                  refine W.region ?_
                  refine WL.c rfl (o_eq rfl rfl ?_)
                  refine WL.c rfl (o_ash (show _ = Value.bool _ from rfl) ?_)
                  refine WL.nil ?_
                  refine W.cond rfl (fun c74 => ?_) (fun c74 => ?_)
                  · try simp only [decide_eq_true_eq, decide_eq_false_iff_not, Bool.not_eq_true', Bool.not_eq_false', Bool.and_eq_true, Bool.or_eq_true, Bool.and_eq_false_iff, Bool.or_eq_false_iff] at c74
                    refine W.skip ?_
                    refine W.cond rfl (fun c74 => ?_) (fun c74 => ?_)
                    · try simp only [decide_eq_true_eq, decide_eq_false_iff_not, Bool.not_eq_true', Bool.not_eq_false', Bool.and_eq_true, Bool.or_eq_true, Bool.and_eq_false_iff, Bool.or_eq_false_iff] at c74
                      refine W.region ?_
                      refine WL.c rfl (o_fa 1 TI30 rfl TI3 rfl rfl ?_)
                      refine WL.c rfl (o_ld TI3 rfl rfl (cell_of hC2 rfl) ?_)
                      refine WL.c rfl (o_eq rfl rfl ?_)
                      refine WL.c rfl (o_mvh (show _ = Value.bool _ from rfl) ?_)
                      refine WL.sp 3 rfl (fun g80 => ?_) (fun g80 => ?_)
                      · skip
                        refine WL.g rfl (g80) rfl (o_fa 5 TI30 rfl TI3 rfl rfl ?_)
                        refine WL.g rfl (g80) rfl (o_ld TI3 rfl rfl (cell_of hC2 rfl) ?_)
                        refine WL.g rfl (g80) rfl (o_ge rfl rfl ?_)
                        refine WL.c rfl (o_pickA rfl rfl ?_)
                        refine WL.c rfl (o_ash (show _ = Value.bool _ from rfl) ?_)
                        refine WL.nil ?_
                        exact ⟨rfl, rfl, congrArg Value.bool (by rw [Bool.eq_iff_iff]; simp_all [okB] <;> omega), rfl⟩
                      · skip
                        refine WL.s rfl (g80) rfl ?_
                        refine WL.s rfl (g80) rfl ?_
                        refine WL.s rfl (g80) rfl ?_
                        refine WL.c rfl (o_pickF rfl (g80) ?_)
                        refine WL.c rfl (o_ash (show _ = Value.bool _ from rfl) ?_)
                        refine WL.nil ?_
                        exact ⟨rfl, rfl, congrArg Value.bool (by rw [Bool.eq_iff_iff]; simp_all [okB] <;> omega), rfl⟩
                    · try simp only [decide_eq_true_eq, decide_eq_false_iff_not, Bool.not_eq_true', Bool.not_eq_false', Bool.and_eq_true, Bool.or_eq_true, Bool.and_eq_false_iff, Bool.or_eq_false_iff] at c74
                      refine W.seq ?_
                      refine W.region ?_
                      refine WL.c rfl (o_ash (show _ = Value.bool _ from rfl) ?_)
                      refine WL.nil ?_
                      refine W.ret ?_
                      refine ret1v rfl (show _ = Value.bool _ from rfl) ?_
                      have h9 : okB x = false := by
                        unfold okB
                        repeat' split
                        all_goals first | rfl | omega
                      exact ⟨congrArg Value.bool (by rw [rightB, h9]; rfl), hx2⟩
                  · try simp only [decide_eq_true_eq, decide_eq_false_iff_not, Bool.not_eq_true', Bool.not_eq_false', Bool.and_eq_true, Bool.or_eq_true, Bool.and_eq_false_iff, Bool.or_eq_false_iff] at c74
                    refine W.region ?_
                    refine WL.c rfl (o_eq rfl rfl ?_)
                    refine WL.c rfl (o_ash (show _ = Value.bool _ from rfl) ?_)
                    refine WL.nil ?_
                    refine W.cond rfl (fun c74 => ?_) (fun c74 => ?_)
                    · try simp only [decide_eq_true_eq, decide_eq_false_iff_not, Bool.not_eq_true', Bool.not_eq_false', Bool.and_eq_true, Bool.or_eq_true, Bool.and_eq_false_iff, Bool.or_eq_false_iff] at c74
                      refine W.region ?_
                      refine WL.c rfl (o_fa 1 TI30 rfl TI3 rfl rfl ?_)
                      refine WL.c rfl (o_ld TI3 rfl rfl (cell_of hC2 rfl) ?_)
                      refine WL.c rfl (o_eq rfl rfl ?_)
                      refine WL.c rfl (o_mvh (show _ = Value.bool _ from rfl) ?_)
                      refine WL.sp 3 rfl (fun g80 => ?_) (fun g80 => ?_)
                      · skip
                        refine WL.g rfl (g80) rfl (o_fa 5 TI30 rfl TI3 rfl rfl ?_)
                        refine WL.g rfl (g80) rfl (o_ld TI3 rfl rfl (cell_of hC2 rfl) ?_)
                        refine WL.g rfl (g80) rfl (o_ge rfl rfl ?_)
                        refine WL.c rfl (o_pickA rfl rfl ?_)
                        refine WL.c rfl (o_ash (show _ = Value.bool _ from rfl) ?_)
                        refine WL.nil ?_
                        exact ⟨rfl, rfl, congrArg Value.bool (by rw [Bool.eq_iff_iff]; simp_all [okB] <;> omega), rfl⟩
                      · skip
                        refine WL.s rfl (g80) rfl ?_
                        refine WL.s rfl (g80) rfl ?_
                        refine WL.s rfl (g80) rfl ?_
                        refine WL.c rfl (o_pickF rfl (g80) ?_)
                        refine WL.c rfl (o_ash (show _ = Value.bool _ from rfl) ?_)
                        refine WL.nil ?_
                        exact ⟨rfl, rfl, congrArg Value.bool (by rw [Bool.eq_iff_iff]; simp_all [okB] <;> omega), rfl⟩
                    · try simp only [decide_eq_true_eq, decide_eq_false_iff_not, Bool.not_eq_true', Bool.not_eq_false', Bool.and_eq_true, Bool.or_eq_true, Bool.and_eq_false_iff, Bool.or_eq_false_iff] at c74
                      refine W.seq ?_
                      refine W.region ?_
                      refine WL.c rfl (o_ash (show _ = Value.bool _ from rfl) ?_)
                      refine WL.nil ?_
                      refine W.ret ?_
                      refine ret1v rfl (show _ = Value.bool _ from rfl) ?_
                      have h9 : okB x = false := by
                        unfold okB
                        repeat' split
                        all_goals first | rfl | omega
                      exact ⟨congrArg Value.bool (by rw [rightB, h9]; rfl), hx2⟩
            · try simp only [decide_eq_true_eq, decide_eq_false_iff_not, Bool.not_eq_true', Bool.not_eq_false', Bool.and_eq_true, Bool.or_eq_true, Bool.and_eq_false_iff, Bool.or_eq_false_iff] at c48
              refine W.region ?_
              refine WL.c rfl (o_eq rfl rfl ?_)
              refine WL.c rfl (o_ash (show _ = Value.bool _ from rfl) ?_)
              refine WL.nil ?_
              refine W.cond rfl (fun c48 => ?_) (fun c48 => ?_)
              · try simp only [decide_eq_true_eq, decide_eq_false_iff_not, Bool.not_eq_true', Bool.not_eq_false', Bool.and_eq_true, Bool.or_eq_true, Bool.and_eq_false_iff, Bool.or_eq_false_iff] at c48
                refine W.region ?_
                refine WL.c rfl (o_fa 1 TI30 rfl TI3 rfl rfl ?_)
                refine WL.c rfl (o_ld TI3 rfl rfl (cell_of hC2 rfl) ?_)
                refine WL.c rfl (o_ge rfl rfl ?_)
                refine WL.c rfl (o_mvh (show _ = Value.bool _ from rfl) ?_)
                refine WL.sp 3 rfl (fun g54 => ?_) (fun g54 => ?_)
                · skip
                  refine WL.g rfl (g54) rfl (o_fa 1 TI30 rfl TI3 rfl rfl ?_)
                  refine WL.g rfl (g54) rfl (o_ld TI3 rfl rfl (cell_of hC2 rfl) ?_)
                  refine WL.g rfl (g54) rfl (o_le rfl rfl ?_)
                  refine WL.c rfl (o_pickA rfl rfl ?_)
                  refine WL.c rfl (o_mvh (show _ = Value.bool _ from rfl) ?_)
                  refine WL.sp 8 rfl (fun g59 => ?_) (fun g59 => ?_)
                  · skip
                    refine WL.g rfl (g59) rfl (o_fa 5 TI30 rfl TI3 rfl rfl ?_)
                    refine WL.g rfl (g59) rfl (o_ld TI3 rfl rfl (cell_of hC2 rfl) ?_)
                    refine WL.g rfl (g59) rfl (o_eq rfl rfl ?_)
                    refine WL.c rfl (o_pickA rfl rfl ?_)
                    refine WL.c rfl (o_ash (show _ = Value.bool _ from rfl) ?_)
                    refine WL.nil ?_
                    exact ⟨rfl, rfl, congrArg Value.bool (by rw [Bool.eq_iff_iff]; simp_all [okB] <;> omega), rfl⟩
                  · skip
                    refine WL.s rfl (g59) rfl ?_
                    refine WL.s rfl (g59) rfl ?_
                    refine WL.s rfl (g59) rfl ?_
                    refine WL.c rfl (o_pickF rfl (g59) ?_)
                    refine WL.c rfl (o_ash (show _ = Value.bool _ from rfl) ?_)
                    refine WL.nil ?_
                    exact ⟨rfl, rfl, congrArg Value.bool (by rw [Bool.eq_iff_iff]; simp_all [okB] <;> omega), rfl⟩
                · skip
                  refine WL.s rfl (g54) rfl ?_
                  refine WL.s rfl (g54) rfl ?_
                  refine WL.s rfl (g54) rfl ?_
                  refine WL.c rfl (o_pickF rfl (g54) ?_)
                  refine WL.c rfl (o_mvh (show _ = Value.bool _ from rfl) ?_)
                  refine WL.s rfl (rfl) rfl ?_
                  refine WL.s rfl (rfl) rfl ?_
                  refine WL.s rfl (rfl) rfl ?_
                  refine WL.c rfl (o_pickF rfl (rfl) ?_)
                  refine WL.c rfl (o_ash (show _ = Value.bool _ from rfl) ?_)
                  refine WL.nil ?_
                  exact ⟨rfl, rfl, congrArg Value.bool (by rw [Bool.eq_iff_iff]; simp_all [okB] <;> omega), rfl⟩
              · try simp only [decide_eq_true_eq, decide_eq_false_iff_not, Bool.not_eq_true', Bool.not_eq_false', Bool.and_eq_true, Bool.or_eq_true, Bool.and_eq_false_iff, Bool.or_eq_false_iff] at c48
                refine W.seq ?_
                refine W.region ?_
                refine WL.c rfl (o_eq rfl rfl ?_)
                refine WL.c rfl (o_ash (show _ = Value.bool _ from rfl) ?_)
                refine WL.nil ?_
                refine W.cond rfl (fun c64 => ?_) (fun c64 => ?_)
                · try simp only [decide_eq_true_eq, decide_eq_false_iff_not, Bool.not_eq_true', Bool.not_eq_false', Bool.and_eq_true, Bool.or_eq_true, Bool.and_eq_false_iff, Bool.or_eq_false_iff] at c64
                  refine W.region ?_
                  refine WL.c rfl (o_fa 1 TI30 rfl TI3 rfl rfl ?_)
                  refine WL.c rfl (o_ld TI3 rfl rfl (cell_of hC2 rfl) ?_)
                  refine WL.c rfl (o_eq rfl rfl ?_)
                  refine WL.c rfl (o_mvh (show _ = Value.bool _ from rfl) ?_)
                  refine WL.sp 3 rfl (fun g69 => ?_) (fun g69 => ?_)
                  · skip
                    refine WL.g rfl (g69) rfl (o_fa 5 TI30 rfl TI3 rfl rfl ?_)
                    refine WL.g rfl (g69) rfl (o_ld TI3 rfl rfl (cell_of hC2 rfl) ?_)
                    refine WL.g rfl (g69) rfl (o_eq rfl rfl ?_)
                    refine WL.c rfl (o_pickA rfl rfl ?_)
                    refine WL.c rfl (o_ash (show _ = Value.bool _ from rfl) ?_)
                    refine WL.nil ?_
                    exact ⟨rfl, rfl, congrArg Value.bool (by rw [Bool.eq_iff_iff]; simp_all [okB] <;> omega), rfl⟩
                  · skip
                    refine WL.s rfl (g69) rfl ?_
                    refine WL.s rfl (g69) rfl ?_
                    refine WL.s rfl (g69) rfl ?_
                    refine WL.c rfl (o_pickF rfl (g69) ?_)
                    refine WL.c rfl (o_ash (show _ = Value.bool _ from rfl) ?_)
                    refine WL.nil ?_
                    exact ⟨rfl, rfl, congrArg Value.bool (by rw [Bool.eq_iff_iff]; simp_all [okB] <;> omega), rfl⟩
                · try simp only [decide_eq_true_eq, decide_eq_false_iff_not, Bool.not_eq_true', Bool.not_eq_false', Bool.and_eq_true, Bool.or_eq_true, Bool.and_eq_false_iff, Bool.or_eq_false_iff] at c64
                  refine W.seq ?_
                  refine W.seq ?_
                  refine W.region ?_
                  refine WL.c rfl (o_eq rfl rfl ?_)
                  refine WL.c rfl (o_ash (show _ = Value.bool _ from rfl) ?_)
                  refine WL.nil ?_
                  refine W.cond rfl (fun c74 => ?_) (fun c74 => ?_)
                  · try simp only [decide_eq_true_eq, decide_eq_false_iff_not, Bool.not_eq_true', Bool.not_eq_false', Bool.and_eq_true, Bool.or_eq_true, Bool.and_eq_false_iff, Bool.or_eq_false_iff] at c74
                    refine W.skip ?_
                    refine W.cond rfl (fun c74 => ?_) (fun c74 => ?_)
                    · try simp only [decide_eq_true_eq, decide_eq_false_iff_not, Bool.not_eq_true', Bool.not_eq_false', Bool.and_eq_true, Bool.or_eq_true, Bool.and_eq_false_iff, Bool.or_eq_false_iff] at c74
                      refine W.region ?_
                      refine WL.c rfl (o_fa 1 TI30 rfl TI3 rfl rfl ?_)
                      refine WL.c rfl (o_ld TI3 rfl rfl (cell_of hC2 rfl) ?_)
                      refine WL.c rfl (o_eq rfl rfl ?_)
                      refine WL.c rfl (o_mvh (show _ = Value.bool _ from rfl) ?_)
                      refine WL.sp 3 rfl (fun g80 => ?_) (fun g80 => ?_)
                      · skip
                        refine WL.g rfl (g80) rfl (o_fa 5 TI30 rfl TI3 rfl rfl ?_)
                        refine WL.g rfl (g80) rfl (o_ld TI3 rfl rfl (cell_of hC2 rfl) ?_)
                        refine WL.g rfl (g80) rfl (o_ge rfl rfl ?_)
                        refine WL.c rfl (o_pickA rfl rfl ?_)
                        refine WL.c rfl (o_ash (show _ = Value.bool _ from rfl) ?_)
                        refine WL.nil ?_
                        exact ⟨rfl, rfl, congrArg Value.bool (by rw [Bool.eq_iff_iff]; simp_all [okB] <;> omega), rfl⟩
                      · skip
                        refine WL.s rfl (g80) rfl ?_
                        refine WL.s rfl (g80) rfl ?_
                        refine WL.s rfl (g80) rfl ?_
                        refine WL.c rfl (o_pickF rfl (g80) ?_)
                        refine WL.c rfl (o_ash (show _ = Value.bool _ from rfl) ?_)
                        refine WL.nil ?_
                        exact ⟨rfl, rfl, congrArg Value.bool (by rw [Bool.eq_iff_iff]; simp_all [okB] <;> omega), rfl⟩
                    · try simp only [decide_eq_true_eq, decide_eq_false_iff_not, Bool.not_eq_true', Bool.not_eq_false', Bool.and_eq_true, Bool.or_eq_true, Bool.and_eq_false_iff, Bool.or_eq_false_iff] at c74
                      refine W.seq ?_
                      refine W.region ?_
                      refine WL.c rfl (o_ash (show _ = Value.bool _ from rfl) ?_)
                      refine WL.nil ?_
                      refine W.ret ?_
                      refine ret1v rfl (show _ = Value.bool _ from rfl) ?_
                      have h9 : okB x = false := by
                        unfold okB
                        repeat' split
                        all_goals first | rfl | omega
                      exact ⟨congrArg Value.bool (by rw [rightB, h9]; rfl), hx2⟩
                  · try simp only [decide_eq_true_eq, decide_eq_false_iff_not, Bool.not_eq_true', Bool.not_eq_false', Bool.and_eq_true, Bool.or_eq_true, Bool.and_eq_false_iff, Bool.or_eq_false_iff] at c74
                    refine W.region ?_
                    refine WL.c rfl (o_eq rfl rfl ?_)
                    refine WL.c rfl (o_ash (show _ = Value.bool _ from rfl) ?_)
                    refine WL.nil ?_
                    refine W.cond rfl (fun c74 => ?_) (fun c74 => ?_)
                    · try simp only [decide_eq_true_eq, decide_eq_false_iff_not, Bool.not_eq_true', Bool.not_eq_false', Bool.and_eq_true, Bool.or_eq_true, Bool.and_eq_false_iff, Bool.or_eq_false_iff] at c74
                      refine W.region ?_
                      refine WL.c rfl (o_fa 1 TI30 rfl TI3 rfl rfl ?_)
                      refine WL.c rfl (o_ld TI3 rfl rfl (cell_of hC2 rfl) ?_)
                      refine WL.c rfl (o_eq rfl rfl ?_)
                      refine WL.c rfl (o_mvh (show _ = Value.bool _ from rfl) ?_)
                      refine WL.sp 3 rfl (fun g80 => ?_) (fun g80 => ?_)
                      · skip
                        refine WL.g rfl (g80) rfl (o_fa 5 TI30 rfl TI3 rfl rfl ?_)
                        refine WL.g rfl (g80) rfl (o_ld TI3 rfl rfl (cell_of hC2 rfl) ?_)
                        refine WL.g rfl (g80) rfl (o_ge rfl rfl ?_)
                        refine WL.c rfl (o_pickA rfl rfl ?_)
                        refine WL.c rfl (o_ash (show _ = Value.bool _ from rfl) ?_)
                        refine WL.nil ?_
                        exact ⟨rfl, rfl, congrArg Value.bool (by rw [Bool.eq_iff_iff]; simp_all [okB] <;> omega), rfl⟩
                      · skip
                        refine WL.s rfl (g80) rfl ?_
                        refine WL.s rfl (g80) rfl ?_
                        refine WL.s rfl (g80) rfl ?_
                        refine WL.c rfl (o_pickF rfl (g80) ?_)
                        refine WL.c rfl (o_ash (show _ = Value.bool _ from rfl) ?_)
                        refine WL.nil ?_
                        exact ⟨rfl, rfl, congrArg Value.bool (by rw [Bool.eq_iff_iff]; simp_all [okB] <;> omega), rfl⟩
                    · try simp only [decide_eq_true_eq, decide_eq_false_iff_not, Bool.not_eq_true', Bool.not_eq_false', Bool.and_eq_true, Bool.or_eq_true, Bool.and_eq_false_iff, Bool.or_eq_false_iff] at c74
                      refine W.seq ?_
                      refine W.region ?_
                      refine WL.c rfl (o_ash (show _ = Value.bool _ from rfl) ?_)
                      refine WL.nil ?_
                      refine W.ret ?_
                      refine ret1v rfl (show _ = Value.bool _ from rfl) ?_
                      have h9 : okB x = false := by
                        unfold okB
                        repeat' split
                        all_goals first | rfl | omega
                      exact ⟨congrArg Value.bool (by rw [rightB, h9]; rfl), hx2⟩
  rintro e w ⟨h1, h2, h5, hw⟩
  subst hw
  refine W.seq ?_
  refine W.region ?_
  refine WL.cut (fun e1 w1 => e1 1 = .int .i64 above ∧ e1 2 = .pointer (some ⟨c2, 0, none⟩) ∧ e1 5 = .bool (okB x) ∧ e1 6 = .bool (namB x) ∧ w1 = w) ?_ ?_
  · -- region 18
    refine WL.c rfl (o_fa 0 TI30 rfl TI3 rfl h2 ?_)
    refine WL.c rfl (o_ld TI3 rfl rfl (cell_of hC2 rfl) ?_)
    refine WL.c rfl (o_eq rfl rfl ?_)
    refine WL.c rfl (o_mvh (show _ = Value.bool _ from rfl) ?_)
    refine WL.sp 3 rfl (fun g88 => ?_) (fun g88 => ?_)
    · skip
      refine WL.g rfl (g88) rfl (o_fa 2 TI30 rfl TI9 rfl h2 ?_)
      refine WL.g rfl (g88) rfl (o_ld TI9 rfl rfl (cell_of hC2 rfl) ?_)
      refine WL.g rfl (g88) rfl (o_call Try.call25 (lc rfl ln) ((name_spec x.name _ hn).mono ?_))
      rintro v91 w91 ⟨rfl, rfl⟩
      refine WL.c rfl (o_pickA rfl rfl ?_)
      refine WL.c rfl (o_mvh (show _ = Value.bool _ from rfl) ?_)
      refine WL.sp 8 rfl (fun g93 => ?_) (fun g93 => ?_)
      · skip
        refine WL.s rfl (g93) rfl ?_
        refine WL.s rfl (g93) rfl ?_
        refine WL.s rfl (g93) rfl ?_
        refine WL.s rfl (g93) rfl ?_
        refine WL.z rfl rfl ?_
        refine WL.z rfl rfl ?_
        refine WL.z rfl rfl ?_
        refine WL.s rfl (g93) rfl ?_
        refine WL.c rfl (o_pickT rfl (g93) ?_)
        refine WL.c rfl (o_ash (show _ = Value.bool _ from rfl) ?_)
        exact WL.nil (⟨h1, h2, h5, congrArg Value.bool (by rw [Bool.eq_iff_iff]; simp_all [namB] <;> omega), rfl⟩)
      · skip
        refine WL.g rfl (g93) rfl (o_fa 0 TI30 rfl TI3 rfl h2 ?_)
        refine WL.g rfl (g93) rfl (o_ld TI3 rfl rfl (cell_of hC2 rfl) ?_)
        refine WL.g rfl (g93) rfl (o_ne rfl rfl ?_)
        refine WL.g rfl (g93) rfl (o_mvh (show _ = Value.bool _ from rfl) ?_)
        refine WL.sp 12 rfl (fun g97 => ?_) (fun g97 => ?_)
        · skip
          refine WL.g rfl (g97) rfl (o_fa 2 TI30 rfl TI9 rfl h2 ?_)
          refine WL.g rfl (g97) rfl (o_ld TI9 rfl rfl (cell_of hC2 rfl) ?_)
          refine WL.g rfl (g97) rfl (o_eqT rfl rfl ?_)
          refine WL.g rfl (g93) rfl (o_pickA rfl rfl ?_)
          refine WL.c rfl (o_pickO rfl rfl ?_)
          refine WL.c rfl (o_ash (show _ = Value.bool _ from rfl) ?_)
          exact WL.nil (⟨h1, h2, h5, congrArg Value.bool (by rw [Bool.eq_iff_iff]; simp_all [namB] <;> omega), rfl⟩)
        · skip
          refine WL.s rfl (g97) rfl ?_
          refine WL.s rfl (g97) rfl ?_
          refine WL.s rfl (g97) rfl ?_
          refine WL.g rfl (g93) rfl (o_pickF rfl (g97) ?_)
          refine WL.c rfl (o_pickO rfl rfl ?_)
          refine WL.c rfl (o_ash (show _ = Value.bool _ from rfl) ?_)
          exact WL.nil (⟨h1, h2, h5, congrArg Value.bool (by rw [Bool.eq_iff_iff]; simp_all [namB] <;> omega), rfl⟩)
    · skip
      refine WL.s rfl (g88) rfl ?_
      refine WL.s rfl (g88) rfl ?_
      refine WL.s rfl (g88) rfl ?_
      refine WL.c rfl (o_pickF rfl (g88) ?_)
      refine WL.c rfl (o_mvh (show _ = Value.bool _ from rfl) ?_)
      refine WL.g rfl (rfl) rfl (o_fa 0 TI30 rfl TI3 rfl h2 ?_)
      refine WL.g rfl (rfl) rfl (o_ld TI3 rfl rfl (cell_of hC2 rfl) ?_)
      refine WL.g rfl (rfl) rfl (o_ne rfl rfl ?_)
      refine WL.g rfl (rfl) rfl (o_mvh (show _ = Value.bool _ from rfl) ?_)
      refine WL.sp 12 rfl (fun g97 => ?_) (fun g97 => ?_)
      · skip
        refine WL.g rfl (g97) rfl (o_fa 2 TI30 rfl TI9 rfl h2 ?_)
        refine WL.g rfl (g97) rfl (o_ld TI9 rfl rfl (cell_of hC2 rfl) ?_)
        refine WL.g rfl (g97) rfl (o_eqT rfl rfl ?_)
        refine WL.g rfl (rfl) rfl (o_pickA rfl rfl ?_)
        refine WL.c rfl (o_pickO rfl rfl ?_)
        refine WL.c rfl (o_ash (show _ = Value.bool _ from rfl) ?_)
        exact WL.nil (⟨h1, h2, h5, congrArg Value.bool (by rw [Bool.eq_iff_iff]; simp_all [namB] <;> omega), rfl⟩)
      · skip
        refine WL.s rfl (g97) rfl ?_
        refine WL.s rfl (g97) rfl ?_
        refine WL.s rfl (g97) rfl ?_
        refine WL.g rfl (rfl) rfl (o_pickF rfl (g97) ?_)
        refine WL.c rfl (o_pickO rfl rfl ?_)
        refine WL.c rfl (o_ash (show _ = Value.bool _ from rfl) ?_)
        exact WL.nil (⟨h1, h2, h5, congrArg Value.bool (by rw [Bool.eq_iff_iff]; simp_all [namB] <;> omega), rfl⟩)
  rintro e w ⟨h1, h2, h5, h6, hw⟩
  subst hw
  refine W.seq ?_
  refine W.region ?_
  refine WL.cut (fun e1 w1 => e1 1 = .int .i64 above ∧ e1 2 = .pointer (some ⟨c2, 0, none⟩) ∧ e1 5 = .bool (okB x) ∧ e1 6 = .bool (namB x) ∧ e1 7 = .bool (labB x above) ∧ w1 = w) ?_ ?_
  · -- region 19
    refine WL.c rfl (o_mvh h1 ?_)
    refine WL.c rfl (o_eq rfl rfl ?_)
    refine WL.c rfl (o_mvh (show _ = Value.bool _ from rfl) ?_)
    refine WL.sp 2 rfl (fun g105 => ?_) (fun g105 => ?_)
    · skip
      refine WL.g rfl (g105) rfl (o_fa 3 TI30 rfl TI9 rfl h2 ?_)
      refine WL.g rfl (g105) rfl (o_ld TI9 rfl rfl (cell_of hC2 rfl) ?_)
      refine WL.g rfl (g105) rfl (o_call Try.call25 (lc rfl ln) ((name_spec x.label _ hl).mono ?_))
      rintro v108 w108 ⟨rfl, rfl⟩
      refine WL.c rfl (o_pickA rfl rfl ?_)
      refine WL.c rfl (o_mvh (show _ = Value.bool _ from rfl) ?_)
      refine WL.sp 7 rfl (fun g110 => ?_) (fun g110 => ?_)
      · skip
        refine WL.s rfl (g110) rfl ?_
        refine WL.s rfl (g110) rfl ?_
        refine WL.s rfl (g110) rfl ?_
        refine WL.z rfl rfl ?_
        refine WL.z rfl rfl ?_
        refine WL.z rfl rfl ?_
        refine WL.s rfl (g110) rfl ?_
        refine WL.c rfl (o_pickT rfl (g110) ?_)
        refine WL.c rfl (o_ash (show _ = Value.bool _ from rfl) ?_)
        exact WL.nil (⟨h1, h2, h5, h6, congrArg Value.bool (by rw [Bool.eq_iff_iff]; simp_all [labB] <;> omega), rfl⟩)
      · skip
        refine WL.g rfl (g110) rfl (o_mvh h1 ?_)
        refine WL.g rfl (g110) rfl (o_ne rfl rfl ?_)
        refine WL.g rfl (g110) rfl (o_mvh (show _ = Value.bool _ from rfl) ?_)
        refine WL.sp 10 rfl (fun g113 => ?_) (fun g113 => ?_)
        · skip
          refine WL.g rfl (g113) rfl (o_fa 3 TI30 rfl TI9 rfl h2 ?_)
          refine WL.g rfl (g113) rfl (o_ld TI9 rfl rfl (cell_of hC2 rfl) ?_)
          refine WL.g rfl (g113) rfl (o_eqT rfl rfl ?_)
          refine WL.g rfl (g110) rfl (o_pickA rfl rfl ?_)
          refine WL.c rfl (o_pickO rfl rfl ?_)
          refine WL.c rfl (o_ash (show _ = Value.bool _ from rfl) ?_)
          exact WL.nil (⟨h1, h2, h5, h6, congrArg Value.bool (by rw [Bool.eq_iff_iff]; simp_all [labB] <;> omega), rfl⟩)
        · skip
          refine WL.s rfl (g113) rfl ?_
          refine WL.s rfl (g113) rfl ?_
          refine WL.s rfl (g113) rfl ?_
          refine WL.g rfl (g110) rfl (o_pickF rfl (g113) ?_)
          refine WL.c rfl (o_pickO rfl rfl ?_)
          refine WL.c rfl (o_ash (show _ = Value.bool _ from rfl) ?_)
          exact WL.nil (⟨h1, h2, h5, h6, congrArg Value.bool (by rw [Bool.eq_iff_iff]; simp_all [labB] <;> omega), rfl⟩)
    · skip
      refine WL.s rfl (g105) rfl ?_
      refine WL.s rfl (g105) rfl ?_
      refine WL.s rfl (g105) rfl ?_
      refine WL.c rfl (o_pickF rfl (g105) ?_)
      refine WL.c rfl (o_mvh (show _ = Value.bool _ from rfl) ?_)
      refine WL.g rfl (rfl) rfl (o_mvh h1 ?_)
      refine WL.g rfl (rfl) rfl (o_ne rfl rfl ?_)
      refine WL.g rfl (rfl) rfl (o_mvh (show _ = Value.bool _ from rfl) ?_)
      refine WL.sp 10 rfl (fun g113 => ?_) (fun g113 => ?_)
      · skip
        refine WL.g rfl (g113) rfl (o_fa 3 TI30 rfl TI9 rfl h2 ?_)
        refine WL.g rfl (g113) rfl (o_ld TI9 rfl rfl (cell_of hC2 rfl) ?_)
        refine WL.g rfl (g113) rfl (o_eqT rfl rfl ?_)
        refine WL.g rfl (rfl) rfl (o_pickA rfl rfl ?_)
        refine WL.c rfl (o_pickO rfl rfl ?_)
        refine WL.c rfl (o_ash (show _ = Value.bool _ from rfl) ?_)
        exact WL.nil (⟨h1, h2, h5, h6, congrArg Value.bool (by rw [Bool.eq_iff_iff]; simp_all [labB] <;> omega), rfl⟩)
      · skip
        refine WL.s rfl (g113) rfl ?_
        refine WL.s rfl (g113) rfl ?_
        refine WL.s rfl (g113) rfl ?_
        refine WL.g rfl (rfl) rfl (o_pickF rfl (g113) ?_)
        refine WL.c rfl (o_pickO rfl rfl ?_)
        refine WL.c rfl (o_ash (show _ = Value.bool _ from rfl) ?_)
        exact WL.nil (⟨h1, h2, h5, h6, congrArg Value.bool (by rw [Bool.eq_iff_iff]; simp_all [labB] <;> omega), rfl⟩)
  rintro e w ⟨h1, h2, h5, h6, h7, hw⟩
  subst hw
  refine W.seq ?_
  refine W.region ?_
  refine WL.cut (fun e1 w1 => e1 5 = .bool (okB x) ∧ e1 6 = .bool (namB x) ∧ e1 7 = .bool (labB x above) ∧ e1 8 = .bool (tagB x above) ∧ w1 = w) ?_ ?_
  · -- region 20
    refine WL.c rfl (o_fa 4 TI30 rfl TI3 rfl h2 ?_)
    refine WL.c rfl (o_ld TI3 rfl rfl (cell_of hC2 rfl) ?_)
    refine WL.c rfl (o_eq rfl rfl ?_)
    refine WL.c rfl (o_mvh (show _ = Value.bool _ from rfl) ?_)
    refine WL.sp 3 rfl (fun g122 => ?_) (fun g122 => ?_)
    · skip
      refine WL.s rfl (g122) rfl ?_
      refine WL.s rfl (g122) rfl ?_
      refine WL.s rfl (g122) rfl ?_
      refine WL.z rfl rfl ?_
      refine WL.z rfl rfl ?_
      refine WL.z rfl rfl ?_
      refine WL.s rfl (g122) rfl ?_
      refine WL.s rfl (g122) rfl ?_
      refine WL.z rfl rfl ?_
      refine WL.z rfl rfl ?_
      refine WL.z rfl rfl ?_
      refine WL.s rfl (g122) rfl ?_
      refine WL.c rfl (o_pickT rfl (g122) ?_)
      refine WL.c rfl (o_ash (show _ = Value.bool _ from rfl) ?_)
      exact WL.nil (⟨h5, h6, h7, congrArg Value.bool (by rw [Bool.eq_iff_iff]; simp_all [tagB] <;> omega), rfl⟩)
    · skip
      refine WL.g rfl (g122) rfl (o_mvh h1 ?_)
      refine WL.g rfl (g122) rfl (o_eq rfl rfl ?_)
      refine WL.g rfl (g122) rfl (o_mvh (show _ = Value.bool _ from rfl) ?_)
      refine WL.sp 6 rfl (fun g125 => ?_) (fun g125 => ?_)
      · skip
        refine WL.g rfl (g125) rfl (o_fa 4 TI30 rfl TI3 rfl h2 ?_)
        refine WL.g rfl (g125) rfl (o_ld TI3 rfl rfl (cell_of hC2 rfl) ?_)
        refine WL.g rfl (g125) rfl (o_gt rfl rfl ?_)
        refine WL.g rfl (g122) rfl (o_pickA rfl rfl ?_)
        refine WL.g rfl (g122) rfl (o_mvh (show _ = Value.bool _ from rfl) ?_)
        refine WL.sp 11 rfl (fun g130 => ?_) (fun g130 => ?_)
        · skip
          refine WL.g rfl (g130) rfl (o_fa 4 TI30 rfl TI3 rfl h2 ?_)
          refine WL.g rfl (g130) rfl (o_ld TI3 rfl rfl (cell_of hC2 rfl) ?_)
          refine WL.g rfl (g130) rfl (o_le rfl rfl ?_)
          refine WL.g rfl (g122) rfl (o_pickA rfl rfl ?_)
          refine WL.c rfl (o_pickO rfl rfl ?_)
          refine WL.c rfl (o_ash (show _ = Value.bool _ from rfl) ?_)
          exact WL.nil (⟨h5, h6, h7, congrArg Value.bool (by rw [Bool.eq_iff_iff]; simp_all [tagB] <;> omega), rfl⟩)
        · skip
          refine WL.s rfl (g130) rfl ?_
          refine WL.s rfl (g130) rfl ?_
          refine WL.s rfl (g130) rfl ?_
          refine WL.g rfl (g122) rfl (o_pickF rfl (g130) ?_)
          refine WL.c rfl (o_pickO rfl rfl ?_)
          refine WL.c rfl (o_ash (show _ = Value.bool _ from rfl) ?_)
          exact WL.nil (⟨h5, h6, h7, congrArg Value.bool (by rw [Bool.eq_iff_iff]; simp_all [tagB] <;> omega), rfl⟩)
      · skip
        refine WL.s rfl (g125) rfl ?_
        refine WL.s rfl (g125) rfl ?_
        refine WL.s rfl (g125) rfl ?_
        refine WL.g rfl (g122) rfl (o_pickF rfl (g125) ?_)
        refine WL.g rfl (g122) rfl (o_mvh (show _ = Value.bool _ from rfl) ?_)
        refine WL.s rfl (rfl) rfl ?_
        refine WL.s rfl (rfl) rfl ?_
        refine WL.s rfl (rfl) rfl ?_
        refine WL.g rfl (g122) rfl (o_pickF rfl (rfl) ?_)
        refine WL.c rfl (o_pickO rfl rfl ?_)
        refine WL.c rfl (o_ash (show _ = Value.bool _ from rfl) ?_)
        exact WL.nil (⟨h5, h6, h7, congrArg Value.bool (by rw [Bool.eq_iff_iff]; simp_all [tagB] <;> omega), rfl⟩)
  rintro e w ⟨h5, h6, h7, h8, hw⟩
  subst hw
  refine W.seq ?_
  refine W.region ?_
  refine WL.c rfl (o_mvh h5 ?_)
  refine WL.c rfl (o_mvh (show _ = Value.bool _ from rfl) ?_)
  refine WL.sp 1 rfl (fun g137 => ?_) (fun g137 => ?_)
  · skip
    refine WL.g rfl (g137) rfl (o_mvh h6 ?_)
    refine WL.c rfl (o_pickA rfl rfl ?_)
    refine WL.c rfl (o_mvh (show _ = Value.bool _ from rfl) ?_)
    refine WL.sp 4 rfl (fun g140 => ?_) (fun g140 => ?_)
    · skip
      refine WL.g rfl (g140) rfl (o_mvh h7 ?_)
      refine WL.c rfl (o_pickA rfl rfl ?_)
      refine WL.c rfl (o_mvh (show _ = Value.bool _ from rfl) ?_)
      refine WL.sp 7 rfl (fun g143 => ?_) (fun g143 => ?_)
      · skip
        refine WL.g rfl (g143) rfl (o_mvh h8 ?_)
        refine WL.c rfl (o_pickA rfl rfl ?_)
        refine WL.c rfl (o_ash (show _ = Value.bool _ from rfl) ?_)
        refine WL.nil ?_
        refine W.ret ?_
        refine ret1v rfl (show _ = Value.bool _ from rfl) ?_
        exact ⟨congrArg Value.bool (by first | rfl | (rw [rightB, Bool.eq_iff_iff]; simp_all; done) | (rw [rightB]; simp_all; done)), hx2⟩
      · skip
        refine WL.s rfl (g143) rfl ?_
        refine WL.c rfl (o_pickF rfl (g143) ?_)
        refine WL.c rfl (o_ash (show _ = Value.bool _ from rfl) ?_)
        refine WL.nil ?_
        refine W.ret ?_
        refine ret1v rfl (show _ = Value.bool _ from rfl) ?_
        exact ⟨congrArg Value.bool (by first | rfl | (rw [rightB, Bool.eq_iff_iff]; simp_all; done) | (rw [rightB]; simp_all; done)), hx2⟩
    · skip
      refine WL.s rfl (g140) rfl ?_
      refine WL.c rfl (o_pickF rfl (g140) ?_)
      refine WL.c rfl (o_mvh (show _ = Value.bool _ from rfl) ?_)
      refine WL.s rfl (rfl) rfl ?_
      refine WL.c rfl (o_pickF rfl (rfl) ?_)
      refine WL.c rfl (o_ash (show _ = Value.bool _ from rfl) ?_)
      refine WL.nil ?_
      refine W.ret ?_
      refine ret1v rfl (show _ = Value.bool _ from rfl) ?_
      exact ⟨congrArg Value.bool (by first | rfl | (rw [rightB, Bool.eq_iff_iff]; simp_all; done) | (rw [rightB]; simp_all; done)), hx2⟩
  · skip
    refine WL.s rfl (g137) rfl ?_
    refine WL.c rfl (o_pickF rfl (g137) ?_)
    refine WL.c rfl (o_mvh (show _ = Value.bool _ from rfl) ?_)
    refine WL.s rfl (rfl) rfl ?_
    refine WL.c rfl (o_pickF rfl (rfl) ?_)
    refine WL.c rfl (o_mvh (show _ = Value.bool _ from rfl) ?_)
    refine WL.s rfl (rfl) rfl ?_
    refine WL.c rfl (o_pickF rfl (rfl) ?_)
    refine WL.c rfl (o_ash (show _ = Value.bool _ from rfl) ?_)
    refine WL.nil ?_
    refine W.ret ?_
    refine ret1v rfl (show _ = Value.bool _ from rfl) ?_
    exact ⟨congrArg Value.bool (by first | rfl | (rw [rightB, Bool.eq_iff_iff]; simp_all; done) | (rw [rightB]; simp_all; done)), hx2⟩

structure Opn where
  kind : Int
  left : Int
  deep : Int
def opV (o : Opn) : List Value := [.int .i64 o.kind, .int .i64 o.left, .int .i64 o.deep]
def opsR (S : List Opn) : List Value := S.reverse.flatMap opV
def popZ (S : List Opn) : List Opn := S.dropWhile (fun o => decide (o.left = 0))
def manyB (x : Ex) : Bool := (decide (x.kind = 8) && decide (64 < x.kids)) || (decide (x.kind = 7) && decide (64 < x.kids))
def leftB (S : List Opn) : Bool := S.any (fun o => decide (0 < o.left))
/-- the nodes of an expression; the open ones, the last one first -/
def chkE : List Opn → Nat → List Ex → Nat × Nat
  | S, i, [] => if leftB S = true then (i, 62) else (0, 0)
  | S, i, x :: xs => match popZ S with
    | [] => (i, 62)
    | o :: S' => if 16 < o.deep then (i, 61) else if manyB x = true then (i, 5) else if rightB x o.kind = false then (i, 62)
      else chkE (⟨x.kind, x.kids, o.deep + 1⟩ :: { o with left := o.left - 1 } :: S') (i + 1) xs
theorem chkE_nil {S : List Opn} {i : Nat} : chkE S i [] = if leftB S = true then (i, 62) else (0, 0) := rfl
theorem chkE_cons {S : List Opn} {i : Nat} {x : Ex} {xs : List Ex} : chkE S i (x :: xs) = match popZ S with
    | [] => (i, 62)
    | o :: S' => if 16 < o.deep then (i, 61) else if manyB x = true then (i, 5) else if rightB x o.kind = false then (i, 62)
      else chkE (⟨x.kind, x.kids, o.deep + 1⟩ :: { o with left := o.left - 1 } :: S') (i + 1) xs := rfl
theorem chkE_z {S : List Opn} {i : Nat} {x : Ex} {xs : List Ex} (h : popZ S = []) : chkE S i (x :: xs) = (i, 62) := by rw [chkE_cons, h]
theorem chkE_o {S S' : List Opn} {o : Opn} {i : Nat} {x : Ex} {xs : List Ex} (h : popZ S = o :: S') : chkE S i (x :: xs) = if 16 < o.deep then (i, 61) else if manyB x = true then (i, 5) else if rightB x o.kind = false then (i, 62)
      else chkE (⟨x.kind, x.kids, o.deep + 1⟩ :: { o with left := o.left - 1 } :: S') (i + 1) xs := by rw [chkE_cons, h]
def OkS : List Opn → Prop
  | [] => True
  | o :: S => o.deep = (S.length : Int) ∧ 0 ≤ o.left ∧ o.left ≤ 64 ∧ OkS S
theorem OkS_cons {o : Opn} {S : List Opn} : OkS (o :: S) ↔ o.deep = (S.length : Int) ∧ 0 ≤ o.left ∧ o.left ≤ 64 ∧ OkS S := Iff.rfl
theorem opsR_cons (o : Opn) (S : List Opn) : opsR (o :: S) = opsR S ++ opV o := by simp [opsR]
theorem opsR_len (S : List Opn) : (opsR S).length = S.length * 3 := by
  induction S with
  | nil => rfl
  | cons o S ih => rw [opsR_cons, List.length_append, ih, List.length_cons]; show _ + 3 = _; omega
theorem opsR_get {o : Opn} {S : List Opn} {k : Nat} (v : Value) (h : (opV o)[k]? = some v) : (opsR (o :: S))[S.length * 3 + k]? = some v := by
  rw [opsR_cons, List.getElem?_append_right (by rw [opsR_len]; omega), opsR_len, Nat.add_sub_cancel_left, h]
theorem opsR_take {o : Opn} {S : List Opn} : (opsR (o :: S)).take (S.length * 3) = opsR S := by
  rw [opsR_cons]; exact List.take_left' (opsR_len S)
theorem opsR_set {o : Opn} {S : List Opn} {z : Int} : (opsR (o :: S)).set (S.length * 3 + 1) (.int .i64 z) = opsR ({ o with left := z } :: S) := by
  rw [opsR_cons, opsR_cons, List.set_append_right _ _ (by rw [opsR_len]; omega), opsR_len, Nat.add_sub_cancel_left]
  rfl
theorem leftB_at (S : List Opn) : ∀ k (hk : k < S.length), leftB (S.reverse.drop k).reverse = (decide (0 < (S.reverse[k]'(by simpa using hk)).left) || leftB (S.reverse.drop (k + 1)).reverse) := by
  intro k hk
  rw [← List.getElem_cons_drop (by simpa using hk), List.reverse_cons]
  simp [leftB, Bool.or_comm]
theorem ops_at {S : List Opn} {k : Nat} (hk : k < S.length) : ((opsR S).drop (k * 3)).take 3 = opV (S.reverse[k]'(by simpa using hk)) := by
  have : ∀ (l : List Opn) (k : Nat) (hk : k < l.length), ((l.flatMap opV).drop (k * 3)).take 3 = opV l[k] := by
    intro l
    induction l with
    | nil => intro k hk; simp at hk
    | cons t ts ih =>
      intro k hk
      have h5 : (opV t).length = 3 := rfl
      cases k with
      | zero => rw [Nat.zero_mul, List.drop_zero, List.flatMap_cons]; exact List.take_left' h5
      | succ k =>
        have h1 : (k + 1) * 3 - (opV t).length = k * 3 := by rw [h5]; omega
        have := ih k (by simpa using hk)
        rw [List.flatMap_cons, List.drop_append, List.drop_eq_nil_of_le (by rw [h5]; omega), List.nil_append, h1]
        exact this
  exact this _ _ _
theorem exs_at (ts : List Ex) : ∀ (k : Nat) (hk : k < ts.length), ((exs ts).drop (k * 7)).take 7 = exV ts[k] := by
  induction ts with
  | nil => intro k hk; simp at hk
  | cons t ts ih =>
    intro k hk
    have h5 : (exV t).length = 7 := rfl
    cases k with
    | zero => rw [Nat.zero_mul, List.drop_zero, exs, List.flatMap_cons]; exact List.take_left' h5
    | succ k =>
      have h1 : (k + 1) * 7 - (exV t).length = k * 7 := by rw [h5]; omega
      have := ih k (by simpa using hk)
      rw [exs, List.flatMap_cons, List.drop_append, List.drop_eq_nil_of_le (by rw [h5]; omega), List.nil_append, h1]
      exact this
theorem Sl.exq {w : World} {v : Value} {ts : List Ex} (h : Sl w 7 v ts.length (exs ts)) {k : Nat} (hk : k < ts.length) : ∃ b o c, v = .slice (some ⟨b, o, none⟩) ts.length c ∧ Cells w b (o + k * 7) (exV ts[k]) := by
  rcases h.val with ⟨hz, h0⟩ | ⟨b, o, c, rfl, hnc, hc⟩
  · omega
  · exact ⟨b, o, c, rfl, by rw [← exs_at ts k hk]; exact hc.sub _ _⟩
def slen : Value → Nat
  | .slice _ n _ => n
  | _ => 0
theorem popZ_z {o : Opn} {S : List Opn} (h : o.left = 0) : popZ (o :: S) = popZ S := by simp [popZ, h]
theorem popZ_n {o : Opn} {S : List Opn} (h : ¬ o.left = 0) : popZ (o :: S) = o :: S := by simp [popZ, h]
theorem rightB_kids {x : Ex} {k : Int} (h : rightB x k = true) (hm : manyB x = false) : 0 ≤ x.kids ∧ x.kids ≤ 64 := by
  simp only [rightB, Bool.and_eq_true] at h
  have h1 := h.1.1.1
  unfold okB at h1
  simp only [manyB, Bool.or_eq_false_iff, Bool.and_eq_false_iff, decide_eq_false_iff_not] at hm
  repeat' split at h1
  all_goals first | (simp only [Bool.and_eq_true, decide_eq_true_eq] at h1; omega) | cases h1

theorem own_form {w : World} {base : Nat} {el : TypeId} {s n : Nat} {v : Value} {xs : List Value} (h : w.ownsRow base el s v n xs) : ∃ a c, v = .slice a n c ∧ n ≤ c := by
  rcases h.2 with ⟨rfl, rfl⟩ | ⟨g, cap, cur, rfl, hb, hc, hnc, r⟩
  · exact ⟨none, 0, rfl, Nat.le_refl _⟩
  · exact ⟨_, cap, rfl, hnc⟩
theorem own_take {w : World} {base : Nat} {el : TypeId} {s n m g cap : Nat} {xs : List Value} (h : w.ownsRow base el s (.slice (some ⟨g, 0, none⟩) n cap) n xs) (hm : m ≤ n) : w.ownsRow base el s (.slice (some ⟨g, 0, none⟩) m cap) m (xs.take (m * s)) := by
  obtain ⟨cap', cur, hv, hb, hc, hnc, hcm, hcs, ht⟩ := own_blk h rfl
  simp only [Value.slice.injEq] at hv
  obtain ⟨-, -, rfl⟩ := hv
  have hms : m * s ≤ n * s := Nat.mul_le_mul_right _ hm
  refine ⟨by rw [List.length_take, h.1]; omega, .inr ⟨g, cap, cur, rfl, hb, hc, by omega, hcm, hcs, ?_⟩⟩
  rw [← ht, List.take_take, Nat.min_eq_left hms]
theorem sliced0 (g h c s : Nat) : sliced (some ⟨g, 0, none⟩) 0 h c s = .slice (some ⟨g, 0, none⟩) h c := by
  unfold sliced
  split <;> simp [Addr.add]


set_option maxHeartbeats 4000000 in
theorem checked_spec (l : List Ex) (v : Value) (w0 : World) (hS : Sl w0 7 v l.length (exs l)) (hl : l.length ≤ 4611686018427387904) (hln : ∀ x ∈ l, x.name.length ≤ 9223372036854775807 ∧ x.label.length ≤ 9223372036854775807) : Ca Try.prog 26 #[v] w0 (fun r w' => r = .tuple #[.int .i64 ((chkE [⟨0, 1, 0⟩] 0 l).1 : Int), .int .i64 ((chkE [⟨0, 1, 0⟩] 0 l).2 : Int)] ∧ Ext w0 w') := by
  have hx : Ext w0 w0 := Only.refl _ _
  have hS0 := hS
  refine Ca.of Try.func26 Try.ntmps26 rfl rfl ?_
  refine W.seq ?_
  refine W.region ?_
  refine WL.c rfl (o_ash (show _ = Value.int _ _ from rfl) ?_)
  refine WL.c rfl (o_ash (show _ = Value.int _ _ from rfl) ?_)
  refine WL.nil ?_
  refine W.seq ?_
  refine W.region ?_
  refine WL.c rfl (o_bldC (cs := [(.int .i64 0), (.int .i64 1), (.int .i64 0)]) TI96 (Sizes.cons TI3 (Sizes.cons TI3 (Sizes.cons TI3 Sizes.nil))) rfl (lcp (show _ = Value.int _ _ from rfl) lnp) rfl rfl ?_)
  refine WL.c rfl (o_bs1 TI97 TI96 (show _ = Value.agg #[.int .i64 0, .int .i64 1, .int .i64 0] from rfl) (by decide) (by decide) rfl ?_)
  have hown : (w0.alloc (.cells (Value.agg #[.int .i64 0, .int .i64 1, .int .i64 0]).cells 96)).ownsRow w0.heap.size 96 3 (.slice (some ⟨w0.heap.size, 0, none⟩) 1 1) [(⟨0, 1, 0⟩ : Opn)].length (opsR [⟨0, 1, 0⟩]) := own_new1 rfl
  replace hx : Ext w0 (w0.alloc (.cells (Value.agg #[.int .i64 0, .int .i64 1, .int .i64 0]).cells 96)) := Only.alloc w0 _
  replace hS := hS.ext hx
  generalize w0.alloc (.cells (Value.agg #[.int .i64 0, .int .i64 1, .int .i64 0]).cells 96) = w1 at *
  refine WL.c rfl (o_ash (by first | exact (show _ = Value.slice _ _ _ from rfl) | exact rfl) ?_)
  refine WL.nil ?_
  refine W.seq ?_
  refine W.seq ?_
  refine W.region ?_
  refine WL.c rfl (o_mvh (by first | exact (show _ = Value.slice _ _ _ from rfl) | exact rfl) ?_)
  refine WL.c rfl (o_lenR TI38 rfl hS ?_)
  refine WL.c rfl (o_mvh (show _ = Value.int _ _ from rfl) ?_)
  refine WL.nil ?_
  refine W.block ?_
  refine W.loop (fun e w => ∃ (i : Nat) (S : List Opn) (sv : Value), i ≤ l.length ∧ e 0 = v ∧ e 4 = sv ∧ e 12 = v ∧ e 13 = .int .i64 (l.length : Int) ∧ e 14 = .int .i64 (i : Int) ∧ w.ownsRow w0.heap.size 96 3 sv S.length (opsR S) ∧ OkS S ∧ S.length ≤ 18 ∧ chkE [⟨0, 1, 0⟩] 0 l = chkE S i (l.drop i) ∧ Ext w0 w) (fun e w => l.length - (intOf (e 14)).toNat) ?_ ?_
  · refine ⟨0, [⟨0, 1, 0⟩], _, Nat.zero_le _, rfl, rfl, rfl, rfl, rfl, hown, ⟨rfl, by decide, by decide, trivial⟩, by decide, rfl, hx⟩
  rintro e w ⟨i, S0, sv0, hi, h0, h4, h12, h13, h14, hown, hok, hSl, hres, hx⟩
  have hm14 := h14
  have hSw := hS0.ext hx
  refine W.seq ?_
  refine W.region ?_
  refine WL.c rfl (o_lt h14 h13 ?_)
  refine WL.nil ?_
  refine W.seq ?_
  refine W.cond rfl (fun c15 => ?_) (fun c15 => ?_)
  · try simp only [decide_eq_true_eq, decide_eq_false_iff_not, Bool.not_eq_true', Bool.not_eq_false', Bool.and_eq_true, Bool.or_eq_true, Bool.and_eq_false_iff, Bool.or_eq_false_iff] at c15
    have hil : i < l.length := by omega
    obtain ⟨tb, to_, tc, rfl, htc⟩ := Sl.exq hSw hil
    have hlc : l.drop i = l[i] :: l.drop (i + 1) := (List.getElem_cons_drop hil).symm
    refine W.skip ?_
    refine W.seq ?_
    refine W.block ?_
    refine W.seq ?_
    refine W.region ?_
    refine WL.c rfl (o_mvh h14 ?_)
    refine WL.c rfl (o_ixB TI38 TI30 h12 h14 (by omega) ?_)
    refine WL.c rfl (o_ldA TI30 rfl rfl htc rfl ?_)
    have hx0 := hx
    have hown0 := hown
    refine WL.c rfl (o_alB TI30 ?_)
    intro w6 hC6 hx6 hs6
    refine WL.c rfl (o_ash (show _ = Value.int _ _ from rfl) ?_)
    refine WL.u (o_stA TI30 rfl (show _ = Value.agg (exV l[i]).toArray from rfl) rfl rfl hC6 rfl ?_)
    intro w7 hC7 ho7 hs7
    have hxb := Ext.own hx6 (Nat.le_refl _) ho7
    clear hC6 hx6 hs6 ho7 hs7 hSw htc
    replace hown := own_ext hown hxb
    replace hx := hx.tr hxb
    obtain ⟨c6, hc6⟩ : ∃ c, c = w.heap.size := ⟨_, rfl⟩
    have hc6l : w0.heap.size ≤ c6 ∧ ¬ sv0.ownBlock = some c6 := by
      subst hc6
      exact ⟨by have := hx0.size; omega, fun hk => by have := (hown0.lt _ hk).2; omega⟩
    rw [← hc6] at hC7 ⊢
    refine WL.nil ?_
    refine W.seq ?_
    refine W.block ?_
    refine W.loop (fun e w => ∃ (S : List Opn) (sv : Value), e 0 = Value.slice (some ⟨tb, to_, none⟩) l.length tc ∧ e 4 = sv ∧ e 5 = .int .i64 (i : Int) ∧ e 6 = .pointer (some ⟨c6, 0, none⟩) ∧ e 12 = Value.slice (some ⟨tb, to_, none⟩) l.length tc ∧ e 13 = .int .i64 (l.length : Int) ∧ e 14 = .int .i64 (i : Int) ∧ w.ownsRow w0.heap.size 96 3 sv S.length (opsR S) ∧ OkS S ∧ S.length ≤ 18 ∧ popZ S0 = popZ S ∧ (sv.ownBlock = sv0.ownBlock) ∧ w.heap[c6]? = some (.cells (exV l[i]).toArray 30 (0, 0)) ∧ Ext w0 w) (fun e w => slen (e 4)) ?_ ?_
    · exact ⟨S0, sv0, h0, h4, rfl, rfl, h12, h13, h14, hown, hok, hSl, rfl, rfl, hC7, hx⟩
    rintro e w ⟨S, sv, h0, h4, h5, h6, h12, h13, h14, hown, hok, hSl, hpz, hsb, hC7, hx⟩
    have hm4 := h4
    refine W.seq ?_
    refine W.seq ?_
    rcases S with _ | ⟨o, S⟩
    · skip
      have h062 := hres.trans (by rw [hlc, chkE_z hpz])
      refine W.region ?_
      refine WL.c rfl (o_mvh h4 ?_)
      refine WL.c rfl (o_lenR TI97 rfl (Sl.own hown) ?_)
      refine WL.c rfl (o_gt rfl rfl ?_)
      refine WL.c rfl (o_mvh (show _ = Value.bool _ from rfl) ?_)
      refine WL.s rfl (decide_eq_false (by simp)) rfl ?_
      refine WL.s rfl (decide_eq_false (by simp)) rfl ?_
      refine WL.s rfl (decide_eq_false (by simp)) rfl ?_
      refine WL.s rfl (decide_eq_false (by simp)) rfl ?_
      refine WL.s rfl (decide_eq_false (by simp)) rfl ?_
      refine WL.s rfl (decide_eq_false (by simp)) rfl ?_
      refine WL.s rfl (decide_eq_false (by simp)) rfl ?_
      refine WL.s rfl (decide_eq_false (by simp)) rfl ?_
      refine WL.c rfl (o_pickF rfl (decide_eq_false (by simp)) ?_)
      refine WL.nil ?_
      refine W.condF' rfl (rfl) ?_
      refine W.exit ?_
      refine W.seq ?_
      refine W.seq ?_
      refine W.region ?_
      refine WL.c rfl (o_mvh h4 ?_)
      refine WL.c rfl (o_lenR TI97 rfl (Sl.own hown) ?_)
      refine WL.c rfl (o_eq rfl rfl ?_)
      refine WL.nil ?_
      refine W.condT' rfl (by simp) ?_
      refine W.seq ?_
      refine W.region ?_
      refine WL.c rfl (o_mvh h5 ?_)
      refine WL.c rfl (o_ash (show _ = Value.int _ _ from rfl) ?_)
      refine WL.c rfl (o_ash (show _ = Value.int _ _ from rfl) ?_)
      refine WL.nil ?_
      refine W.ret ?_
      refine ret2v rfl (show _ = Value.int _ _ from rfl) (show _ = Value.int _ _ from rfl) ?_
      rw [h062]
      exact ⟨rfl, hx⟩
    · skip
      replace hown : w.ownsRow w0.heap.size 96 3 sv (S.length + 1) (opsR (o :: S)) := hown
      obtain ⟨g, cap, rfl, hgb⟩ := own_some hown (by omega)
      have hcap : S.length + 1 ≤ cap := by obtain ⟨_, _, hv, hh⟩ := own_form hown; cases hv; exact hh
      obtain ⟨hdp, hlo, hhi, hok2⟩ := OkS_cons.1 hok
      have hSl2 : S.length + 1 ≤ 18 := hSl
      have hcg : ¬ g = c6 := fun he => hc6l.2 (by rw [← hsb, he]; rfl)
      refine W.region ?_
      refine WL.c rfl (o_mvh h4 ?_)
      refine WL.c rfl (o_lenR TI97 rfl (Sl.own hown) ?_)
      refine WL.c rfl (o_gt rfl rfl ?_)
      refine WL.c rfl (o_mvh (show _ = Value.bool _ from rfl) ?_)
      refine WL.g rfl (decide_eq_true (by omega)) rfl (o_mvh h4 ?_)
      refine WL.g rfl (decide_eq_true (by omega)) rfl (o_mvh h4 ?_)
      refine WL.g rfl (decide_eq_true (by omega)) rfl (o_lenR TI97 rfl (Sl.own hown) ?_)
      refine WL.g rfl (decide_eq_true (by omega)) rfl (o_subi rfl rfl (by omega) ?_)
      refine WL.g rfl (decide_eq_true (by omega)) rfl (o_ixB (i := S.length) TI97 TI96 rfl (by show Value.int .i64 _ = _; congr 1; omega) (by omega) ?_)
      refine WL.g rfl (decide_eq_true (by omega)) rfl (o_fa 1 TI96 rfl TI3 rfl rfl ?_)
      refine WL.g rfl (decide_eq_true (by omega)) rfl (o_ld TI3 rfl rfl (own_cell hown (j := 0 + S.length * 3 + 1) (by rw [Nat.zero_add]; exact opsR_get _ rfl)) ?_)
      refine WL.g rfl (decide_eq_true (by omega)) rfl (o_eq rfl rfl ?_)
      refine WL.c rfl (o_pickA rfl rfl ?_)
      refine WL.nil ?_
      refine W.cond rfl (fun c31 => ?_) (fun c31 => ?_)
      · try simp only [decide_eq_true_eq, decide_eq_false_iff_not, Bool.not_eq_true', Bool.not_eq_false', Bool.and_eq_true, Bool.or_eq_true, Bool.and_eq_false_iff, Bool.or_eq_false_iff] at c31
        have hz : o.left = 0 := c31.2
        refine W.skip ?_
        refine W.block ?_
        refine W.region ?_
        refine WL.c rfl (o_mvh h4 ?_)
        refine WL.c rfl (o_mvh h4 ?_)
        refine WL.c rfl (o_lenR TI97 rfl (Sl.own hown) ?_)
        refine WL.c rfl (o_subi rfl rfl (by omega) ?_)
        refine WL.c rfl (o_slv (h := S.length) TI97 TI96 rfl Lo.n (Hi.s (by show Value.int .i64 _ = _; congr 1; omega)) (Nat.zero_le _) (by omega) ?_)
        rw [sliced0]
        have hown2 := own_take hown (m := S.length) (by omega)
        rw [opsR_take] at hown2
        refine WL.c rfl (o_ash (by first | exact (show _ = Value.slice _ _ _ from rfl) | exact rfl) ?_)
        refine WL.nil ?_
        refine ⟨⟨S, _, h0, rfl, h5, h6, h12, h13, h14, hown2, hok.2.2.2, by omega, by rw [hpz, popZ_z hz], hsb, hC7, hx⟩, ?_⟩
        rw [hm4]; show S.length < S.length + 1; omega
      · try simp only [decide_eq_true_eq, decide_eq_false_iff_not, Bool.not_eq_true', Bool.not_eq_false', Bool.and_eq_true, Bool.or_eq_true, Bool.and_eq_false_iff, Bool.or_eq_false_iff] at c31
        have hz : ¬ o.left = 0 := fun hz => by rcases c31 with c | c; omega; exact c hz
        have hpz2 := hpz.trans (popZ_n hz)
        have hres2 := hres.trans (by rw [hlc, chkE_o hpz2])
        refine W.exit ?_
        refine W.seq ?_
        refine W.seq ?_
        refine W.region ?_
        refine WL.c rfl (o_mvh h4 ?_)
        refine WL.c rfl (o_lenR TI97 rfl (Sl.own hown) ?_)
        refine WL.c rfl (o_eq rfl rfl ?_)
        refine WL.nil ?_
        refine W.condF' rfl (decide_eq_false (by omega)) ?_
        refine W.skip ?_
        refine W.seq ?_
        refine W.region ?_
        refine WL.c rfl (o_mvh h4 ?_)
        refine WL.c rfl (o_mvh h4 ?_)
        refine WL.c rfl (o_lenR TI97 rfl (Sl.own hown) ?_)
        refine WL.c rfl (o_subi rfl rfl (by omega) ?_)
        refine WL.c rfl (o_ixB (i := S.length) TI97 TI96 rfl (by show Value.int .i64 _ = _; congr 1; omega) (by omega) ?_)
        refine WL.c rfl (o_ash (by first | exact (show _ = Value.pointer _ from rfl) | exact rfl) ?_)
        refine WL.nil ?_
        refine W.seq ?_
        refine W.block ?_
        refine W.seq ?_
        refine W.region ?_
        refine WL.c rfl (o_mvh (by first | exact (show _ = Value.pointer _ from rfl) | exact rfl) ?_)
        refine WL.c rfl (o_nil rfl ?_)
        refine WL.c rfl (o_fa 2 TI96 rfl TI3 rfl rfl ?_)
        refine WL.c rfl (o_ld TI3 rfl rfl (own_cell hown (j := 0 + S.length * 3 + 2) (by rw [Nat.zero_add]; exact opsR_get _ rfl)) ?_)
        refine WL.c rfl (o_gt rfl rfl ?_)
        refine WL.c rfl (o_ash (show _ = Value.bool _ from rfl) ?_)
        refine WL.nil ?_
        refine W.cond rfl (fun c46 => ?_) (fun c46 => ?_)
        · try simp only [decide_eq_true_eq, decide_eq_false_iff_not, Bool.not_eq_true', Bool.not_eq_false', Bool.and_eq_true, Bool.or_eq_true, Bool.and_eq_false_iff, Bool.or_eq_false_iff] at c46
          have hdeep : 16 < o.deep := by omega
          rw [if_pos hdeep] at hres2
          refine W.seq ?_
          refine W.region ?_
          refine WL.c rfl (o_mvh h5 ?_)
          refine WL.c rfl (o_ash (show _ = Value.int _ _ from rfl) ?_)
          refine WL.c rfl (o_ash (show _ = Value.int _ _ from rfl) ?_)
          refine WL.nil ?_
          refine W.ret ?_
          refine ret2v rfl (show _ = Value.int _ _ from rfl) (show _ = Value.int _ _ from rfl) ?_
          rw [hres2]
          exact ⟨rfl, hx⟩
        · try simp only [decide_eq_true_eq, decide_eq_false_iff_not, Bool.not_eq_true', Bool.not_eq_false', Bool.and_eq_true, Bool.or_eq_true, Bool.and_eq_false_iff, Bool.or_eq_false_iff] at c46
          have hdeep : ¬ 16 < o.deep := by omega
          rw [if_neg hdeep] at hres2
          refine W.seq ?_
          refine W.seq ?_
          refine W.region ?_
          refine WL.c rfl (o_fa 0 TI30 rfl TI3 rfl h6 ?_)
          refine WL.c rfl (o_ld TI3 rfl rfl (cell_of hC7 rfl) ?_)
          refine WL.c rfl (o_eq rfl rfl ?_)
          refine WL.c rfl (o_mvh (show _ = Value.bool _ from rfl) ?_)
          refine WL.sp 3 rfl (fun g57 => ?_) (fun g57 => ?_)
          · skip
            refine WL.g rfl (g57) rfl (o_fa 5 TI30 rfl TI3 rfl h6 ?_)
            refine WL.g rfl (g57) rfl (o_ld TI3 rfl rfl (cell_of hC7 rfl) ?_)
            refine WL.g rfl (g57) rfl (o_gt rfl rfl ?_)
            refine WL.c rfl (o_pickA rfl rfl ?_)
            refine WL.c rfl (o_ash (show _ = Value.bool _ from rfl) ?_)
            refine WL.nil ?_
            refine W.cut (fun e1 w1 => e1 0 = Value.slice (some ⟨tb, to_, none⟩) l.length tc ∧ e1 4 = Value.slice (some ⟨g, 0, none⟩) (S.length + 1) cap ∧ e1 5 = .int .i64 (i : Int) ∧ e1 6 = .pointer (some ⟨c6, 0, none⟩) ∧ e1 7 = .pointer (some ⟨g, 0 + S.length * 3, none⟩) ∧ e1 12 = Value.slice (some ⟨tb, to_, none⟩) l.length tc ∧ e1 13 = .int .i64 (l.length : Int) ∧ e1 14 = .int .i64 (i : Int) ∧ e1 53 = .bool (manyB l[i]) ∧ w1 = w) ?_ ?_
            · -- both ways
              refine W.cond rfl (fun c53 => ?_) (fun c53 => ?_)
              · try simp only [decide_eq_true_eq, decide_eq_false_iff_not, Bool.not_eq_true', Bool.not_eq_false', Bool.and_eq_true, Bool.or_eq_true, Bool.and_eq_false_iff, Bool.or_eq_false_iff] at c53
                refine W.skip ?_
                exact ⟨h0, h4, h5, h6, rfl, h12, h13, h14, congrArg Value.bool (by rw [Bool.eq_iff_iff]; (try simp only [decide_eq_true_eq, decide_eq_false_iff_not] at g57); (try simp only [decide_eq_true_eq, decide_eq_false_iff_not] at g65); (try (cases c53; done)); all_goals simp only [manyB, Bool.or_eq_true, Bool.and_eq_true, decide_eq_true_eq, Bool.false_eq_true, false_iff]; all_goals omega), rfl⟩
              · try simp only [decide_eq_true_eq, decide_eq_false_iff_not, Bool.not_eq_true', Bool.not_eq_false', Bool.and_eq_true, Bool.or_eq_true, Bool.and_eq_false_iff, Bool.or_eq_false_iff] at c53
                refine W.region ?_
                refine WL.c rfl (o_fa 0 TI30 rfl TI3 rfl h6 ?_)
                refine WL.c rfl (o_ld TI3 rfl rfl (cell_of hC7 rfl) ?_)
                refine WL.c rfl (o_eq rfl rfl ?_)
                refine WL.c rfl (o_mvh (show _ = Value.bool _ from rfl) ?_)
                refine WL.sp 3 rfl (fun g65 => ?_) (fun g65 => ?_)
                · skip
                  refine WL.g rfl (g65) rfl (o_fa 5 TI30 rfl TI3 rfl h6 ?_)
                  refine WL.g rfl (g65) rfl (o_ld TI3 rfl rfl (cell_of hC7 rfl) ?_)
                  refine WL.g rfl (g65) rfl (o_gt rfl rfl ?_)
                  refine WL.c rfl (o_pickA rfl rfl ?_)
                  refine WL.c rfl (o_ash (show _ = Value.bool _ from rfl) ?_)
                  refine WL.nil ?_
                  exact ⟨h0, h4, h5, h6, rfl, h12, h13, h14, congrArg Value.bool (by rw [Bool.eq_iff_iff]; (try simp only [decide_eq_true_eq, decide_eq_false_iff_not] at g57); (try simp only [decide_eq_true_eq, decide_eq_false_iff_not] at g65); (try (cases c53; done)); all_goals simp only [manyB, Bool.or_eq_true, Bool.and_eq_true, decide_eq_true_eq, Bool.false_eq_true, false_iff]; all_goals omega), rfl⟩
                · skip
                  refine WL.s rfl (g65) rfl ?_
                  refine WL.s rfl (g65) rfl ?_
                  refine WL.s rfl (g65) rfl ?_
                  refine WL.c rfl (o_pickF rfl (g65) ?_)
                  refine WL.c rfl (o_ash (show _ = Value.bool _ from rfl) ?_)
                  refine WL.nil ?_
                  exact ⟨h0, h4, h5, h6, rfl, h12, h13, h14, congrArg Value.bool (by rw [Bool.eq_iff_iff]; (try simp only [decide_eq_true_eq, decide_eq_false_iff_not] at g57); (try simp only [decide_eq_true_eq, decide_eq_false_iff_not] at g65); (try (cases c53; done)); all_goals simp only [manyB, Bool.or_eq_true, Bool.and_eq_true, decide_eq_true_eq, Bool.false_eq_true, false_iff]; all_goals omega), rfl⟩
            rintro e w ⟨h0, h4, h5, h6, h7, h12, h13, h14, h53, rfl⟩
            refine W.cond h53 (fun c53 => ?_) (fun c53 => ?_)
            · try simp only [decide_eq_true_eq, decide_eq_false_iff_not, Bool.not_eq_true', Bool.not_eq_false', Bool.and_eq_true, Bool.or_eq_true, Bool.and_eq_false_iff, Bool.or_eq_false_iff] at c53
              refine W.seq ?_
              have hmany : manyB l[i] = true := by simpa using c53
              rw [if_pos hmany] at hres2
              refine W.region ?_
              refine WL.c rfl (o_mvh h5 ?_)
              refine WL.c rfl (o_ash (show _ = Value.int _ _ from rfl) ?_)
              refine WL.c rfl (o_ash (show _ = Value.int _ _ from rfl) ?_)
              refine WL.nil ?_
              refine W.ret ?_
              refine ret2v rfl (show _ = Value.int _ _ from rfl) (show _ = Value.int _ _ from rfl) ?_
              rw [hres2]
              exact ⟨rfl, hx⟩
            · try simp only [decide_eq_true_eq, decide_eq_false_iff_not, Bool.not_eq_true', Bool.not_eq_false', Bool.and_eq_true, Bool.or_eq_true, Bool.and_eq_false_iff, Bool.or_eq_false_iff] at c53
              refine W.seq ?_
              have hmany : manyB l[i] = false := by simpa using c53
              rw [if_neg (by simp [hmany])] at hres2
              refine W.tail 5 rfl (by kernel_rfl) ?_
              refine WS.c rfl ((SO.o rfl (o_ldA TI30 rfl h6 (show Cells w c6 0 (exV l[i]) from Cells.of hC7 0 _ (by simp)) rfl ⟨rfl, rfl⟩))) ?_
              refine WS.c rfl ((SO.o rfl (o_mvh h7 ⟨rfl, rfl⟩))) ?_
              refine WS.c rfl ((SO.r (r_nil rfl))) ?_
              refine WS.c rfl ((SO.o rfl (o_fa 0 TI96 rfl TI3 rfl rfl ⟨rfl, rfl⟩))) ?_
              refine WS.c rfl ((SO.o rfl (o_ld TI3 rfl rfl (own_cell hown (j := 0 + S.length * 3 + 0) (by rw [Nat.zero_add]; exact opsR_get _ rfl)) ⟨rfl, rfl⟩))) ?_
              refine WS.nil ?_
              have hxd := Only.drew w
              replace hx := hx.tr hxd
              replace hown := own_ext hown hxd
              replace hC7 := hxd.blk hC7 (fun h => h)
              clear hxd
              generalize w.drew = wd at *
              refine WL.c rfl (o_call Try.call48 (lc rfl (lc rfl ln)) ((right_spec l[i] o.kind _ (hln _ (List.getElem_mem hil)).1 (hln _ (List.getElem_mem hil)).2).mono ?_))
              rintro v77 w77 ⟨rfl, hx77⟩
              replace hx := hx.tr hx77
              replace hown := own_ext hown hx77
              replace hC7 := hx77.blk hC7 (fun h => h)
              refine WL.c rfl (o_not' rfl ?_)
              refine WL.c rfl (o_ash (show _ = Value.bool _ from rfl) ?_)
              refine WL.nil ?_
              refine W.cond rfl (fun c71 => ?_) (fun c71 => ?_)
              · try simp only [decide_eq_true_eq, decide_eq_false_iff_not, Bool.not_eq_true', Bool.not_eq_false', Bool.and_eq_true, Bool.or_eq_true, Bool.and_eq_false_iff, Bool.or_eq_false_iff] at c71
                have hright : rightB l[i] o.kind = false := by simpa using c71
                rw [if_pos hright] at hres2
                refine W.seq ?_
                refine W.region ?_
                refine WL.c rfl (o_mvh h5 ?_)
                refine WL.c rfl (o_ash (show _ = Value.int _ _ from rfl) ?_)
                refine WL.c rfl (o_ash (show _ = Value.int _ _ from rfl) ?_)
                refine WL.nil ?_
                refine W.ret ?_
                refine ret2v rfl (show _ = Value.int _ _ from rfl) (show _ = Value.int _ _ from rfl) ?_
                rw [hres2]
                exact ⟨rfl, hx⟩
              · try simp only [decide_eq_true_eq, decide_eq_false_iff_not, Bool.not_eq_true', Bool.not_eq_false', Bool.and_eq_true, Bool.or_eq_true, Bool.and_eq_false_iff, Bool.or_eq_false_iff] at c71
                have hright : rightB l[i] o.kind = true := by simpa using c71
                rw [if_neg (by simp [hright])] at hres2
                have hkd := rightB_kids hright hmany
                refine W.skip ?_
                refine W.seq ?_
                refine W.region ?_
                refine WL.c rfl (o_mvh h7 ?_)
                refine WL.c rfl (o_nil rfl ?_)
                refine WL.c rfl (o_fa 1 TI96 rfl TI3 rfl rfl ?_)
                refine WL.c rfl (o_ld TI3 rfl rfl (own_cell hown (j := 0 + S.length * 3 + 1) (by rw [Nat.zero_add]; exact opsR_get _ rfl)) ?_)
                refine WL.c rfl (o_subi rfl rfl (by omega) ?_)
                refine WL.c rfl (o_nil rfl ?_)
                refine WL.c rfl (o_fa 1 TI96 rfl TI3 rfl rfl ?_)
                refine WL.u (o_stRj (i := S.length * 3 + 1) TI3 rfl (by omega) (show _ = Value.int .i64 (o.left - 1) from rfl) rfl hown rfl (by omega) ?_)
                intro wA hown' hoA hsA
                replace hown : wA.ownsRow w0.heap.size 96 3 (Value.slice (some ⟨g, 0, none⟩) (S.length + 1) cap) (S.length + 1) (opsR ({ o with left := o.left - 1 } :: S)) := by rw [← opsR_set]; exact hown'
                clear hown'
                replace hC7 := hoA.blk hC7 (fun hk => hcg (by simpa [Value.ownBlock] using hk))
                have hgl := (hown.lt g rfl).1
                replace hx := hx.trans' hoA (fun _ h => h) (fun k hk he => by have := ob he; omega)
                refine WL.nil ?_
                obtain ⟨wd2, hwd⟩ : ∃ wd2, wd2 = wA.drew := ⟨_, rfl⟩
                have hxd : Ext wA wd2 := hwd ▸ Only.drew wA
                replace hx := hx.tr hxd
                replace hown := own_ext hown hxd
                replace hC7 := hxd.blk hC7 (fun h => h)
                refine W.drawT 12 (Ext) [(4, fun v _ => v = _), (6, fun v _ => v = _), (7, fun v _ => v = _), (0, fun v _ => v = _), (5, fun v _ => v = _), (12, fun v _ => v = _), (13, fun v _ => v = _), (14, fun v _ => v = _)] rfl (by kernel_rfl) (Only.refl No) (fun _ _ _ h k => h.trans k) ⟨Mono.eq, Mono.eq, Mono.eq, Mono.eq, Mono.eq, Mono.eq, Mono.eq, Mono.eq, trivial⟩ ⟨h4, h6, h7, h0, h5, h12, h13, h14, trivial⟩ ?_
                refine WD.p rfl (fun e w hR hh => by obtain ⟨h4, -⟩ := hh; exact SG.n (o_mvh h4 ⟨rfl, Only.refl No _⟩)) ?_
                refine WD.p rfl (fun e w hR hh => by obtain ⟨h6, -⟩ := hh; exact SG.n (o_fa 0 TI30 rfl TI3 rfl h6 ⟨rfl, Only.refl No _⟩)) ?_
                refine WD.p rfl (fun e w hR hh => by obtain ⟨h88, -⟩ := hh; rw [← hwd] at hR; exact SG.n (o_ld TI3 rfl h88 (cell_of (hR.blk hC7 (fun h => h)) rfl) ⟨rfl, Only.refl No _⟩)) ?_
                refine WD.p rfl (fun e w hR hh => by obtain ⟨h6, -⟩ := hh; exact SG.n (o_fa 5 TI30 rfl TI3 rfl h6 ⟨rfl, Only.refl No _⟩)) ?_
                refine WD.p rfl (fun e w hR hh => by obtain ⟨h90, -⟩ := hh; rw [← hwd] at hR; exact SG.n (o_ld TI3 rfl h90 (cell_of (hR.blk hC7 (fun h => h)) rfl) ⟨rfl, Only.refl No _⟩)) ?_
                refine WD.p rfl (fun e w hR hh => by obtain ⟨h7, -⟩ := hh; exact SG.n (o_mvh h7 ⟨rfl, Only.refl No _⟩)) ?_
                refine WD.p rfl (fun e w hR hh => by obtain ⟨h92, -⟩ := hh; exact SG.n (o_nil h92 ⟨rfl, Only.refl No _⟩)) ?_
                refine WD.p rfl (fun e w hR hh => by obtain ⟨h93, -⟩ := hh; exact SG.n (o_fa 2 TI96 rfl TI3 rfl h93 ⟨rfl, Only.refl No _⟩)) ?_
                refine WD.p rfl (fun e w hR hh => by obtain ⟨h94, -⟩ := hh; rw [← hwd] at hR; exact SG.n (o_ld TI3 rfl h94 (show w.cell? ⟨g, 0 + S.length * 3 + 2, none⟩ = some (.int .i64 o.deep) from own_cell (own_ext hown hR) (by rw [Nat.zero_add]; exact opsR_get _ rfl)) ⟨rfl, Only.refl No _⟩)) ?_
                refine WD.p rfl (fun e w hR hh => by obtain ⟨h95, -⟩ := hh; exact SG.n (o_addi h95 rfl (by omega) ⟨rfl, Only.refl No _⟩)) ?_
                refine WD.p rfl (fun e w hR hh => by obtain ⟨h96, h91, h89, -⟩ := hh; exact SG.n (o_bldC (cs := [_, _, _]) TI96 (Sizes.cons TI3 (Sizes.cons TI3 (Sizes.cons TI3 Sizes.nil))) rfl (lcp h89 (lcp h91 (lcp h96 lnp))) rfl rfl ⟨rfl, Only.refl No _⟩)) ?_
                refine WD.q (fun u w => w.ownsRow wd2.heap.size 96 3 u 1 (opV ⟨l[i].kind, l[i].kids, o.deep + 1⟩)) (fun u w w2 hR hh => own_ext hh hR) rfl (fun e w hR hh => by obtain ⟨h97, -⟩ := hh; rw [← hwd] at hR; exact SG.n (o_bs1 TI97 TI96 h97 (by decide) (by decide) rfl ⟨own_mono (own_new1 rfl) hR.size, Only.alloc w _⟩)) ?_
                rintro e w hR ⟨h98, h97, h96, h95, h94, h93, h92, h91, h90, h89, h88, h87, h4, h6, h7, h0, h5, h12, h13, h14, -⟩
                rw [← hwd] at hR
                replace hx := hx.tr hR
                replace hown := own_ext hown hR
                replace hC7 := hR.blk hC7 (fun h => h)
                refine WL.c rfl (o_apO (w0.heap.size) TI97 TI96 h87 rfl hown (Sl.own h98) rfl (by decide) (by simp [opV, Value.oneCell']) (by rw [maxLen_eq]; omega) (by omega) hx.size ?_)
                intro v99 w99 hown99 ho99 hb99 hk99
                have hrow : w99.ownsRow w0.heap.size 96 3 v99 (⟨l[i].kind, l[i].kids, o.deep + 1⟩ :: { o with left := o.left - 1 } :: S).length (opsR (⟨l[i].kind, l[i].kids, o.deep + 1⟩ :: { o with left := o.left - 1 } :: S)) := by rw [opsR_cons ⟨l[i].kind, l[i].kids, o.deep + 1⟩]; exact hown99
                replace hx := hx.trans' ho99 (fun _ h => h) (fun k hk he => by have := ob he; omega)
                have hok3 : OkS ({ o with left := o.left - 1 } :: S) := ⟨hdp, by show 0 ≤ o.left - 1; omega, by show o.left - 1 ≤ 64; omega, hok2⟩
                refine WL.c rfl (o_ash (by first | exact (show _ = Value.slice _ _ _ from rfl) | exact rfl) ?_)
                refine WL.nil ?_
                refine W.region ?_
                refine WL.c rfl (o_addi h14 rfl (by omega) ?_)
                refine WL.c rfl (o_mvh (show _ = Value.int _ _ from rfl) ?_)
                refine WL.nil ?_
                refine ⟨⟨i + 1, _, _, by omega, h0, rfl, h12, h13, rfl, hrow, ⟨by simp only [List.length_cons]; omega, hkd.1, hkd.2, hok3⟩, by simp only [List.length_cons] at hdp ⊢; omega, ?_, hx⟩, ?_⟩
                · rw [hres, hlc, chkE_o hpz2, if_neg hdeep, if_neg (by simp [hmany]), if_neg (by simp [hright])]
                · show l.length - ((i : Int) + 1).toNat < _
                  rw [hm14]; simp [intOf]; omega
          · skip
            refine WL.s rfl (g57) rfl ?_
            refine WL.s rfl (g57) rfl ?_
            refine WL.s rfl (g57) rfl ?_
            refine WL.c rfl (o_pickF rfl (g57) ?_)
            refine WL.c rfl (o_ash (show _ = Value.bool _ from rfl) ?_)
            refine WL.nil ?_
            refine W.cut (fun e1 w1 => e1 0 = Value.slice (some ⟨tb, to_, none⟩) l.length tc ∧ e1 4 = Value.slice (some ⟨g, 0, none⟩) (S.length + 1) cap ∧ e1 5 = .int .i64 (i : Int) ∧ e1 6 = .pointer (some ⟨c6, 0, none⟩) ∧ e1 7 = .pointer (some ⟨g, 0 + S.length * 3, none⟩) ∧ e1 12 = Value.slice (some ⟨tb, to_, none⟩) l.length tc ∧ e1 13 = .int .i64 (l.length : Int) ∧ e1 14 = .int .i64 (i : Int) ∧ e1 53 = .bool (manyB l[i]) ∧ w1 = w) ?_ ?_
            · -- both ways
              refine W.cond rfl (fun c53 => ?_) (fun c53 => ?_)
              · try simp only [decide_eq_true_eq, decide_eq_false_iff_not, Bool.not_eq_true', Bool.not_eq_false', Bool.and_eq_true, Bool.or_eq_true, Bool.and_eq_false_iff, Bool.or_eq_false_iff] at c53
                refine W.skip ?_
                exact ⟨h0, h4, h5, h6, rfl, h12, h13, h14, congrArg Value.bool (by rw [Bool.eq_iff_iff]; (try simp only [decide_eq_true_eq, decide_eq_false_iff_not] at g57); (try simp only [decide_eq_true_eq, decide_eq_false_iff_not] at g65); (try (cases c53; done)); all_goals simp only [manyB, Bool.or_eq_true, Bool.and_eq_true, decide_eq_true_eq, Bool.false_eq_true, false_iff]; all_goals omega), rfl⟩
              · try simp only [decide_eq_true_eq, decide_eq_false_iff_not, Bool.not_eq_true', Bool.not_eq_false', Bool.and_eq_true, Bool.or_eq_true, Bool.and_eq_false_iff, Bool.or_eq_false_iff] at c53
                refine W.region ?_
                refine WL.c rfl (o_fa 0 TI30 rfl TI3 rfl h6 ?_)
                refine WL.c rfl (o_ld TI3 rfl rfl (cell_of hC7 rfl) ?_)
                refine WL.c rfl (o_eq rfl rfl ?_)
                refine WL.c rfl (o_mvh (show _ = Value.bool _ from rfl) ?_)
                refine WL.sp 3 rfl (fun g65 => ?_) (fun g65 => ?_)
                · skip
                  refine WL.g rfl (g65) rfl (o_fa 5 TI30 rfl TI3 rfl h6 ?_)
                  refine WL.g rfl (g65) rfl (o_ld TI3 rfl rfl (cell_of hC7 rfl) ?_)
                  refine WL.g rfl (g65) rfl (o_gt rfl rfl ?_)
                  refine WL.c rfl (o_pickA rfl rfl ?_)
                  refine WL.c rfl (o_ash (show _ = Value.bool _ from rfl) ?_)
                  refine WL.nil ?_
                  exact ⟨h0, h4, h5, h6, rfl, h12, h13, h14, congrArg Value.bool (by rw [Bool.eq_iff_iff]; (try simp only [decide_eq_true_eq, decide_eq_false_iff_not] at g57); (try simp only [decide_eq_true_eq, decide_eq_false_iff_not] at g65); (try (cases c53; done)); all_goals simp only [manyB, Bool.or_eq_true, Bool.and_eq_true, decide_eq_true_eq, Bool.false_eq_true, false_iff]; all_goals omega), rfl⟩
                · skip
                  refine WL.s rfl (g65) rfl ?_
                  refine WL.s rfl (g65) rfl ?_
                  refine WL.s rfl (g65) rfl ?_
                  refine WL.c rfl (o_pickF rfl (g65) ?_)
                  refine WL.c rfl (o_ash (show _ = Value.bool _ from rfl) ?_)
                  refine WL.nil ?_
                  exact ⟨h0, h4, h5, h6, rfl, h12, h13, h14, congrArg Value.bool (by rw [Bool.eq_iff_iff]; (try simp only [decide_eq_true_eq, decide_eq_false_iff_not] at g57); (try simp only [decide_eq_true_eq, decide_eq_false_iff_not] at g65); (try (cases c53; done)); all_goals simp only [manyB, Bool.or_eq_true, Bool.and_eq_true, decide_eq_true_eq, Bool.false_eq_true, false_iff]; all_goals omega), rfl⟩
            rintro e w ⟨h0, h4, h5, h6, h7, h12, h13, h14, h53, rfl⟩
            refine W.cond h53 (fun c53 => ?_) (fun c53 => ?_)
            · try simp only [decide_eq_true_eq, decide_eq_false_iff_not, Bool.not_eq_true', Bool.not_eq_false', Bool.and_eq_true, Bool.or_eq_true, Bool.and_eq_false_iff, Bool.or_eq_false_iff] at c53
              refine W.seq ?_
              have hmany : manyB l[i] = true := by simpa using c53
              rw [if_pos hmany] at hres2
              refine W.region ?_
              refine WL.c rfl (o_mvh h5 ?_)
              refine WL.c rfl (o_ash (show _ = Value.int _ _ from rfl) ?_)
              refine WL.c rfl (o_ash (show _ = Value.int _ _ from rfl) ?_)
              refine WL.nil ?_
              refine W.ret ?_
              refine ret2v rfl (show _ = Value.int _ _ from rfl) (show _ = Value.int _ _ from rfl) ?_
              rw [hres2]
              exact ⟨rfl, hx⟩
            · try simp only [decide_eq_true_eq, decide_eq_false_iff_not, Bool.not_eq_true', Bool.not_eq_false', Bool.and_eq_true, Bool.or_eq_true, Bool.and_eq_false_iff, Bool.or_eq_false_iff] at c53
              refine W.seq ?_
              have hmany : manyB l[i] = false := by simpa using c53
              rw [if_neg (by simp [hmany])] at hres2
              refine W.tail 5 rfl (by kernel_rfl) ?_
              refine WS.c rfl ((SO.o rfl (o_ldA TI30 rfl h6 (show Cells w c6 0 (exV l[i]) from Cells.of hC7 0 _ (by simp)) rfl ⟨rfl, rfl⟩))) ?_
              refine WS.c rfl ((SO.o rfl (o_mvh h7 ⟨rfl, rfl⟩))) ?_
              refine WS.c rfl ((SO.r (r_nil rfl))) ?_
              refine WS.c rfl ((SO.o rfl (o_fa 0 TI96 rfl TI3 rfl rfl ⟨rfl, rfl⟩))) ?_
              refine WS.c rfl ((SO.o rfl (o_ld TI3 rfl rfl (own_cell hown (j := 0 + S.length * 3 + 0) (by rw [Nat.zero_add]; exact opsR_get _ rfl)) ⟨rfl, rfl⟩))) ?_
              refine WS.nil ?_
              have hxd := Only.drew w
              replace hx := hx.tr hxd
              replace hown := own_ext hown hxd
              replace hC7 := hxd.blk hC7 (fun h => h)
              clear hxd
              generalize w.drew = wd at *
              refine WL.c rfl (o_call Try.call48 (lc rfl (lc rfl ln)) ((right_spec l[i] o.kind _ (hln _ (List.getElem_mem hil)).1 (hln _ (List.getElem_mem hil)).2).mono ?_))
              rintro v77 w77 ⟨rfl, hx77⟩
              replace hx := hx.tr hx77
              replace hown := own_ext hown hx77
              replace hC7 := hx77.blk hC7 (fun h => h)
              refine WL.c rfl (o_not' rfl ?_)
              refine WL.c rfl (o_ash (show _ = Value.bool _ from rfl) ?_)
              refine WL.nil ?_
              refine W.cond rfl (fun c71 => ?_) (fun c71 => ?_)
              · try simp only [decide_eq_true_eq, decide_eq_false_iff_not, Bool.not_eq_true', Bool.not_eq_false', Bool.and_eq_true, Bool.or_eq_true, Bool.and_eq_false_iff, Bool.or_eq_false_iff] at c71
                have hright : rightB l[i] o.kind = false := by simpa using c71
                rw [if_pos hright] at hres2
                refine W.seq ?_
                refine W.region ?_
                refine WL.c rfl (o_mvh h5 ?_)
                refine WL.c rfl (o_ash (show _ = Value.int _ _ from rfl) ?_)
                refine WL.c rfl (o_ash (show _ = Value.int _ _ from rfl) ?_)
                refine WL.nil ?_
                refine W.ret ?_
                refine ret2v rfl (show _ = Value.int _ _ from rfl) (show _ = Value.int _ _ from rfl) ?_
                rw [hres2]
                exact ⟨rfl, hx⟩
              · try simp only [decide_eq_true_eq, decide_eq_false_iff_not, Bool.not_eq_true', Bool.not_eq_false', Bool.and_eq_true, Bool.or_eq_true, Bool.and_eq_false_iff, Bool.or_eq_false_iff] at c71
                have hright : rightB l[i] o.kind = true := by simpa using c71
                rw [if_neg (by simp [hright])] at hres2
                have hkd := rightB_kids hright hmany
                refine W.skip ?_
                refine W.seq ?_
                refine W.region ?_
                refine WL.c rfl (o_mvh h7 ?_)
                refine WL.c rfl (o_nil rfl ?_)
                refine WL.c rfl (o_fa 1 TI96 rfl TI3 rfl rfl ?_)
                refine WL.c rfl (o_ld TI3 rfl rfl (own_cell hown (j := 0 + S.length * 3 + 1) (by rw [Nat.zero_add]; exact opsR_get _ rfl)) ?_)
                refine WL.c rfl (o_subi rfl rfl (by omega) ?_)
                refine WL.c rfl (o_nil rfl ?_)
                refine WL.c rfl (o_fa 1 TI96 rfl TI3 rfl rfl ?_)
                refine WL.u (o_stRj (i := S.length * 3 + 1) TI3 rfl (by omega) (show _ = Value.int .i64 (o.left - 1) from rfl) rfl hown rfl (by omega) ?_)
                intro wA hown' hoA hsA
                replace hown : wA.ownsRow w0.heap.size 96 3 (Value.slice (some ⟨g, 0, none⟩) (S.length + 1) cap) (S.length + 1) (opsR ({ o with left := o.left - 1 } :: S)) := by rw [← opsR_set]; exact hown'
                clear hown'
                replace hC7 := hoA.blk hC7 (fun hk => hcg (by simpa [Value.ownBlock] using hk))
                have hgl := (hown.lt g rfl).1
                replace hx := hx.trans' hoA (fun _ h => h) (fun k hk he => by have := ob he; omega)
                refine WL.nil ?_
                obtain ⟨wd2, hwd⟩ : ∃ wd2, wd2 = wA.drew := ⟨_, rfl⟩
                have hxd : Ext wA wd2 := hwd ▸ Only.drew wA
                replace hx := hx.tr hxd
                replace hown := own_ext hown hxd
                replace hC7 := hxd.blk hC7 (fun h => h)
                refine W.drawT 12 (Ext) [(4, fun v _ => v = _), (6, fun v _ => v = _), (7, fun v _ => v = _), (0, fun v _ => v = _), (5, fun v _ => v = _), (12, fun v _ => v = _), (13, fun v _ => v = _), (14, fun v _ => v = _)] rfl (by kernel_rfl) (Only.refl No) (fun _ _ _ h k => h.trans k) ⟨Mono.eq, Mono.eq, Mono.eq, Mono.eq, Mono.eq, Mono.eq, Mono.eq, Mono.eq, trivial⟩ ⟨h4, h6, h7, h0, h5, h12, h13, h14, trivial⟩ ?_
                refine WD.p rfl (fun e w hR hh => by obtain ⟨h4, -⟩ := hh; exact SG.n (o_mvh h4 ⟨rfl, Only.refl No _⟩)) ?_
                refine WD.p rfl (fun e w hR hh => by obtain ⟨h6, -⟩ := hh; exact SG.n (o_fa 0 TI30 rfl TI3 rfl h6 ⟨rfl, Only.refl No _⟩)) ?_
                refine WD.p rfl (fun e w hR hh => by obtain ⟨h88, -⟩ := hh; rw [← hwd] at hR; exact SG.n (o_ld TI3 rfl h88 (cell_of (hR.blk hC7 (fun h => h)) rfl) ⟨rfl, Only.refl No _⟩)) ?_
                refine WD.p rfl (fun e w hR hh => by obtain ⟨h6, -⟩ := hh; exact SG.n (o_fa 5 TI30 rfl TI3 rfl h6 ⟨rfl, Only.refl No _⟩)) ?_
                refine WD.p rfl (fun e w hR hh => by obtain ⟨h90, -⟩ := hh; rw [← hwd] at hR; exact SG.n (o_ld TI3 rfl h90 (cell_of (hR.blk hC7 (fun h => h)) rfl) ⟨rfl, Only.refl No _⟩)) ?_
                refine WD.p rfl (fun e w hR hh => by obtain ⟨h7, -⟩ := hh; exact SG.n (o_mvh h7 ⟨rfl, Only.refl No _⟩)) ?_
                refine WD.p rfl (fun e w hR hh => by obtain ⟨h92, -⟩ := hh; exact SG.n (o_nil h92 ⟨rfl, Only.refl No _⟩)) ?_
                refine WD.p rfl (fun e w hR hh => by obtain ⟨h93, -⟩ := hh; exact SG.n (o_fa 2 TI96 rfl TI3 rfl h93 ⟨rfl, Only.refl No _⟩)) ?_
                refine WD.p rfl (fun e w hR hh => by obtain ⟨h94, -⟩ := hh; rw [← hwd] at hR; exact SG.n (o_ld TI3 rfl h94 (show w.cell? ⟨g, 0 + S.length * 3 + 2, none⟩ = some (.int .i64 o.deep) from own_cell (own_ext hown hR) (by rw [Nat.zero_add]; exact opsR_get _ rfl)) ⟨rfl, Only.refl No _⟩)) ?_
                refine WD.p rfl (fun e w hR hh => by obtain ⟨h95, -⟩ := hh; exact SG.n (o_addi h95 rfl (by omega) ⟨rfl, Only.refl No _⟩)) ?_
                refine WD.p rfl (fun e w hR hh => by obtain ⟨h96, h91, h89, -⟩ := hh; exact SG.n (o_bldC (cs := [_, _, _]) TI96 (Sizes.cons TI3 (Sizes.cons TI3 (Sizes.cons TI3 Sizes.nil))) rfl (lcp h89 (lcp h91 (lcp h96 lnp))) rfl rfl ⟨rfl, Only.refl No _⟩)) ?_
                refine WD.q (fun u w => w.ownsRow wd2.heap.size 96 3 u 1 (opV ⟨l[i].kind, l[i].kids, o.deep + 1⟩)) (fun u w w2 hR hh => own_ext hh hR) rfl (fun e w hR hh => by obtain ⟨h97, -⟩ := hh; rw [← hwd] at hR; exact SG.n (o_bs1 TI97 TI96 h97 (by decide) (by decide) rfl ⟨own_mono (own_new1 rfl) hR.size, Only.alloc w _⟩)) ?_
                rintro e w hR ⟨h98, h97, h96, h95, h94, h93, h92, h91, h90, h89, h88, h87, h4, h6, h7, h0, h5, h12, h13, h14, -⟩
                rw [← hwd] at hR
                replace hx := hx.tr hR
                replace hown := own_ext hown hR
                replace hC7 := hR.blk hC7 (fun h => h)
                refine WL.c rfl (o_apO (w0.heap.size) TI97 TI96 h87 rfl hown (Sl.own h98) rfl (by decide) (by simp [opV, Value.oneCell']) (by rw [maxLen_eq]; omega) (by omega) hx.size ?_)
                intro v99 w99 hown99 ho99 hb99 hk99
                have hrow : w99.ownsRow w0.heap.size 96 3 v99 (⟨l[i].kind, l[i].kids, o.deep + 1⟩ :: { o with left := o.left - 1 } :: S).length (opsR (⟨l[i].kind, l[i].kids, o.deep + 1⟩ :: { o with left := o.left - 1 } :: S)) := by rw [opsR_cons ⟨l[i].kind, l[i].kids, o.deep + 1⟩]; exact hown99
                replace hx := hx.trans' ho99 (fun _ h => h) (fun k hk he => by have := ob he; omega)
                have hok3 : OkS ({ o with left := o.left - 1 } :: S) := ⟨hdp, by show 0 ≤ o.left - 1; omega, by show o.left - 1 ≤ 64; omega, hok2⟩
                refine WL.c rfl (o_ash (by first | exact (show _ = Value.slice _ _ _ from rfl) | exact rfl) ?_)
                refine WL.nil ?_
                refine W.region ?_
                refine WL.c rfl (o_addi h14 rfl (by omega) ?_)
                refine WL.c rfl (o_mvh (show _ = Value.int _ _ from rfl) ?_)
                refine WL.nil ?_
                refine ⟨⟨i + 1, _, _, by omega, h0, rfl, h12, h13, rfl, hrow, ⟨by simp only [List.length_cons]; omega, hkd.1, hkd.2, hok3⟩, by simp only [List.length_cons] at hdp ⊢; omega, ?_, hx⟩, ?_⟩
                · rw [hres, hlc, chkE_o hpz2, if_neg hdeep, if_neg (by simp [hmany]), if_neg (by simp [hright])]
                · show l.length - ((i : Int) + 1).toNat < _
                  rw [hm14]; simp [intOf]; omega
  · try simp only [decide_eq_true_eq, decide_eq_false_iff_not, Bool.not_eq_true', Bool.not_eq_false', Bool.and_eq_true, Bool.or_eq_true, Bool.and_eq_false_iff, Bool.or_eq_false_iff] at c15
    have hil : i = l.length := by omega
    rw [hil, List.drop_length, chkE_nil] at hres
    refine W.exit ?_
    refine W.seq ?_
    refine W.seq ?_
    refine W.region ?_
    refine WL.c rfl (o_mvh h4 ?_)
    refine WL.c rfl (o_lenR TI97 rfl (Sl.own hown) ?_)
    refine WL.c rfl (o_mvh (show _ = Value.int _ _ from rfl) ?_)
    refine WL.nil ?_
    refine W.block ?_
    refine W.loop (fun e w => ∃ k : Nat, k ≤ S0.length ∧ e 0 = v ∧ e 101 = sv0 ∧ e 102 = .int .i64 (S0.length : Int) ∧ e 103 = .int .i64 (k : Int) ∧ leftB S0 = leftB (S0.reverse.drop k).reverse ∧ w.ownsRow w0.heap.size 96 3 sv0 S0.length (opsR S0) ∧ Ext w0 w) (fun e w => S0.length - (intOf (e 103)).toNat) ?_ ?_
    · exact ⟨0, Nat.zero_le _, h0, rfl, rfl, rfl, by rw [List.drop_zero, List.reverse_reverse], hown, hx⟩
    rintro e w ⟨k, hk, h0, h101, h102, h103, hlb, hown, hx⟩
    have hm103 := h103
    refine W.seq ?_
    refine W.region ?_
    refine WL.c rfl (o_lt h103 h102 ?_)
    refine WL.nil ?_
    refine W.seq ?_
    refine W.cond rfl (fun c104 => ?_) (fun c104 => ?_)
    · try simp only [decide_eq_true_eq, decide_eq_false_iff_not, Bool.not_eq_true', Bool.not_eq_false', Bool.and_eq_true, Bool.or_eq_true, Bool.and_eq_false_iff, Bool.or_eq_false_iff] at c104
      have hk1 : k < S0.length := by omega
      obtain ⟨g, cap, rfl, hgb⟩ := own_some hown (by omega)
      have hcc := own_cellsAt hown k
      rw [ops_at hk1] at hcc
      refine W.skip ?_
      refine W.seq ?_
      refine W.block ?_
      refine W.seq ?_
      refine W.region ?_
      refine WL.c rfl (o_ixB TI97 TI96 h101 h103 (by omega) ?_)
      refine WL.c rfl (o_ldA TI96 rfl rfl hcc rfl ?_)
      refine WL.c rfl (o_alB TI96 ?_)
      intro w9 hC9 hx9 hs9
      refine WL.u (o_stA TI96 rfl (show _ = Value.agg (opV (S0.reverse[k]'(by simpa using hk1))).toArray from rfl) rfl rfl hC9 rfl ?_)
      intro wb hCb hob hsb
      have hxb := Ext.own hx9 (Nat.le_refl _) hob
      clear hC9 hx9 hs9 hob hsb hcc
      replace hown := own_ext hown hxb
      replace hx := hx.tr hxb
      refine WL.nil ?_
      refine W.seq ?_
      refine W.region ?_
      refine WL.c rfl (o_fa 1 TI96 rfl TI3 rfl rfl ?_)
      refine WL.c rfl (o_ld TI3 rfl rfl (cell_of hCb rfl) ?_)
      refine WL.c rfl (o_gt rfl rfl ?_)
      refine WL.nil ?_
      refine W.cond rfl (fun c109 => ?_) (fun c109 => ?_)
      · try simp only [decide_eq_true_eq, decide_eq_false_iff_not, Bool.not_eq_true', Bool.not_eq_false', Bool.and_eq_true, Bool.or_eq_true, Bool.and_eq_false_iff, Bool.or_eq_false_iff] at c109
        have hnl : 0 < (S0.reverse[k]'(by simpa using hk1)).left := by omega
        rw [hlb, leftB_at _ _ hk1, decide_eq_true hnl, Bool.true_or, if_pos rfl] at hres
        refine W.seq ?_
        refine W.region ?_
        refine WL.c rfl (o_mvh h0 ?_)
        refine WL.c rfl (o_lenR TI38 rfl (hS0.ext hx) ?_)
        refine WL.c rfl (o_ash (show _ = Value.int _ _ from rfl) ?_)
        refine WL.c rfl (o_ash (show _ = Value.int _ _ from rfl) ?_)
        refine WL.nil ?_
        refine W.ret ?_
        refine ret2v rfl (show _ = Value.int _ _ from rfl) (show _ = Value.int _ _ from rfl) ?_
        rw [hres]
        exact ⟨rfl, hx⟩
      · try simp only [decide_eq_true_eq, decide_eq_false_iff_not, Bool.not_eq_true', Bool.not_eq_false', Bool.and_eq_true, Bool.or_eq_true, Bool.and_eq_false_iff, Bool.or_eq_false_iff] at c109
        have hnl : ¬ 0 < (S0.reverse[k]'(by simpa using hk1)).left := by omega
        refine W.skip ?_
        refine W.region ?_
        refine WL.c rfl (o_addi h103 rfl (by omega) ?_)
        refine WL.c rfl (o_mvh (show _ = Value.int _ _ from rfl) ?_)
        refine WL.nil ?_
        refine ⟨⟨k + 1, by omega, h0, h101, h102, rfl, ?_, hown, hx⟩, ?_⟩
        · rw [hlb, leftB_at _ _ hk1, decide_eq_false hnl, Bool.false_or]
        · show S0.length - ((k : Int) + 1).toNat < _
          rw [hm103]; simp [intOf]; omega
    · try simp only [decide_eq_true_eq, decide_eq_false_iff_not, Bool.not_eq_true', Bool.not_eq_false', Bool.and_eq_true, Bool.or_eq_true, Bool.and_eq_false_iff, Bool.or_eq_false_iff] at c104
      have hk1 : k = S0.length := by omega
      rw [hk1, show (S0.reverse.drop S0.length).reverse = [] by simp] at hlb
      rw [hlb, if_neg (by simp [leftB])] at hres
      refine W.exit ?_
      refine W.seq ?_
      refine W.region ?_
      refine WL.c rfl (o_ash (show _ = Value.int _ _ from rfl) ?_)
      refine WL.c rfl (o_ash (show _ = Value.int _ _ from rfl) ?_)
      refine WL.nil ?_
      refine W.ret ?_
      refine ret2v rfl (show _ = Value.int _ _ from rfl) (show _ = Value.int _ _ from rfl) ?_
      rw [hres]
      exact ⟨rfl, hx⟩
end Go.Proofs.Ytcljkkfpcomdcaa

set_option linter.unusedSimpArgs false
set_option linter.unusedVariables false
set_option maxRecDepth 100000
namespace Go.Proofs.Ytcljkkfpcomdcaa
open Go Go.Vc Go.RowKit Go.Proofs

theorem fm_at {α : Type} {f : α → List Value} {s : Nat} (hs : ∀ a, (f a).length = s) (ts : List α) : ∀ (k : Nat) (hk : k < ts.length), ((ts.flatMap f).drop (k * s)).take s = f ts[k] := by
  induction ts with
  | nil => intro k hk; simp at hk
  | cons t ts ih =>
    intro k hk
    cases k with
    | zero => rw [Nat.zero_mul, List.drop_zero, List.flatMap_cons]; exact List.take_left' (hs t)
    | succ k =>
      have h1 : (k + 1) * s - (f t).length = k * s := by rw [hs, Nat.succ_mul]; omega
      have h2 : (f t).length ≤ (k + 1) * s := by rw [hs, Nat.succ_mul]; omega
      have := ih k (by simpa using hk)
      rw [List.flatMap_cons, List.drop_append, List.drop_eq_nil_of_le h2, List.nil_append, h1]
      exact this
theorem drows_at (D : List Df) (V : Nat → Value) {k : Nat} (hk : k < D.length) : ((drows D V).drop (k * 3)).take 3 = dcell (D.getD k df0) (V k) := by
  have h := fm_at (f := fun j => dcell (D.getD j df0) (V j)) (s := 3) (fun _ => rfl) (List.range D.length) k (by simpa using hk)
  rw [drows, h, List.getElem_range]
/-- definitions that are read -/
structure DefR (w : World) (D : List Df) (dv : Value) (V : Nat → Value) : Prop where
  row : Sl w 3 dv D.length (drows D V)
  tys : ∀ j, j < D.length → Sl w 7 (V j) (tyD D j).length (exs (tyD D j))
theorem DefR.only {w w' : World} {D : List Df} {dv : Value} {V : Nat → Value} {F : Nat → Prop} (h : DefR w D dv V) (ho : Only F w w') (hn : ∀ k, DF dv V D.length k → ¬ F k) : DefR w' D dv V :=
  ⟨h.row.only ho (fun k hk => hn k (.inl hk)), fun j hj => (h.tys j hj).only ho (fun k hk => hn k (.inr ⟨j, hj, hk⟩))⟩
theorem DefR.ext {w w' : World} {D : List Df} {dv : Value} {V : Nat → Value} (h : DefR w D dv V) (ho : Ext w w') : DefR w' D dv V := h.only ho (fun _ _ h => h)
theorem Defs.rd {w : World} {H : Nat} {D : List Df} {dv : Value} {V : Nat → Value} (h : Defs w H D dv V) : DefR w D dv V := ⟨Sl.own h.row, fun j hj => Sl.own (h.tys.row j hj)⟩
theorem DefR.at {w : World} {D : List Df} {dv : Value} {V : Nat → Value} (h : DefR w D dv V) {k : Nat} (hk : k < D.length) : ∃ b o c, dv = .slice (some ⟨b, o, none⟩) D.length c ∧ Cells w b (o + k * 3) (dcell (D.getD k df0) (V k)) := by
  rcases h.row.val with ⟨hz, h0⟩ | ⟨b, o, c, rfl, hnc, hc⟩
  · omega
  · exact ⟨b, o, c, rfl, by rw [← drows_at D V hk]; exact hc.sub _ _⟩
theorem sl_one1 {w : World} {s : Nat} {v : Value} {n : Nat} {xs : List Value} (h : Sl w s v n xs) : v.oneCell' = true := by
  obtain ⟨a, c, rfl⟩ := h.isSlice
  rfl
/-- names and numbers that a machine can hold -/
def DLim (D : List Df) : Prop := ∀ d ∈ D, d.name.length ≤ 9223372036854775807 ∧ d.ty.length ≤ 4611686018427387904 ∧ ∀ x ∈ d.ty, x.name.length ≤ 9223372036854775807 ∧ x.label.length ≤ 9223372036854775807
def chkT (l : List Ex) : Nat × Nat := chkE [⟨0, 1, 0⟩] 0 l
def chkA : Nat → List Df → Nat × Nat × Nat
  | _, [] => (0, 0, 0)
  | i, d :: ds => if nameB d.name = false then (i, 0, 62) else if (chkT d.ty).2 = 0 then chkA (i + 1) ds else (i, chkT d.ty)
def chkS (D : List Df) : Nat × Nat × Nat := if 256 < D.length then (256, 0, 5) else chkA 0 D
theorem chkA_nil {i : Nat} : chkA i [] = (0, 0, 0) := rfl
theorem chkA_cons {i : Nat} {d : Df} {ds : List Df} : chkA i (d :: ds) = if nameB d.name = false then (i, 0, 62) else if (chkT d.ty).2 = 0 then chkA (i + 1) ds else (i, chkT d.ty) := rfl
def rs3 (r : Nat × Nat × Nat) : Value := .tuple #[.int .i64 (r.1 : Int), .int .i64 (r.2.1 : Int), .int .i64 (r.2.2 : Int)]

set_option maxHeartbeats 2000000 in
theorem check_spec (D : List Df) (dv : Value) (V : Nat → Value) (w0 : World) (hD : DefR w0 D dv V) (hlim : DLim D) : Ca Try.prog 14 #[.agg #[dv]] w0 (fun r w' => r = rs3 (chkS D) ∧ Ext w0 w') := by
  refine Ca.of Try.func14 Try.ntmps14 rfl rfl ?_
  refine W.seq ?_
  refine W.region ?_
  refine WL.c rfl (o_boxB rfl ?_)
  intro w1 hC1 hx1 hs1
  have hx := hx1
  replace hC1 : w1.heap[w0.heap.size]? = some (.cells #[dv] 28 (0, 0)) := hC1
  obtain ⟨c1, hc1⟩ : ∃ c, c = w0.heap.size := ⟨_, rfl⟩
  rw [← hc1] at hC1 ⊢
  replace hD := hD.ext hx1
  refine WL.c rfl (o_ash (show _ = Value.int _ _ from rfl) ?_)
  refine WL.c rfl (o_ash (show _ = Value.int _ _ from rfl) ?_)
  refine WL.c rfl (o_ash (show _ = Value.int _ _ from rfl) ?_)
  refine WL.nil ?_
  refine W.seq ?_
  refine W.seq ?_
  refine W.region ?_
  refine WL.c rfl (o_fa 0 TI28 rfl TI26 rfl rfl ?_)
  refine WL.c rfl (o_ld TI26 rfl rfl (cell_of hC1 rfl) ?_)
  refine WL.c rfl (o_lenR TI26 rfl hD.row ?_)
  refine WL.c rfl (o_gt rfl rfl ?_)
  refine WL.nil ?_
  refine W.cond rfl (fun c12 => ?_) (fun c12 => ?_)
  · try simp only [decide_eq_true_eq, decide_eq_false_iff_not, Bool.not_eq_true', Bool.not_eq_false', Bool.and_eq_true, Bool.or_eq_true, Bool.and_eq_false_iff, Bool.or_eq_false_iff] at c12
    have hn : 256 < D.length := by omega
    refine W.seq ?_
    refine W.region ?_
    refine WL.c rfl (o_ash (show _ = Value.int _ _ from rfl) ?_)
    refine WL.c rfl (o_ash (show _ = Value.int _ _ from rfl) ?_)
    refine WL.c rfl (o_ash (show _ = Value.int _ _ from rfl) ?_)
    refine WL.nil ?_
    refine W.ret ?_
    refine ret3v rfl (show _ = Value.int _ _ from rfl) (show _ = Value.int _ _ from rfl) (show _ = Value.int _ _ from rfl) ?_
    exact ⟨by rw [chkS, if_pos hn]; rfl, hx⟩
  · try simp only [decide_eq_true_eq, decide_eq_false_iff_not, Bool.not_eq_true', Bool.not_eq_false', Bool.and_eq_true, Bool.or_eq_true, Bool.and_eq_false_iff, Bool.or_eq_false_iff] at c12
    have hn : ¬ 256 < D.length := by omega
    refine W.skip ?_
    refine W.seq ?_
    refine W.seq ?_
    refine W.region ?_
    refine WL.c rfl (o_fa 0 TI28 rfl TI26 rfl rfl ?_)
    refine WL.c rfl (o_ld TI26 rfl rfl (cell_of hC1 rfl) ?_)
    refine WL.c rfl (o_lenR TI26 rfl hD.row ?_)
    refine WL.c rfl (o_mvh (show _ = Value.int _ _ from rfl) ?_)
    refine WL.nil ?_
    refine W.block ?_
    refine W.loop (fun e w => ∃ i : Nat, i ≤ D.length ∧ e 14 = dv ∧ e 15 = .int .i64 (D.length : Int) ∧ e 16 = .int .i64 (i : Int) ∧ chkS D = chkA i (D.drop i) ∧ DefR w D dv V ∧ Ext w0 w) (fun e w => D.length - (intOf (e 16)).toNat) ?_ ?_
    · exact ⟨0, Nat.zero_le _, rfl, rfl, rfl, by rw [chkS, if_neg hn]; rfl, hD, hx⟩
    rintro e w ⟨i, hi, h14, h15, h16, hres, hD, hx⟩
    have hm16 := h16
    refine W.seq ?_
    refine W.region ?_
    refine WL.c rfl (o_lt h16 h15 ?_)
    refine WL.nil ?_
    refine W.seq ?_
    refine W.cond rfl (fun c17 => ?_) (fun c17 => ?_)
    · try simp only [decide_eq_true_eq, decide_eq_false_iff_not, Bool.not_eq_true', Bool.not_eq_false', Bool.and_eq_true, Bool.or_eq_true, Bool.and_eq_false_iff, Bool.or_eq_false_iff] at c17
      have hil : i < D.length := by omega
      obtain ⟨tb, to_, tc, rfl, htc⟩ := hD.at hil
      have htd : tyD D i = D[i].ty := by simp [tyD, List.getD_eq_getElem?_getD, hil]
      have hty := hD.tys i hil
      rw [htd] at hty
      rw [show D.getD i df0 = D[i] by simp [List.getD_eq_getElem?_getD, hil]] at htc
      have hdr : D.drop i = D[i] :: D.drop (i + 1) := (List.getElem_cons_drop hil).symm
      have hli := hlim _ (List.getElem_mem hil)
      refine W.skip ?_
      refine W.seq ?_
      refine W.block ?_
      refine W.seq ?_
      refine W.region ?_
      refine WL.c rfl (o_mvh h16 ?_)
      refine WL.c rfl (o_ixB TI26 TI40 h14 h16 (by omega) ?_)
      refine WL.c rfl (o_ldA TI40 rfl rfl htc rfl ?_)
      refine WL.c rfl (o_alB TI40 ?_)
      intro w6 hC6 hx6 hs6
      refine WL.c rfl (o_ash (show _ = Value.int _ _ from rfl) ?_)
      refine WL.u (o_stA TI40 rfl (show _ = Value.agg (dcell D[i] (V i)).toArray from rfl) rfl (by simp only [dcell, List.toArray, Array.toList, List.all_cons, List.all_nil, sl_one1 hty]; rfl) hC6 rfl ?_)
      intro w7 hC7 ho7 hs7
      have hxb := Ext.own hx6 (Nat.le_refl _) ho7
      clear hC6 hx6 hs6 ho7 hs7 htc
      replace hx := hx.tr hxb
      replace hD := hD.ext hxb
      replace hty := hty.ext hxb
      obtain ⟨c6, hc6⟩ : ∃ c, c = w.heap.size := ⟨_, rfl⟩
      rw [← hc6] at hC7 ⊢
      refine WL.nil ?_
      refine W.seq ?_
      refine W.seq ?_
      refine W.region ?_
      refine WL.c rfl (o_fa 0 TI40 rfl TI9 rfl rfl ?_)
      refine WL.c rfl (o_ld TI9 rfl rfl (cell_of hC7 rfl) ?_)
      refine WL.c rfl (o_call Try.call25 (lc rfl ln) ((name_spec D[i].name _ hli.1).mono ?_))
      rintro v23 w23 ⟨rfl, rfl⟩
      refine WL.c rfl (o_not' rfl ?_)
      refine WL.nil ?_
      refine W.cond rfl (fun c24 => ?_) (fun c24 => ?_)
      · try simp only [decide_eq_true_eq, decide_eq_false_iff_not, Bool.not_eq_true', Bool.not_eq_false', Bool.and_eq_true, Bool.or_eq_true, Bool.and_eq_false_iff, Bool.or_eq_false_iff] at c24
        have hnm : nameB D[i].name = false := by simpa using c24
        refine W.seq ?_
        refine W.region ?_
        refine WL.c rfl (o_mvh (show _ = Value.int _ _ from rfl) ?_)
        refine WL.c rfl (o_ash (show _ = Value.int _ _ from rfl) ?_)
        refine WL.c rfl (o_ash (show _ = Value.int _ _ from rfl) ?_)
        refine WL.c rfl (o_ash (show _ = Value.int _ _ from rfl) ?_)
        refine WL.nil ?_
        refine W.ret ?_
        refine ret3v rfl (show _ = Value.int _ _ from rfl) (show _ = Value.int _ _ from rfl) (show _ = Value.int _ _ from rfl) ?_
        rw [hres, hdr, chkA_cons, if_pos hnm]
        exact ⟨rfl, hx⟩
      · try simp only [decide_eq_true_eq, decide_eq_false_iff_not, Bool.not_eq_true', Bool.not_eq_false', Bool.and_eq_true, Bool.or_eq_true, Bool.and_eq_false_iff, Bool.or_eq_false_iff] at c24
        have hnm : nameB D[i].name = true := by simpa using c24
        refine W.skip ?_
        refine W.seq ?_
        refine W.region ?_
        refine WL.c rfl (o_fa 2 TI40 rfl TI38 rfl rfl ?_)
        refine WL.c rfl (o_ld TI38 rfl rfl (cell_of hC7 rfl) ?_)
        refine WL.c rfl (o_call Try.call26 (lc rfl ln) ((checked_spec D[i].ty (V i) _ hty hli.2.1 hli.2.2).mono ?_))
        rintro v29 w29 ⟨rfl, hx29⟩
        replace hx := hx.tr hx29
        replace hD := hD.ext hx29
        refine WL.c rfl (o_mvh (by first | exact (show _ = Value.tuple _ from rfl) | exact rfl) ?_)
        refine WL.c rfl (o_ext rfl rfl ?_)
        refine WL.c rfl (o_ext rfl rfl ?_)
        refine WL.c rfl (o_ash (show _ = Value.int _ _ from rfl) ?_)
        refine WL.c rfl (o_ash (show _ = Value.int _ _ from rfl) ?_)
        refine WL.nil ?_
        refine W.seq ?_
        refine W.region ?_
        refine WL.c rfl (o_mvh (show _ = Value.int _ _ from rfl) ?_)
        refine WL.c rfl (o_ne rfl rfl ?_)
        refine WL.nil ?_
        refine W.cond rfl (fun c33 => ?_) (fun c33 => ?_)
        · try simp only [decide_eq_true_eq, decide_eq_false_iff_not, Bool.not_eq_true', Bool.not_eq_false', Bool.and_eq_true, Bool.or_eq_true, Bool.and_eq_false_iff, Bool.or_eq_false_iff] at c33
          have hce : ¬ (chkT D[i].ty).2 = 0 := by have : (chkT D[i].ty).2 = (chkE [⟨0, 1, 0⟩] 0 D[i].ty).2 := rfl; omega
          refine W.seq ?_
          refine W.region ?_
          refine WL.c rfl (o_mvh (show _ = Value.int _ _ from rfl) ?_)
          refine WL.c rfl (o_mvh (show _ = Value.int _ _ from rfl) ?_)
          refine WL.c rfl (o_mvh (show _ = Value.int _ _ from rfl) ?_)
          refine WL.c rfl (o_ash (show _ = Value.int _ _ from rfl) ?_)
          refine WL.c rfl (o_ash (show _ = Value.int _ _ from rfl) ?_)
          refine WL.c rfl (o_ash (show _ = Value.int _ _ from rfl) ?_)
          refine WL.nil ?_
          refine W.ret ?_
          refine ret3v rfl (show _ = Value.int _ _ from rfl) (show _ = Value.int _ _ from rfl) (show _ = Value.int _ _ from rfl) ?_
          rw [hres, hdr, chkA_cons, if_neg (by simp [hnm]), if_neg hce]
          exact ⟨rfl, hx⟩
        · try simp only [decide_eq_true_eq, decide_eq_false_iff_not, Bool.not_eq_true', Bool.not_eq_false', Bool.and_eq_true, Bool.or_eq_true, Bool.and_eq_false_iff, Bool.or_eq_false_iff] at c33
          have hce : (chkT D[i].ty).2 = 0 := by have : (chkT D[i].ty).2 = (chkE [⟨0, 1, 0⟩] 0 D[i].ty).2 := rfl; omega
          refine W.skip ?_
          refine W.region ?_
          refine WL.c rfl (o_addi h16 rfl (by omega) ?_)
          refine WL.c rfl (o_mvh (show _ = Value.int _ _ from rfl) ?_)
          refine WL.nil ?_
          refine ⟨⟨i + 1, by omega, h14, h15, rfl, ?_, hD, hx⟩, ?_⟩
          · rw [hres, hdr, chkA_cons, if_neg (by simp [hnm]), if_pos hce]
          · show D.length - ((i : Int) + 1).toNat < _
            rw [hm16]; simp [intOf]; omega
    · try simp only [decide_eq_true_eq, decide_eq_false_iff_not, Bool.not_eq_true', Bool.not_eq_false', Bool.and_eq_true, Bool.or_eq_true, Bool.and_eq_false_iff, Bool.or_eq_false_iff] at c17
      have hil : i = D.length := by omega
      rw [hil, List.drop_length, chkA_nil] at hres
      refine W.exit ?_
      refine W.seq ?_
      refine W.region ?_
      refine WL.c rfl (o_ash (show _ = Value.int _ _ from rfl) ?_)
      refine WL.c rfl (o_ash (show _ = Value.int _ _ from rfl) ?_)
      refine WL.c rfl (o_ash (show _ = Value.int _ _ from rfl) ?_)
      refine WL.nil ?_
      refine W.ret ?_
      refine ret3v rfl (show _ = Value.int _ _ from rfl) (show _ = Value.int _ _ from rfl) (show _ = Value.int _ _ from rfl) ?_
      rw [hres]
      exact ⟨rfl, hx⟩
end Go.Proofs.Ytcljkkfpcomdcaa

set_option linter.unusedSimpArgs false
set_option linter.unusedVariables false
set_option maxRecDepth 100000
namespace Go.Proofs.Ytcljkkfpcomdcaa
open Go Go.Vc Go.RowKit Go.Proofs

theorem leafE_ok {s : List UInt8} {kn : Int × Int} (h : leafE s = some kn) : kn = (1, 1) ∨ kn = (1, 2) ∨ kn = (1, 4) ∨ kn = (1, 8) ∨ kn = (2, 0) ∨ kn = (3, 0) := by
  unfold leafE at h
  repeat' split at h
  all_goals first | (cases h; simp; done) | cases h
theorem bgn_kind {t : Tk} (hb : bgnT t = true) : t.kind = 1 := by
  unfold bgnT at hb
  rw [Bool.and_eq_true, decide_eq_true_eq] at hb
  exact hb.1
def Rise (lo : Int) : List Ex → Int → Prop
  | [], hi => lo ≤ hi
  | y :: l, hi => lo ≤ y.at_ ∧ Rise (y.at_ + 1) l hi
theorem Rise.app : ∀ {L M : List Ex} {a b c : Int}, Rise a L b → Rise b M c → Rise a (L ++ M) c
  | [], M, a, b, c, h1, h2 => by
    show Rise a M c
    cases M with
    | nil => exact Int.le_trans h1 h2
    | cons y l => exact ⟨Int.le_trans h1 h2.1, h2.2⟩
  | y :: l, M, a, b, c, h1, h2 => ⟨h1.1, h1.2.app h2⟩
theorem Rise.lo {L : List Ex} {a a' b : Int} (h : Rise a L b) (ha : a' ≤ a) : Rise a' L b := by
  cases L with
  | nil => exact Int.le_trans ha h
  | cons y l => exact ⟨Int.le_trans ha h.1, h.2⟩
theorem Rise.hi {L : List Ex} : ∀ {a b b' : Int}, Rise a L b → b ≤ b' → Rise a L b' := by
  induction L with
  | nil => intro a b b' h hb; exact Int.le_trans h hb
  | cons y l ih => intro a b b' h hb; exact ⟨h.1, ih h.2 hb⟩
def NdOk (T : List Tk) (y : Ex) : Prop := 0 ≤ y.at_ ∧ (y.label ≠ [] → (tkA T y.at_.toNat).text = y.label) ∧ (y.label = [] → y.kind = 9 → (tkA T y.at_.toNat).kind = 1 → (tkA T y.at_.toNat).text = y.name)
def RiM (T : List Tk) (r : Option (Bool × Nat)) (i : Nat) (x : Ex) (N : List Ex) (j : Nat) : Prop := i < j ∧ j ≤ T.length ∧ match r with
  | none => ((x.at_ < 0 ∧ x.label = []) ∨ (0 ≤ x.at_ ∧ x.at_ < i ∧ (x.label ≠ [] → (tkA T x.at_.toNat).text = x.label) ∧ (x.label = [] → ¬ (tkA T x.at_.toNat).kind = 1))) → Rise (if x.at_ < 0 then i else x.at_) N j ∧ ∀ y ∈ N, NdOk T y
  | some (u, q) => Rise i N j ∧ ∀ y ∈ N, NdOk T y
theorem atE_at {i : Nat} {x : Ex} : (atE i x).at_ = if x.at_ < 0 then (i : Int) else x.at_ := by unfold atE; split <;> rfl
theorem atE_label {i : Nat} {x : Ex} : (atE i x).label = x.label := by unfold atE; split <;> rfl
theorem nd_at {T : List Tk} {i : Nat} {x y : Ex} (hx : (x.at_ < 0 ∧ x.label = []) ∨ (0 ≤ x.at_ ∧ x.at_ < i ∧ (x.label ≠ [] → (tkA T x.at_.toNat).text = x.label) ∧ (x.label = [] → ¬ (tkA T x.at_.toNat).kind = 1))) (ha : y.at_ = (atE i x).at_) (hl : y.label = x.label) (hk : y.kind = 9 → (tkA T i).text = y.name) :
    (if x.at_ < 0 then (i : Int) else x.at_) = y.at_ ∧ y.at_ ≤ (i : Int) ∧ NdOk T y := by
  rw [atE_at] at ha
  rcases hx with ⟨h1, h2⟩ | ⟨h1, h2, h3, h4⟩
  · rw [if_pos h1] at ha ⊢
    refine ⟨ha.symm, by omega, by omega, fun h => absurd (hl.trans h2) h, fun _ h5 _ => ?_⟩
    rw [ha]; exact hk h5
  · rw [if_neg (by omega)] at ha ⊢
    refine ⟨ha.symm, by omega, by omega, fun h => ?_, fun h5 _ h7 => ?_⟩
    · rw [ha, hl]; exact h3 (by rw [← hl]; exact h)
    · rw [ha] at h7; exact absurd h7 (h4 (by rw [← hl]; exact h5))
theorem nm_ne {s : List UInt8} (h : nameB s = true) : s ≠ [] := fun he => by rw [he] at h; cases h
theorem px_rise {T : List Tk} {r : Option (Bool × Nat)} {deep i : Nat} {x : Ex} {N : List Ex} {n j : Nat} (h : PX T r deep i x N n j) : RiM T r i x N j := by
  have hbT : ∀ {i}, bgnT (tkA T i) = true → i < T.length := fun hb => tkA_kind (by decide) (bgn_kind hb)
  have hd0 : ∀ {u i}, hdOk T u i → i < T.length ∧ ((hdE T u i).at_ = (i : Int) ∧ ((hdE T u i).label ≠ [] → (tkA T i).text = (hdE T u i).label) ∧ ((hdE T u i).label = [] → ¬ (tkA T i).kind = 1)) := by
    intro u i hh
    cases u
    · have hh' : nmT (tkA T i) = true := hh
      simp only [nmT, Bool.and_eq_true, decide_eq_true_eq] at hh'
      exact ⟨tkA_kind (by decide) hh'.1, rfl, fun _ => rfl, fun hl => absurd hl (nm_ne hh'.2)⟩
    · have hh' : (tkA T i).kind = 2 := hh
      exact ⟨tkA_kind (by decide) hh', rfl, fun hl => absurd rfl hl, fun _ => by omega⟩
  induction h with
  | @leaf deep i x kn hb hd hl =>
    refine ⟨by omega, hbT hb, fun hx => ?_⟩
    have hk := leafE_ok hl
    obtain ⟨h1, h2, h3⟩ := nd_at (y := (atE i x).lf kn.1 kn.2) hx rfl atE_label (fun h => by rcases hk with rfl | rfl | rfl | rfl | rfl | rfl <;> cases h)
    refine ⟨⟨by omega, by show _ + 1 ≤ _; omega⟩, fun y hy => ?_⟩
    rw [List.mem_singleton] at hy; rw [hy]; exact h3
  | @nm deep i x hb hd hl hv ho hu hs =>
    refine ⟨by omega, hbT hb, fun hx => ?_⟩
    obtain ⟨h1, h2, h3⟩ := nd_at (y := (atE i x).nm (tkA T i).text) hx rfl atE_label (fun h => rfl)
    refine ⟨⟨by omega, by show _ + 1 ≤ _; omega⟩, fun y hy => ?_⟩
    rw [List.mem_singleton] at hy; rw [hy]; exact h3
  | @vec deep i x N j hb hd hl hv h1 hN h2 h3 h4 ih =>
    obtain ⟨q1, q2, q3⟩ := ih
    refine ⟨by omega, isT_lt (by decide) h4, fun hx => ?_⟩
    obtain ⟨g1, g2, g3⟩ := nd_at (y := (atE i x).vec (decide ((tkA T i).text = [108, 105, 115, 116])) (tkA T (j + 1)).n) hx rfl atE_label (fun h => by simp only [Ex.vec] at h; split at h <;> cases h)
    obtain ⟨r1, r2⟩ := q3 (.inl ⟨by decide, rfl⟩)
    rw [if_pos (by decide)] at r1
    refine ⟨⟨by omega, (r1.lo (by omega)).hi (by omega)⟩, fun y hy => ?_⟩
    rcases List.mem_cons.1 hy with rfl | hy
    · exact g3
    · exact r2 y hy
  | @opt deep i x N j hb hd hl ho h1 hN h2 ih =>
    obtain ⟨q1, q2, q3⟩ := ih
    refine ⟨by omega, isT_lt (by decide) h2, fun hx => ?_⟩
    obtain ⟨g1, g2, g3⟩ := nd_at (y := (atE i x).opt) hx rfl atE_label (fun h => by cases h)
    obtain ⟨r1, r2⟩ := q3 (.inl ⟨by decide, rfl⟩)
    rw [if_pos (by decide)] at r1
    refine ⟨⟨by omega, (r1.lo (by omega)).hi (by omega)⟩, fun y hy => ?_⟩
    rcases List.mem_cons.1 hy with rfl | hy
    · exact g3
    · exact r2 y hy
  | @br deep i x u M n j hb hd hl hw h1 hM ih =>
    obtain ⟨q1, q2, r1, r2⟩ := ih
    refine ⟨by omega, q2, fun hx => ?_⟩
    obtain ⟨g1, g2, g3⟩ := nd_at (y := (atE i x).br u (n : Nat)) hx rfl atE_label (fun h => by cases u <;> cases h)
    refine ⟨⟨by omega, r1.lo (by omega)⟩, fun y hy => ?_⟩
    rcases List.mem_cons.1 hy with rfl | hy
    · exact g3
    · exact r2 y hy
  | @last deep i u k N j hk hh hc hN hm hr ih =>
    obtain ⟨q1, q2, q3⟩ := ih
    obtain ⟨p1, p2, p3, p4⟩ := hd0 hh
    obtain ⟨r1, r2⟩ := q3 (.inr ⟨by omega, by omega, fun h => by rw [p2]; exact p3 h, fun h => by rw [p2]; exact p4 h⟩)
    rw [if_neg (by omega), p2] at r1
    exact ⟨by omega, isT_lt (by decide) hr, r1.hi (by omega), r2⟩
  | @more deep i u k N M j n e hk hh hc hN hm hR ih1 ih2 =>
    obtain ⟨q1, q2, q3⟩ := ih1
    obtain ⟨s1, s2, s3, s4⟩ := ih2
    obtain ⟨p1, p2, p3, p4⟩ := hd0 hh
    obtain ⟨r1, r2⟩ := q3 (.inr ⟨by omega, by omega, fun h => by rw [p2]; exact p3 h, fun h => by rw [p2]; exact p4 h⟩)
    rw [if_neg (by omega), p2] at r1
    refine ⟨by omega, s2, (r1.hi (by omega)).app s3, fun y hy => ?_⟩
    rcases List.mem_append.1 hy with hy | hy
    · exact r2 y hy
    · exact s4 y hy
theorem expr_lt {T : List Tk} {f i : Nat} {x : Ex} {deep : Nat} {N : List Ex} {j : Nat} (h : exprT T f i x deep = .ok N j) : i < j ∧ j ≤ T.length := ⟨(px_rise (expr_px _ _ _ _ _ _ h)).1, (px_rise (expr_px _ _ _ _ _ _ h)).2.1⟩
theorem wantT_le {T : List Tk} {i k j : Nat} {s : List UInt8} {a : Unit} (hk : 1 ≤ k) (h : wantT T i k s = .ok a j) : j = i + 1 ∧ i < T.length := ⟨(wantT_ok h).2, isT_lt hk (wantT_ok h).1⟩
theorem headT_le {T : List Tk} {u full : Bool} {i j : Nat} {y : Ex} (h : headT T u full i { ex0 with at_ := i } = .ok y j) : j = i + 1 ∧ i < T.length := by
  obtain ⟨hh, -, rfl, -⟩ := headT_ok h
  refine ⟨rfl, ?_⟩
  cases u
  · have hh' : nmT (tkA T i) = true := hh
    simp only [nmT, Bool.and_eq_true, decide_eq_true_eq] at hh'
    exact tkA_kind (by decide) hh'.1
  · exact tkA_kind (k := 2) (by decide) hh
end Go.Proofs.Ytcljkkfpcomdcaa

set_option linter.unusedSimpArgs false
set_option linter.unusedVariables false
set_option maxRecDepth 100000
namespace Go.Proofs.Ytcljkkfpcomdcaa
open Go Go.Vc Go.RowKit Go.Proofs

theorem pf1 : parseA [116, 121, 112, 101, 32, 111, 61, 117, 110, 105, 111, 110, 123, 51, 58, 98, 111, 111, 108, 44, 48, 58, 111, 112, 116, 105, 111, 110, 60, 118, 97, 114, 105, 110, 116, 62, 125, 59] = ([⟨[111], 5, [⟨7, 0, [], [], 0, 2, 7⟩, ⟨2, 0, [], [], 3, 0, 13⟩, ⟨6, 0, [], [], 0, 1, 20⟩, ⟨3, 0, [], [], 0, 0, 29⟩]⟩], 0, 0) := by decide +kernel
theorem pf2 : parseA [116, 121, 112, 101, 32, 97, 32, 61, 32, 115, 116, 114, 117, 99, 116, 32, 123, 125, 59] = ([], 60, 17) := by decide +kernel
theorem pf3 : chkS [⟨[117, 56], 0, [⟨2, 0, [], [], 0, 0, 0⟩]⟩] = (0, 0, 62) := by decide +kernel
set_option maxHeartbeats 2000000 in
theorem first_spec (w0 : World) : Ca Try.prog 11 #[] w0 (fun v w' => v = .bool true ∧ Ext w0 w') := by
  have hx : Ext w0 w0 := Only.refl _ _
  refine Ca.of Try.func11 Try.ntmps11 rfl rfl ?_
  refine W.seq ?_
  refine W.region ?_
  refine WL.c rfl (o_ash (show _ = Value.bool _ from rfl) ?_)
  refine WL.nil ?_
  refine W.seq ?_
  refine W.region ?_
  refine WL.c rfl (o_call Try.call19 (lc rfl ln) ((parse_spec [116, 121, 112, 101, 32, 111, 61, 117, 110, 105, 111, 110, 123, 51, 58, 98, 111, 111, 108, 44, 48, 58, 111, 112, 116, 105, 111, 110, 60, 118, 97, 114, 105, 110, 116, 62, 125, 59] _ (by decide)).mono ?_))
  rw [pf1]
  rintro v10 w10 ⟨dv10, V10, rfl, hD10, hxp10⟩
  replace hx := hx.tr hxp10
  refine WL.c rfl (o_mvh (by first | exact (show _ = Value.tuple _ from rfl) | exact rfl) ?_)
  refine WL.c rfl (o_ext rfl rfl ?_)
  refine WL.c rfl (o_ext rfl rfl ?_)
  refine WL.c rfl (o_alB TI28 ?_)
  intro wa hCs hxs hss
  refine WL.c rfl (o_alB TI49 ?_)
  intro wb hCf hxf hsf
  replace hCs := hxf.blk hCs (fun h => h)
  refine WL.u (o_stA TI28 rfl (show _ = Value.agg #[dv10] from rfl) rfl (by simp [own_one hD10.row]) hCs rfl ?_)
  intro wc hB1 hos hsz
  replace hCf := hos.blk hCf (by omega)
  refine WL.u (o_stA TI49 rfl (show _ = Value.agg (faultV _ _) from rfl) rfl rfl hCf rfl ?_)
  intro w2z hB2 hof hsz2
  replace hB1 := hof.blk hB1 (by omega)
  have hxn : Ext w10 w2z := ((hxs.tr hxf).trans' hos (fun _ h => h) (fun k hk he => by omega)).trans' hof (fun _ h => h) (fun k hk he => by omega)
  obtain ⟨b1, hb1⟩ : ∃ b, b = w10.heap.size := ⟨_, rfl⟩
  obtain ⟨b2, hb2⟩ : ∃ b, b = wa.heap.size := ⟨_, rfl⟩
  rw [← hb1] at hB1 ⊢
  rw [← hb2] at hB2 ⊢
  clear hCs hCf hos hof
  replace hx := hx.tr hxn
  replace hD10 := hD10.ext hxn
  clear hxn
  refine WL.nil ?_
  refine W.seq ?_
  refine W.region ?_
  refine WL.c rfl (o_call Try.call19 (lc rfl ln) ((parse_spec [116, 121, 112, 101, 32, 97, 32, 61, 32, 115, 116, 114, 117, 99, 116, 32, 123, 125, 59] _ (by decide)).mono ?_))
  rw [pf2]
  rintro v14 w14 ⟨dv14, V14, rfl, hD14, hxp14⟩
  replace hx := hx.tr hxp14
  replace hB1 := hxp14.blk hB1 (fun h => h)
  replace hB2 := hxp14.blk hB2 (fun h => h)
  replace hD10 := hD10.ext hxp14
  refine WL.c rfl (o_mvh (by first | exact (show _ = Value.tuple _ from rfl) | exact rfl) ?_)
  refine WL.c rfl (o_ext rfl rfl ?_)
  refine WL.c rfl (o_ext rfl rfl ?_)
  refine WL.c rfl (o_alB TI28 ?_)
  intro wa hCs hxs hss
  refine WL.c rfl (o_alB TI49 ?_)
  intro wb hCf hxf hsf
  replace hCs := hxf.blk hCs (fun h => h)
  refine WL.u (o_stA TI28 rfl (show _ = Value.agg #[dv14] from rfl) rfl (by simp [own_one hD14.row]) hCs rfl ?_)
  intro wc hB3 hos hsz
  replace hCf := hos.blk hCf (by omega)
  refine WL.u (o_stA TI49 rfl (show _ = Value.agg (faultV _ _) from rfl) rfl rfl hCf rfl ?_)
  intro w4z hB4 hof hsz2
  replace hB3 := hof.blk hB3 (by omega)
  have hxn : Ext w14 w4z := ((hxs.tr hxf).trans' hos (fun _ h => h) (fun k hk he => by omega)).trans' hof (fun _ h => h) (fun k hk he => by omega)
  obtain ⟨b3, hb3⟩ : ∃ b, b = w14.heap.size := ⟨_, rfl⟩
  obtain ⟨b4, hb4⟩ : ∃ b, b = wa.heap.size := ⟨_, rfl⟩
  rw [← hb3] at hB3 ⊢
  rw [← hb4] at hB4 ⊢
  clear hCs hCf hos hof
  replace hx := hx.tr hxn
  replace hB1 := hxn.blk hB1 (fun h => h)
  replace hB2 := hxn.blk hB2 (fun h => h)
  replace hD10 := hD10.ext hxn
  replace hD14 := hD14.ext hxn
  clear hxn
  obtain ⟨b, o, c, rfl, hcd⟩ := hD10.rd.at (k := 0) (by decide)
  replace hcd : Cells w4z b (o + 0 * 3) [st [111], .int .i64 5, V10 0] := hcd
  have hT : Sl w4z 7 (V10 0) 4 (exs [⟨7, 0, [], [], 0, 2, 7⟩, ⟨2, 0, [], [], 3, 0, 13⟩, ⟨6, 0, [], [], 0, 1, 20⟩, ⟨3, 0, [], [], 0, 0, 29⟩]) := hD10.rd.tys 0 (by decide)
  generalize V10 0 = V0 at hcd hT
  obtain ⟨b2_, o2, c2, rfl, -⟩ := Sl.exq (ts := [⟨7, 0, [], [], 0, 2, 7⟩, ⟨2, 0, [], [], 3, 0, 13⟩, ⟨6, 0, [], [], 0, 1, 20⟩, ⟨3, 0, [], [], 0, 0, 29⟩]) hT (k := 0) (by decide)
  refine WL.nil ?_
  refine W.seq ?_
  refine W.seq ?_
  refine W.region ?_
  refine WL.c rfl (o_ldA TI49 rfl rfl (cells_all hB2) rfl ?_)
  refine WL.c rfl (o_bldC (cs := [(.int .i64 0), (.int .i64 0)]) TI49 (Sizes.cons TI32 (Sizes.cons TI3 Sizes.nil)) rfl lnp rfl rfl ?_)
  refine WL.c rfl (o_neR TI49 (by kernel_rfl) (by kernel_rfl) rfl rfl (.int TI32 (by decide) rfl rfl (.int TI3 (by decide) rfl rfl .nil)) ?_)
  refine WL.c rfl (o_mvh (show _ = Value.bool _ from rfl) ?_)
  refine WL.g rfl (by decide +kernel) rfl (o_ldA TI49 rfl rfl (cells_all hB4) rfl ?_)
  refine WL.g rfl (by decide +kernel) rfl (o_bldC (cs := [(.int .i64 60), (.int .i64 17)]) TI49 (Sizes.cons TI32 (Sizes.cons TI3 Sizes.nil)) rfl (lcp (show _ = Value.int _ _ from rfl) (lcp (show _ = Value.int _ _ from rfl) lnp)) rfl rfl ?_)
  refine WL.g rfl (by decide +kernel) rfl (o_neR TI49 (by kernel_rfl) (by kernel_rfl) rfl rfl (.int TI32 (by decide) rfl rfl (.int TI3 (by decide) rfl rfl .nil)) ?_)
  refine WL.c rfl (o_pickO rfl rfl ?_)
  refine WL.c rfl (o_mvh (show _ = Value.bool _ from rfl) ?_)
  refine WL.g rfl (by decide +kernel) rfl (o_fa 0 TI28 rfl TI26 rfl rfl ?_)
  refine WL.g rfl (by decide +kernel) rfl (o_ld TI26 rfl rfl (cell_of hB1 rfl) ?_)
  refine WL.g rfl (by decide +kernel) rfl (o_len TI26 rfl ?_)
  refine WL.g rfl (by decide +kernel) rfl (o_ne rfl rfl ?_)
  refine WL.c rfl (o_pickO rfl rfl ?_)
  refine WL.c rfl (o_mvh (show _ = Value.bool _ from rfl) ?_)
  refine WL.g rfl (by decide) rfl (o_fa 0 TI28 rfl TI26 rfl rfl ?_)
  refine WL.g rfl (by decide) rfl (o_ld TI26 rfl rfl (cell_of hB1 rfl) ?_)
  refine WL.g rfl (by decide) rfl (o_ixB (i := 0) TI26 TI40 rfl rfl (by decide) ?_)
  refine WL.g rfl (by decide) rfl (o_fa 0 TI40 rfl TI9 rfl rfl ?_)
  refine WL.g rfl (by decide) rfl (o_ld TI9 rfl rfl (hcd 0 _ rfl) ?_)
  refine WL.g rfl (by decide) rfl (o_neT rfl rfl ?_)
  refine WL.c rfl (o_pickO rfl rfl ?_)
  refine WL.c rfl (o_mvh (show _ = Value.bool _ from rfl) ?_)
  refine WL.g rfl (by decide) rfl (o_fa 0 TI28 rfl TI26 rfl rfl ?_)
  refine WL.g rfl (by decide) rfl (o_ld TI26 rfl rfl (cell_of hB1 rfl) ?_)
  refine WL.g rfl (by decide) rfl (o_ixB (i := 0) TI26 TI40 rfl rfl (by decide) ?_)
  refine WL.g rfl (by decide) rfl (o_fa 1 TI40 rfl TI3 rfl rfl ?_)
  refine WL.g rfl (by decide) rfl (o_ld TI3 rfl rfl (hcd 1 _ rfl) ?_)
  refine WL.g rfl (by decide) rfl (o_ne rfl rfl ?_)
  refine WL.c rfl (o_pickO rfl rfl ?_)
  refine WL.c rfl (o_mvh (show _ = Value.bool _ from rfl) ?_)
  refine WL.g rfl (by decide) rfl (o_fa 0 TI28 rfl TI26 rfl rfl ?_)
  refine WL.g rfl (by decide) rfl (o_ld TI26 rfl rfl (cell_of hB1 rfl) ?_)
  refine WL.g rfl (by decide) rfl (o_ixB (i := 0) TI26 TI40 rfl rfl (by decide) ?_)
  refine WL.g rfl (by decide) rfl (o_fa 2 TI40 rfl TI38 rfl rfl ?_)
  refine WL.g rfl (by decide) rfl (o_ld TI38 rfl rfl (hcd 2 _ rfl) ?_)
  refine WL.g rfl (by decide) rfl (o_len TI38 rfl ?_)
  refine WL.g rfl (by decide) rfl (o_ne rfl rfl ?_)
  refine WL.c rfl (o_pickO rfl rfl ?_)
  refine WL.nil ?_
  refine W.condF' rfl (by decide) ?_
  refine W.skip ?_
  refine W.seq ?_
  refine W.region ?_
  refine WL.c rfl (o_fa 0 TI28 rfl TI26 rfl rfl ?_)
  refine WL.c rfl (o_ld TI26 rfl rfl (cell_of hB1 rfl) ?_)
  refine WL.c rfl (o_ixB (i := 0) TI26 TI40 rfl rfl (by decide) ?_)
  refine WL.c rfl (o_fa 2 TI40 rfl TI38 rfl rfl ?_)
  refine WL.c rfl (o_ld TI38 rfl rfl (hcd 2 _ rfl) ?_)
  refine WL.c rfl (o_ash (by first | exact (show _ = Value.slice _ _ _ from rfl) | exact rfl) ?_)
  refine WL.nil ?_
  refine W.seq ?_
  refine W.seq ?_
  refine W.region ?_
  refine WL.c rfl (o_mvh (by first | exact (show _ = Value.slice _ _ _ from rfl) | exact rfl) ?_)
  refine WL.c rfl (o_ixB (i := 0) TI38 TI30 rfl rfl (by decide) ?_)
  refine WL.c rfl (o_ldA TI30 rfl rfl (by obtain ⟨_, _, _, hv, hc⟩ := Sl.exq (ts := [⟨7, 0, [], [], 0, 2, 7⟩, ⟨2, 0, [], [], 3, 0, 13⟩, ⟨6, 0, [], [], 0, 1, 20⟩, ⟨3, 0, [], [], 0, 0, 29⟩]) hT (k := 0) (by decide); cases hv; exact hc) rfl ?_)
  refine WL.c rfl (o_bldC (cs := [(.int .i64 7), (.int .i64 0), (.string ⟨#[]⟩), (.string ⟨#[]⟩), (.int .i64 0), (.int .i64 2), (.int .i64 7)]) TI30 (Sizes.cons TI3 (Sizes.cons TI3 (Sizes.cons TI9 (Sizes.cons TI9 (Sizes.cons TI3 (Sizes.cons TI3 (Sizes.cons TI3 Sizes.nil))))))) rfl (lcp (show _ = Value.int _ _ from rfl) (lcp (show _ = Value.int _ _ from rfl) (lcp (show _ = Value.int _ _ from rfl) lnp))) rfl rfl ?_)
  refine WL.c rfl (o_neR TI30 (by kernel_rfl) (by kernel_rfl) rfl rfl (.int TI3 (by decide) rfl rfl (.int TI3 (by decide) rfl rfl (.str TI9 (by decide) rfl rfl (.str TI9 (by decide) rfl rfl (.int TI3 (by decide) rfl rfl (.int TI3 (by decide) rfl rfl (.int TI3 (by decide) rfl rfl .nil))))))) ?_)
  refine WL.c rfl (o_mvh (show _ = Value.bool _ from rfl) ?_)
  refine WL.g rfl (by decide) rfl (o_mvh (by first | exact (show _ = Value.slice _ _ _ from rfl) | exact rfl) ?_)
  refine WL.g rfl (by decide) rfl (o_ixB (i := 1) TI38 TI30 rfl rfl (by decide) ?_)
  refine WL.g rfl (by decide) rfl (o_ldA TI30 rfl rfl (by obtain ⟨_, _, _, hv, hc⟩ := Sl.exq (ts := [⟨7, 0, [], [], 0, 2, 7⟩, ⟨2, 0, [], [], 3, 0, 13⟩, ⟨6, 0, [], [], 0, 1, 20⟩, ⟨3, 0, [], [], 0, 0, 29⟩]) hT (k := 1) (by decide); cases hv; exact hc) rfl ?_)
  refine WL.g rfl (by decide) rfl (o_bldC (cs := [(.int .i64 2), (.int .i64 0), (.string ⟨#[]⟩), (.string ⟨#[]⟩), (.int .i64 3), (.int .i64 0), (.int .i64 13)]) TI30 (Sizes.cons TI3 (Sizes.cons TI3 (Sizes.cons TI9 (Sizes.cons TI9 (Sizes.cons TI3 (Sizes.cons TI3 (Sizes.cons TI3 Sizes.nil))))))) rfl (lcp (show _ = Value.int _ _ from rfl) (lcp (show _ = Value.int _ _ from rfl) (lcp (show _ = Value.int _ _ from rfl) lnp))) rfl rfl ?_)
  refine WL.g rfl (by decide) rfl (o_neR TI30 (by kernel_rfl) (by kernel_rfl) rfl rfl (.int TI3 (by decide) rfl rfl (.int TI3 (by decide) rfl rfl (.str TI9 (by decide) rfl rfl (.str TI9 (by decide) rfl rfl (.int TI3 (by decide) rfl rfl (.int TI3 (by decide) rfl rfl (.int TI3 (by decide) rfl rfl .nil))))))) ?_)
  refine WL.c rfl (o_pickO rfl rfl ?_)
  refine WL.c rfl (o_mvh (show _ = Value.bool _ from rfl) ?_)
  refine WL.g rfl (by decide) rfl (o_mvh (by first | exact (show _ = Value.slice _ _ _ from rfl) | exact rfl) ?_)
  refine WL.g rfl (by decide) rfl (o_ixB (i := 2) TI38 TI30 rfl rfl (by decide) ?_)
  refine WL.g rfl (by decide) rfl (o_ldA TI30 rfl rfl (by obtain ⟨_, _, _, hv, hc⟩ := Sl.exq (ts := [⟨7, 0, [], [], 0, 2, 7⟩, ⟨2, 0, [], [], 3, 0, 13⟩, ⟨6, 0, [], [], 0, 1, 20⟩, ⟨3, 0, [], [], 0, 0, 29⟩]) hT (k := 2) (by decide); cases hv; exact hc) rfl ?_)
  refine WL.g rfl (by decide) rfl (o_bldC (cs := [(.int .i64 6), (.int .i64 0), (.string ⟨#[]⟩), (.string ⟨#[]⟩), (.int .i64 0), (.int .i64 1), (.int .i64 20)]) TI30 (Sizes.cons TI3 (Sizes.cons TI3 (Sizes.cons TI9 (Sizes.cons TI9 (Sizes.cons TI3 (Sizes.cons TI3 (Sizes.cons TI3 Sizes.nil))))))) rfl (lcp (show _ = Value.int _ _ from rfl) (lcp (show _ = Value.int _ _ from rfl) (lcp (show _ = Value.int _ _ from rfl) lnp))) rfl rfl ?_)
  refine WL.g rfl (by decide) rfl (o_neR TI30 (by kernel_rfl) (by kernel_rfl) rfl rfl (.int TI3 (by decide) rfl rfl (.int TI3 (by decide) rfl rfl (.str TI9 (by decide) rfl rfl (.str TI9 (by decide) rfl rfl (.int TI3 (by decide) rfl rfl (.int TI3 (by decide) rfl rfl (.int TI3 (by decide) rfl rfl .nil))))))) ?_)
  refine WL.c rfl (o_pickO rfl rfl ?_)
  refine WL.c rfl (o_mvh (show _ = Value.bool _ from rfl) ?_)
  refine WL.g rfl (by decide) rfl (o_mvh (by first | exact (show _ = Value.slice _ _ _ from rfl) | exact rfl) ?_)
  refine WL.g rfl (by decide) rfl (o_ixB (i := 3) TI38 TI30 rfl rfl (by decide) ?_)
  refine WL.g rfl (by decide) rfl (o_ldA TI30 rfl rfl (by obtain ⟨_, _, _, hv, hc⟩ := Sl.exq (ts := [⟨7, 0, [], [], 0, 2, 7⟩, ⟨2, 0, [], [], 3, 0, 13⟩, ⟨6, 0, [], [], 0, 1, 20⟩, ⟨3, 0, [], [], 0, 0, 29⟩]) hT (k := 3) (by decide); cases hv; exact hc) rfl ?_)
  refine WL.g rfl (by decide) rfl (o_bldC (cs := [(.int .i64 3), (.int .i64 0), (.string ⟨#[]⟩), (.string ⟨#[]⟩), (.int .i64 0), (.int .i64 0), (.int .i64 29)]) TI30 (Sizes.cons TI3 (Sizes.cons TI3 (Sizes.cons TI9 (Sizes.cons TI9 (Sizes.cons TI3 (Sizes.cons TI3 (Sizes.cons TI3 Sizes.nil))))))) rfl (lcp (show _ = Value.int _ _ from rfl) (lcp (show _ = Value.int _ _ from rfl) lnp)) rfl rfl ?_)
  refine WL.g rfl (by decide) rfl (o_neR TI30 (by kernel_rfl) (by kernel_rfl) rfl rfl (.int TI3 (by decide) rfl rfl (.int TI3 (by decide) rfl rfl (.str TI9 (by decide) rfl rfl (.str TI9 (by decide) rfl rfl (.int TI3 (by decide) rfl rfl (.int TI3 (by decide) rfl rfl (.int TI3 (by decide) rfl rfl .nil))))))) ?_)
  refine WL.c rfl (o_pickO rfl rfl ?_)
  refine WL.nil ?_
  refine W.condF' rfl (by decide) ?_
  refine W.skip ?_
  refine W.seq ?_
  refine W.region ?_
  refine WL.c rfl (o_bldC (cs := [(.int .i64 2), (.int .i64 0), (.string ⟨#[]⟩), (.string ⟨#[]⟩), (.int .i64 0), (.int .i64 0), (.int .i64 0)]) TI30 (Sizes.cons TI3 (Sizes.cons TI3 (Sizes.cons TI9 (Sizes.cons TI9 (Sizes.cons TI3 (Sizes.cons TI3 (Sizes.cons TI3 Sizes.nil))))))) rfl (lcp (show _ = Value.int _ _ from rfl) lnp) rfl rfl ?_)
  refine WL.c rfl (o_bs1 TI38 TI30 (show _ = Value.agg #[.int .i64 2, .int .i64 0, .string ⟨#[]⟩, .string ⟨#[]⟩, .int .i64 0, .int .i64 0, .int .i64 0] from rfl) (by decide) (by decide) rfl ?_)
  have hT9 : Sl (w4z.alloc (.cells (Value.agg #[.int .i64 2, .int .i64 0, .string ⟨#[]⟩, .string ⟨#[]⟩, .int .i64 0, .int .i64 0, .int .i64 0]).cells 30)) 7 (.slice (some ⟨w4z.heap.size, 0, none⟩) 1 1) 1 (exs [⟨2, 0, [], [], 0, 0, 0⟩]) := Sl.one rfl
  have hx9 : Ext w4z (w4z.alloc (.cells (Value.agg #[.int .i64 2, .int .i64 0, .string ⟨#[]⟩, .string ⟨#[]⟩, .int .i64 0, .int .i64 0, .int .i64 0]).cells 30)) := Only.alloc w4z _
  obtain ⟨g9, hg9⟩ : ∃ g, g = w4z.heap.size := ⟨_, rfl⟩
  rw [← hg9] at hT9 ⊢
  generalize w4z.alloc (.cells (Value.agg #[.int .i64 2, .int .i64 0, .string ⟨#[]⟩, .string ⟨#[]⟩, .int .i64 0, .int .i64 0, .int .i64 0]).cells 30) = w9 at *
  replace hx := hx.tr hx9
  refine WL.c rfl (o_bldC (cs := [(st [117, 56]), (.int .i64 0), _]) TI40 (Sizes.cons TI9 (Sizes.cons TI3 (Sizes.cons TI38 Sizes.nil))) rfl (lcp (show _ = Value.string _ from rfl) (lcp (show _ = Value.slice (some ⟨g9, 0, none⟩) 1 1 from rfl) lnp)) rfl rfl ?_)
  refine WL.c rfl (o_bs1 TI26 TI40 (show _ = Value.agg #[st [117, 56], .int .i64 0, .slice (some ⟨g9, 0, none⟩) 1 1] from rfl) (by decide) (by decide) rfl ?_)
  have hR9 : Sl (w9.alloc (.cells (Value.agg #[st [117, 56], .int .i64 0, .slice (some ⟨g9, 0, none⟩) 1 1]).cells 40)) 3 (.slice (some ⟨w9.heap.size, 0, none⟩) 1 1) 1 (drows [⟨[117, 56], 0, [⟨2, 0, [], [], 0, 0, 0⟩]⟩] (fun _ => .slice (some ⟨g9, 0, none⟩) 1 1)) := Sl.one rfl
  have hx8 : Ext w9 (w9.alloc (.cells (Value.agg #[st [117, 56], .int .i64 0, .slice (some ⟨g9, 0, none⟩) 1 1]).cells 40)) := Only.alloc w9 _
  obtain ⟨g8, hg8⟩ : ∃ g, g = w9.heap.size := ⟨_, rfl⟩
  rw [← hg8] at hR9 ⊢
  generalize w9.alloc (.cells (Value.agg #[st [117, 56], .int .i64 0, .slice (some ⟨g9, 0, none⟩) 1 1]).cells 40) = w8 at *
  replace hx := hx.tr hx8
  replace hT9 := hT9.ext hx8
  refine WL.c rfl (o_bldC (cs := [_]) TI28 (Sizes.cons TI26 Sizes.nil) rfl (lcp (show _ = Value.slice (some ⟨g8, 0, none⟩) 1 1 from rfl) lnp) rfl rfl ?_)
  refine WL.c rfl (o_call Try.call14 (lc rfl ln) ((check_spec [⟨[117, 56], 0, [⟨2, 0, [], [], 0, 0, 0⟩]⟩] _ (fun _ => .slice (some ⟨g9, 0, none⟩) 1 1) _ ⟨hR9, fun j hj => by obtain rfl : j = 0 := (by simpa using hj); exact hT9⟩ (by intro d hd; rw [List.mem_singleton] at hd; subst hd; exact ⟨by decide, by decide, fun x hx => by rw [List.mem_singleton] at hx; subst hx; exact ⟨by decide, by decide⟩⟩)).mono ?_))
  rw [pf3]
  rintro v93 w93 ⟨rfl, hx93⟩
  replace hx := hx.tr hx93
  refine WL.c rfl (o_mvh (by first | exact (show _ = Value.tuple _ from rfl) | exact rfl) ?_)
  refine WL.c rfl (o_ext rfl rfl ?_)
  refine WL.c rfl (o_ext rfl rfl ?_)
  refine WL.c rfl (o_ext rfl rfl ?_)
  refine WL.c rfl (o_ash (show _ = Value.int _ _ from rfl) ?_)
  refine WL.c rfl (o_ash (show _ = Value.int _ _ from rfl) ?_)
  refine WL.c rfl (o_ash (show _ = Value.int _ _ from rfl) ?_)
  refine WL.nil ?_
  refine W.seq ?_
  refine W.region ?_
  refine WL.c rfl (o_mvh (show _ = Value.int _ _ from rfl) ?_)
  refine WL.c rfl (o_eq rfl rfl ?_)
  refine WL.c rfl (o_mvh (show _ = Value.bool _ from rfl) ?_)
  refine WL.g rfl (rfl) rfl (o_mvh (show _ = Value.int _ _ from rfl) ?_)
  refine WL.g rfl (rfl) rfl (o_eq rfl rfl ?_)
  refine WL.c rfl (o_pickA rfl rfl ?_)
  refine WL.c rfl (o_mvh (show _ = Value.bool _ from rfl) ?_)
  refine WL.g rfl (rfl) rfl (o_mvh (show _ = Value.int _ _ from rfl) ?_)
  refine WL.g rfl (rfl) rfl (o_eq rfl rfl ?_)
  refine WL.c rfl (o_pickA rfl rfl ?_)
  refine WL.c rfl (o_ash (show _ = Value.bool _ from rfl) ?_)
  refine WL.nil ?_
  refine W.ret ?_
  refine ret1v rfl (show _ = Value.bool _ from rfl) ?_
  exact ⟨rfl, hx⟩
end Go.Proofs.Ytcljkkfpcomdcaa

set_option linter.unusedSimpArgs false
set_option linter.unusedVariables false
set_option maxRecDepth 100000
namespace Go.Proofs.Ytcljkkfpcomdcaa
open Go Go.Vc Go.RowKit Go.Proofs

theorem tyD_at {D : List Df} {k : Nat} (hk : k < D.length) : tyD D k = D[k].ty := by simp [tyD, List.getD_eq_getElem?_getD, hk]
theorem getD_at {D : List Df} {k : Nat} (hk : k < D.length) : D.getD k df0 = D[k] := by simp [List.getD_eq_getElem?_getD, hk]
end Go.Proofs.Ytcljkkfpcomdcaa

set_option linter.unusedSimpArgs false
set_option linter.unusedVariables false
set_option maxRecDepth 100000
namespace Go.Proofs.Ytcljkkfpcomdcaa
open Go Go.Vc Go.RowKit Go.Proofs

/-- one element less -/
def shr : Value → Value
  | .slice a n c => .slice a (n - 1) c
  | v => v
theorem shr_blk (v : Value) : (shr v).ownBlock = v.ownBlock := by
  cases v with
  | slice a n c => cases a <;> rfl
  | _ => rfl
theorem own_shr {w : World} {base : Nat} {el : TypeId} {s n : Nat} {v : Value} {xs ys : List Value} (h : w.ownsRow base el s v (n + 1) (xs ++ ys)) (hl : xs.length = n * s) : w.ownsRow base el s (shr v) n xs := by
  obtain ⟨g, cap, rfl, hb⟩ := own_some h (by omega)
  have := own_take h (m := n) (by omega)
  rw [List.take_left' hl] at this
  exact this
def exK : Ex := ⟨-77, 0, [], [], 0, 0, 0⟩
def markD : List Value := [st [109, 97, 114, 107], .int .i64 (-78), .slice none 0 0]
theorem drows_len (D : List Df) (V : Nat → Value) : (drows D V).length = D.length * 3 := by
  rw [drows]
  have : ∀ l : List Nat, (l.flatMap fun j => dcell (D.getD j df0) (V j)).length = l.length * 3 := by
    intro l
    induction l with
    | nil => rfl
    | cons a l ih => rw [List.flatMap_cons, List.length_append, ih, dcell_len, List.length_cons]; omega
  rw [this, List.length_range]
/-- sizes that a machine can hold -/
structure DOk (D : List Df) : Prop where
  len : D.length * 48 ≤ 140737488351232
  ty : ∀ d ∈ D, d.ty.length * 72 ≤ 140737488351232
  nm : ∀ d ∈ D, d.name.length ≤ 9223372036854775807
  ex : ∀ d ∈ D, ∀ x ∈ d.ty, x.name.length ≤ 9223372036854775807 ∧ x.label.length ≤ 9223372036854775807
abbrev lenM (D : List Df) (j : Nat) : Nat := (tyD D j).length + 1
abbrev rowM (D : List Df) (j : Nat) : List Value := exs (tyD D j) ++ exV exK
/-- definitions in rows of our own, a mark behind each -/
structure Lent (w : World) (H : Nat) (D : List Df) (gv : Value) (W : Nat → Value) : Prop where
  row : w.ownsRow H 40 3 gv (D.length + 1) (drows D (fun j => shr (W j)) ++ markD)
  tys : Many w H 30 7 D.length W (lenM D) (rowM D)
theorem Lent.defs {w : World} {H : Nat} {D : List Df} {gv : Value} {W : Nat → Value} (h : Lent w H D gv W) : Defs w H D (shr gv) (fun j => shr (W j)) :=
  ⟨own_shr h.row (drows_len _ _), ⟨fun j hj => own_shr (h.tys.row j hj) (exs_len _), fun i j hi hj hij k hk => by rw [shr_blk] at hk ⊢; exact h.tys.off i j hi hj hij k hk⟩⟩
theorem Lent.only {w w' : World} {H : Nat} {D : List Df} {gv : Value} {W : Nat → Value} {F : Nat → Prop} (h : Lent w H D gv W) (ho : Only F w w') (hn : ∀ k, DF gv W D.length k → ¬ F k) : Lent w' H D gv W :=
  ⟨own_only h.row ho (fun k hk => hn k (.inl hk)), h.tys.only ho (fun j hj k hk => hn k (.inr ⟨j, hj, hk⟩))⟩
theorem Lent.ext {w w' : World} {H : Nat} {D : List Df} {gv : Value} {W : Nat → Value} (h : Lent w H D gv W) (ho : Ext w w') : Lent w' H D gv W := h.only ho (fun _ _ h => h)
theorem Lent.lt {w : World} {H : Nat} {D : List Df} {gv : Value} {W : Nat → Value} (h : Lent w H D gv W) : ∀ k, DF gv W D.length k → H ≤ k ∧ k < w.heap.size := fun k hk => by
  rcases hk with hk | ⟨j, hj, hk⟩
  · exact h.row.lt k hk
  · exact h.tys.lt hj hk
end Go.Proofs.Ytcljkkfpcomdcaa

set_option linter.unusedSimpArgs false
set_option linter.unusedVariables false
namespace Go.Vc
open Go Go.RowKit Go.ChangeShapes Go.WideShapes

/-- its weights are within reach -/
def Small {H : Type} (P : Program) (t : TypeId) (d : DataW H) : Prop := ∀ n ∈ d.weights P t, n ≤ reachBytes
theorem Small.size {H : Type} {P : Program} {t e : TypeId} {elems spare : List (DataW H)} (h : Small P t (.slice elems spare)) (hu : P.underlying t = some (.slice e)) : (elems.length + spare.length) * P.bytesOf e ≤ reachBytes :=
  h _ (by simp only [DataW.weights, hu]; exact List.mem_cons_self ..)
theorem Small.part {H : Type} {P : Program} {t u : TypeId} {fs : Array Field} {parts : List (DataW H)} {i : Nat} {d : DataW H} (h : Small P t (.agg parts)) (hu : P.underlying t = some (.struct fs)) (hf : (fs.toList.map (·.type))[i]? = some u) (hd : parts[i]? = some d) : Small P u d := fun n hn =>
  h n (by simp only [DataW.weights, hu]; exact DataW.weights_mem_each hf hd n hn)
section
variable {H : Type} {enc : TypeId × Value → H} {P : Program} {W : World} {held : Bool}
end
end Go.Vc

set_option linter.unusedSimpArgs false
set_option linter.unusedVariables false
set_option maxRecDepth 100000
namespace Go.Proofs.Ytcljkkfpcomdcaa
open Go Go.Vc Go.RowKit Go.Proofs

def ExOk (x : Ex) : Prop := x.name.length ≤ 9223372036854775807 ∧ x.label.length ≤ 9223372036854775807
section
variable {H : Type} {enc : TypeId × Value → H} {W : World} {held : Bool}
end
def setE (D : List Df) (d n : Nat) (x : Ex) : List Df := D.set d { D.getD d df0 with ty := (tyD D d).set n x }
theorem setE_len (D : List Df) (d n : Nat) (x : Ex) : (setE D d n x).length = D.length := by rw [setE, List.length_set]
theorem setE_at {D : List Df} {d n : Nat} {x : Ex} (j : Nat) : (setE D d n x).getD j df0 = if j = d ∧ d < D.length then { D.getD d df0 with ty := (tyD D d).set n x } else D.getD j df0 := by
  rw [setE, List.getD_eq_getElem?_getD, List.getElem?_set]
  by_cases h : d = j
  · subst h
    by_cases h2 : d < D.length
    · simp [h2]
    · simp [h2, List.getD_eq_getElem?_getD]
  · rw [if_neg h, if_neg (fun hh => h hh.1.symm), List.getD_eq_getElem?_getD]
theorem Defs.setE {w w' : World} {H : Nat} {D : List Df} {lv : Value} {V : Nat → Value} (h : Defs w H D lv V) {d n : Nat} {x : Ex} (hd : d < D.length) (ho : Only (fun k => (V d).ownBlock = some k) w w')
    (hr : w'.ownsRow H 30 7 (V d) (tyD D d).length (exs ((tyD D d).set n x))) : Defs w' H (setE D d n x) lv V := by
  have hrows : drows (Go.Proofs.Ytcljkkfpcomdcaa.setE D d n x) V = drows D V := by
    rw [drows, drows, setE_len]
    refine dfm_congr fun j hj => ?_
    rw [setE_at]
    split
    · rename_i hh; rw [hh.1]; rfl
    · rfl
  refine ⟨by rw [hrows, setE_len]; exact own_only h.row ho (fun k hk hF => own_row_off h.row (h.tys.row d hd) (by decide) k hF hk), ?_⟩
  rw [setE_len]
  refine (h.tys.set hd ho hr).congr (fun _ _ => rfl) (fun j hj => ?_) (fun j hj => ?_)
  · rw [tyD, setE_at]
    by_cases e : j = d
    · rw [if_pos ⟨e, hd⟩, if_pos e, List.length_set]
    · rw [if_neg (fun hh => e hh.1), if_neg e]; rfl
  · rw [tyD, setE_at]
    by_cases e : j = d
    · rw [if_pos ⟨e, hd⟩, if_pos e]
    · rw [if_neg (fun hh => e hh.1), if_neg e]; rfl
theorem DOk.setE {D : List Df} {d n : Nat} {x : Ex} (h : DOk D) (hx : ExOk x) : DOk (setE D d n x) := by
  have hm : ∀ e ∈ Go.Proofs.Ytcljkkfpcomdcaa.setE D d n x, e ∈ D ∨ (d < D.length ∧ e = { D.getD d df0 with ty := (tyD D d).set n x }) := by
    intro e he
    by_cases hd : d < D.length
    · rcases List.mem_or_eq_of_mem_set he with h1 | h1
      · exact .inl h1
      · exact .inr ⟨hd, h1⟩
    · rw [Go.Proofs.Ytcljkkfpcomdcaa.setE, List.set_eq_of_length_le (by omega)] at he
      exact .inl he
  have hmem : d < D.length → D.getD d df0 ∈ D := fun hd => by rw [getD_at hd]; exact List.getElem_mem hd
  refine ⟨by rw [setE_len]; exact h.len, fun e he => ?_, fun e he => ?_, fun e he y hy => ?_⟩
  · rcases hm e he with h1 | ⟨hd, rfl⟩
    · exact h.ty e h1
    · show ((tyD D d).set n x).length * 72 ≤ _
      rw [List.length_set]; exact h.ty _ (hmem hd)
  · rcases hm e he with h1 | ⟨hd, rfl⟩
    · exact h.nm e h1
    · exact h.nm (D.getD d df0) (hmem hd)
  · rcases hm e he with h1 | ⟨hd, rfl⟩
    · exact h.ex e h1 y hy
    · rcases List.mem_or_eq_of_mem_set hy with h2 | rfl
      · exact h.ex (D.getD d df0) (hmem hd) y h2
      · exact hx

end Go.Proofs.Ytcljkkfpcomdcaa

set_option linter.unusedSimpArgs false
set_option linter.unusedVariables false
set_option maxRecDepth 100000
namespace Go.Proofs.Ytcljkkfpcomdcaa
open Go Go.Vc Go.RowKit Go.Proofs

/-- definitions whose places rise -/
def RiD (T : List Tk) : Int → List Df → Prop
  | _, [] => True
  | lo, d :: ds => lo ≤ d.at_ ∧ 0 ≤ d.at_ ∧ d.at_ < T.length ∧ (tkA T d.at_.toNat).kind = 1 ∧ (tkA T d.at_.toNat).text = d.name ∧ (∃ hi : Int, hi ≤ T.length ∧ Rise (d.at_ + 1) d.ty hi ∧ RiD T hi ds) ∧ ∀ y ∈ d.ty, NdOk T y
theorem RiD.lo {T : List Tk} {a b : Int} {D : List Df} (h : RiD T b D) (hab : a ≤ b) : RiD T a D := by
  cases D with
  | nil => trivial
  | cons d ds => exact ⟨Int.le_trans hab h.1, h.2⟩
/-- lengths -/
theorem Rise.len {L : List Ex} : ∀ {a b : Int}, Rise a L b → (L.length : Int) ≤ b - a := by
  induction L with
  | nil => intro a b h; have : a ≤ b := h; simp; omega
  | cons y l ih => intro a b h; have h1 := ih h.2; have h2 := h.1; rw [List.length_cons]; omega
end Go.Proofs.Ytcljkkfpcomdcaa
