/-
  Walks. Written by program out of specs of mine.
-/
import Derived.Test.YtcljkkfpcomdcaaH
set_option linter.unusedSimpArgs false
set_option linter.unusedVariables false
set_option maxRecDepth 100000
namespace Go.Proofs.Ytcljkkfpcomdcaa
open Go Go.Vc Go.RowKit Go.Proofs

theorem Many.sn {w : World} {B : Nat} {D : List Df} {V : Nat → Value} (h : Many w B 30 7 D.length V (fun j => (tyD D j).length) (fun j => exs (tyD D j))) {F : Nat → Prop} {w' : World} (ho : Only F w w') (hn : ∀ k, F k → k < B) : Many w' B 30 7 D.length V (fun j => (tyD D j).length) (fun j => exs (tyD D j)) :=
  h.only ho (fun j hj k hk hF => by have := (h.lt hj hk).1; have := hn k hF; omega)
theorem defsT_s {T : List Tk} {g i k : Nat} : defsT T (g + 1) i k = (if T.length ≤ i then .ok [] i
    else if k = 256 ∧ isT (tkA T i) 1 [116, 121, 112, 101] = true then .bad 5 i
    else (wantT T i 1 [116, 121, 112, 101]).bind fun _ i => (nameT T i).bind fun s j => (wantT T j 3 [61]).bind fun _ j => (exprT T (T.length + 2) j exM 0).bind fun N j => (wantT T j 3 [59]).bind fun _ j =>
      (defsT T g j (k + 1)).bind fun D j => .ok (⟨s, i, N⟩ :: D) j) := rfl
theorem own_base {w : World} {base base' : Nat} {el : TypeId} {s n : Nat} {v : Value} {xs : List Value} (h : w.ownsRow base el s v n xs) (hb : ∀ k, v.ownBlock = some k → base' ≤ k) : w.ownsRow base' el s v n xs := by
  obtain ⟨hl, h⟩ := h
  rcases h with h | ⟨g, cap, cur, rfl, hb2, r⟩
  · exact ⟨hl, .inl h⟩
  · exact ⟨hl, .inr ⟨g, cap, cur, rfl, hb g rfl, r⟩⟩
theorem Psr.move2 {w w' : World} {B0 p fin at_ c : Nat} {lv : Value} {T : List Tk} (h : Psr w B0 p lv T fin at_) (ho : Only (fun k => k = c) w w') (h1 : ¬ p = c) (h2 : ∀ b, lv.ownBlock = some b → ¬ b = c) : Psr w' B0 p lv T fin at_ :=
  ⟨ho.blk h.cell h1, h.toks.only ho h2, h.off, h.hp, h.le, h.small, Nat.le_trans h.b0 ho.size⟩
theorem dcell_one {s : List UInt8} {a : Int} {v : Value} (h : v.oneCell' = true) : ∀ x ∈ (Value.agg #[st s, .int .i64 a, v]).cells.toList, x.oneCell' = true := by
  intro x hx
  simp [Value.cells] at hx
  rcases hx with rfl | rfl | rfl
  · rfl
  · rfl
  · exact h
theorem cutL_ok : ∀ (xs : List UInt8) (k : Nat), (cutL xs k).2.1 = 0 → (cutL xs k).2.2 = 0 := by
  intro xs k
  induction hn : xs.length - k using Nat.strongRecOn generalizing k with
  | _ n ih =>
    rw [cutL_eq]
    split
    · rename_i hk
      split
      · have h1 := (runL_le (p := nnlB) (k := k + 1) (xs := xs) (by omega)).1
        exact ih (xs.length - runL nnlB xs (k + 1)) (by omega) _ rfl
      · split
        · exact ih (xs.length - (k + 1)) (by omega) _ rfl
        · split
          · rename_i he
            have h1 := oneL_fin xs k hk he
            exact ih (xs.length - (oneL xs k hk).2.fin) (by omega) _ rfl
          · rename_i he
            exact fun h => absurd h he
    · exact fun _ => rfl
theorem cutA_ok {xs : List UInt8} (h : (cutA xs).2.1 = 0) : (cutA xs).2.2 = 0 := by
  unfold cutA at h ⊢
  split at h
  · cases h
  · rename_i h1
    rw [if_neg h1]
    split at h
    · rename_i h2; rw [if_pos h2]; exact cutL_ok _ _ h2
    · rename_i h2; exact absurd h h2
/-- where Parse's body ends -/
def ParseQ (xs : List UInt8) (c2 c3 : Nat) (w0 : World) : Exit → Env → World → Prop
  | .ret, e, w => ∃ (dv : Value) (V : Nat → Value), e 2 = .pointer (some ⟨c2, 0, none⟩) ∧ e 3 = .pointer (some ⟨c3, 0, none⟩) ∧ (parseA xs).2 = (0, 0) ∧ w.heap[c2]? = some (.cells #[dv] 28 (0, 0)) ∧ w.heap[c3]? = some (.cells #[.int .i64 0, .int .i64 0] 49 (0, 0)) ∧ Defs w w0.heap.size (parseA xs).1 dv V ∧ Ext w0 w
  | .panic ch, e, w => ∃ (er j : Nat) (dv y1 y2 : Value), e 2 = .pointer (some ⟨c2, 0, none⟩) ∧ e 3 = .pointer (some ⟨c3, 0, none⟩) ∧ parseA xs = ([], er, plc (cutA xs).1 xs.length j) ∧ ch = [pan er (plc (cutA xs).1 xs.length j)] ∧ w.heap[c2]? = some (.cells #[dv] 28 (0, 0)) ∧ w.heap[c3]? = some (.cells #[y1, y2] 49 (0, 0)) ∧ Ext w0 w
  | _, _, _ => False

set_option maxHeartbeats 2000000 in
theorem parse_spec (xs : List UInt8) (w0 : World) (hlen : xs.length ≤ 9223372036854775807) : Ca Try.prog 19 #[st xs] w0 (fun v w' => ∃ dv V, v = .tuple #[.agg #[dv], .agg (faultV (parseA xs).2.1 (parseA xs).2.2)] ∧ Defs w' w0.heap.size (parseA xs).1 dv V ∧ Ext w0 w') := by
  obtain ⟨BB, hBB⟩ : ∃ B, B = w0.heap.size := ⟨_, rfl⟩
  rw [← hBB]
  refine calls_ofF (l := [st xs]) Try.func19 Try.ntmps19 rfl rfl ?_
  refine WF.seq ?_
  refine WF.of ?_
  refine W.region ?_
  refine WL.c rfl (o_alB TI28 ?_)
  intro w2 hC2 hx2 hs2
  obtain ⟨c2, hc2⟩ : ∃ c, c = w0.heap.size := ⟨_, rfl⟩
  rw [← hc2] at hC2 hs2 ⊢
  refine WL.c rfl (o_alB TI49 ?_)
  intro w3 hC3 hx3 hs3
  obtain ⟨c3, hc3⟩ : ∃ c, c = w2.heap.size := ⟨_, rfl⟩
  rw [← hc3] at hC3 hs3 ⊢
  replace hC2 := hx3.blk hC2 (fun h => h)
  have hx := hx2.tr hx3
  refine WL.nil ?_
  refine WF.seq ?_
  refine WF.of ?_
  refine W.region ?_
  refine WL.c rfl (o_mvh (show _ = Value.string _ from rfl) ?_)
  refine WL.c rfl (o_call Try.call21 (lc rfl ln) ((cut_spec xs _ hlen).mono ?_))
  rintro v9 w9 ⟨v1, rfl, hown, hx9⟩
  replace hC2 := hx9.blk hC2 (fun h => h)
  replace hC3 := hx9.blk hC3 (fun h => h)
  replace hx := hx.tr hx9
  have hs9 := hx9.size
  replace hown : w9.ownsRow w3.heap.size _ 5 v1 (cutA xs).1.length _ := hown
  have hTl := cutA_len xs
  obtain ⟨ta, tc, hv1⟩ : ∃ a c, v1 = .slice a (cutA xs).1.length c := (Sl.own hown).isSlice
  subst hv1
  have hTt := cut_texts xs
  have hPN : ¬ (cutA xs).2.1 = 0 → parseA xs = ([], (cutA xs).2) := fun h => by rw [parseA, if_neg h]
  have hPA : (cutA xs).2.1 = 0 → ∀ e i, defsT (cutA xs).1 ((cutA xs).1.length + 2) 0 0 = .bad e i → parseA xs = ([], e, plc (cutA xs).1 xs.length i) := fun h e i h2 => by rw [parseA, if_pos h, h2]
  have hPO : (cutA xs).2.1 = 0 → ∀ D i, defsT (cutA xs).1 ((cutA xs).1.length + 2) 0 0 = .ok D i → parseA xs = (D.map (plD (cutA xs).1), 0, 0) := fun h D i h2 => by rw [parseA, if_pos h, h2]
  refine WL.c rfl (o_mvh (by first | exact (show _ = Value.tuple _ from rfl) | exact rfl) ?_)
  refine WL.c rfl (o_ext rfl rfl ?_)
  refine WL.c rfl (o_ext rfl rfl ?_)
  refine WL.c rfl (o_ash (by first | exact (show _ = Value.slice _ _ _ from rfl) | exact rfl) ?_)
  refine WL.u (o_stA TI49 rfl (show _ = Value.agg (faultV (cutA xs).2.1 (cutA xs).2.2) from rfl) rfl rfl hC3 rfl ?_)
  intro w5 hC3' ho5 hs5
  replace hC2 := ho5.blk hC2 (show ¬ c2 = c3 by omega)
  replace hC3 : w5.heap[c3]? = some (.cells (faultV (cutA xs).2.1 (cutA xs).2.2) 49 (0, 0)) := hC3'
  replace hx := hx.trans' ho5 (fun _ h => h) (fun k hk he => by omega)
  replace hown := own_only hown ho5 (fun k hk he => by have := (hown.lt k hk).1; omega)
  clear hC3'
  refine WL.nil ?_
  refine WF.seq ?_
  refine WF.seq ?_
  refine WF.of ?_
  refine W.region ?_
  refine WL.c rfl (o_fa 0 TI49 rfl TI32 rfl rfl ?_)
  refine WL.c rfl (o_ld TI32 rfl rfl (cell_of hC3 rfl) ?_)
  refine WL.c rfl (o_ne rfl rfl ?_)
  refine WL.nil ?_
  refine WF.cond rfl (fun c14 => ?_) (fun c14 => ?_)
  · try simp only [decide_eq_true_eq, decide_eq_false_iff_not, Bool.not_eq_true', Bool.not_eq_false', Bool.and_eq_true, Bool.or_eq_true, Bool.and_eq_false_iff, Bool.or_eq_false_iff] at c14
    have hce : ¬ (cutA xs).2.1 = 0 := by omega
    refine WF.seq ?_
    refine WF.of ?_
    refine W.cut (fun e1 w1 => e1 2 = .pointer (some ⟨c2, 0, none⟩) ∧ e1 3 = .pointer (some ⟨c3, 0, none⟩) ∧ w1.heap[c2]? = some (.cells #[.slice none 0 0] 28 (0, 0)) ∧ w1.heap[c3]? = some (.cells (faultV (cutA xs).2.1 (cutA xs).2.2) 49 (0, 0)) ∧ Ext w0 w1) ?_ ?_
    · -- region 3
      refine W.enum rfl ?_
      have hdr := Only.drew w5
      replace hown := own_ext hown hdr
      replace hC2 := hdr.blk hC2 (fun h => h)
      replace hC3 := hdr.blk hC3 (fun h => h)
      replace hx := hx.tr hdr
      clear hdr
      generalize w5.drew = wd at *
      refine WA.step (r := [0, 1]) (by kernel_rfl) (by decide) (all2 ?_ ?_)
      · skip
        refine WO.c rfl rfl (o_bldC (cs := [(.slice none 0 0)]) TI28 (Sizes.cons TI26 Sizes.nil) rfl lnp rfl rfl ?_)
        refine WA.step (r := [1, 2]) (by kernel_rfl) (by decide) (all2 ?_ ?_)
        · skip
          refine WO.c rfl rfl (o_ldA TI49 rfl rfl (cells_all hC3) rfl ?_)
          refine WA.step (r := [2]) (by kernel_rfl) (by decide) (all1 ?_)
          refine WO.u rfl (o_stA TI28 rfl (show _ = Value.agg #[.slice none 0 0] from rfl) rfl rfl hC2 rfl ?_)
          intro w6 hC2' ho6 hs6
          replace hown := own_only hown ho6 (fun k hk he => by have := (hown.lt k hk).1; omega)
          replace hC3 := ho6.blk hC3 (show ¬ c3 = c2 by omega)
          replace hC2 := hC2'
          replace hx := hx.trans' ho6 (fun _ h => h) (fun k hk he => by omega)
          refine WA.step (r := [3]) (by kernel_rfl) (by decide) (all1 ?_)
          refine WO.u rfl (o_stA TI49 rfl (show _ = Value.agg (faultV (cutA xs).2.1 (cutA xs).2.2) from rfl) rfl rfl hC3 rfl ?_)
          intro w5 hC3' ho5 hs5
          replace hC2 := ho5.blk hC2 (show ¬ c2 = c3 by omega)
          replace hC3 : w5.heap[c3]? = some (.cells (faultV (cutA xs).2.1 (cutA xs).2.2) 49 (0, 0)) := hC3'
          replace hx := hx.trans' ho5 (fun _ h => h) (fun k hk he => by omega)
          replace hown := own_only hown ho5 (fun k hk he => by have := (hown.lt k hk).1; omega)
          clear hC3'
          refine WA.done (by kernel_rfl) ?_
          exact ⟨rfl, rfl, hC2, hC3, hx⟩
        · skip
          refine WO.u rfl (o_stA TI28 rfl (show _ = Value.agg #[.slice none 0 0] from rfl) rfl rfl hC2 rfl ?_)
          intro w6 hC2' ho6 hs6
          replace hown := own_only hown ho6 (fun k hk he => by have := (hown.lt k hk).1; omega)
          replace hC3 := ho6.blk hC3 (show ¬ c3 = c2 by omega)
          replace hC2 := hC2'
          replace hx := hx.trans' ho6 (fun _ h => h) (fun k hk he => by omega)
          refine WA.step (r := [1]) (by kernel_rfl) (by decide) (all1 ?_)
          refine WO.c rfl rfl (o_ldA TI49 rfl rfl (cells_all hC3) rfl ?_)
          refine WA.step (r := [3]) (by kernel_rfl) (by decide) (all1 ?_)
          refine WO.u rfl (o_stA TI49 rfl (show _ = Value.agg (faultV (cutA xs).2.1 (cutA xs).2.2) from rfl) rfl rfl hC3 rfl ?_)
          intro w5 hC3' ho5 hs5
          replace hC2 := ho5.blk hC2 (show ¬ c2 = c3 by omega)
          replace hC3 : w5.heap[c3]? = some (.cells (faultV (cutA xs).2.1 (cutA xs).2.2) 49 (0, 0)) := hC3'
          replace hx := hx.trans' ho5 (fun _ h => h) (fun k hk he => by omega)
          replace hown := own_only hown ho5 (fun k hk he => by have := (hown.lt k hk).1; omega)
          clear hC3'
          refine WA.done (by kernel_rfl) ?_
          exact ⟨rfl, rfl, hC2, hC3, hx⟩
      · skip
        refine WO.c rfl rfl (o_ldA TI49 rfl rfl (cells_all hC3) rfl ?_)
        refine WA.step (r := [0]) (by kernel_rfl) (by decide) (all1 ?_)
        refine WO.c rfl rfl (o_bldC (cs := [(.slice none 0 0)]) TI28 (Sizes.cons TI26 Sizes.nil) rfl lnp rfl rfl ?_)
        refine WA.step (r := [2]) (by kernel_rfl) (by decide) (all1 ?_)
        refine WO.u rfl (o_stA TI28 rfl (show _ = Value.agg #[.slice none 0 0] from rfl) rfl rfl hC2 rfl ?_)
        intro w6 hC2' ho6 hs6
        replace hown := own_only hown ho6 (fun k hk he => by have := (hown.lt k hk).1; omega)
        replace hC3 := ho6.blk hC3 (show ¬ c3 = c2 by omega)
        replace hC2 := hC2'
        replace hx := hx.trans' ho6 (fun _ h => h) (fun k hk he => by omega)
        refine WA.step (r := [3]) (by kernel_rfl) (by decide) (all1 ?_)
        refine WO.u rfl (o_stA TI49 rfl (show _ = Value.agg (faultV (cutA xs).2.1 (cutA xs).2.2) from rfl) rfl rfl hC3 rfl ?_)
        intro w5 hC3' ho5 hs5
        replace hC2 := ho5.blk hC2 (show ¬ c2 = c3 by omega)
        replace hC3 : w5.heap[c3]? = some (.cells (faultV (cutA xs).2.1 (cutA xs).2.2) 49 (0, 0)) := hC3'
        replace hx := hx.trans' ho5 (fun _ h => h) (fun k hk he => by omega)
        replace hown := own_only hown ho5 (fun k hk he => by have := (hown.lt k hk).1; omega)
        clear hC3'
        refine WA.done (by kernel_rfl) ?_
        exact ⟨rfl, rfl, hC2, hC3, hx⟩
    rintro e w ⟨h2, h3, hC2, hC3, hx⟩
    refine WF.of ?_
    refine W.ret ?_
    refine Lv.ret (R := fun v w' => v = .tuple #[.agg #[.slice none 0 0], .agg (faultV (cutA xs).2.1 (cutA xs).2.2)] ∧ w' = w) (retAA rfl TI28 rfl TI49 rfl h2 h3 (show Cells w c2 0 [.slice none 0 0] from Cells.of hC2 0 _ (by simp)) rfl (show Cells w c3 0 (faultV (cutA xs).2.1 (cutA xs).2.2).toList from Cells.of hC3 0 _ (by simp [faultV])) rfl ⟨rfl, rfl⟩) ?_
    rintro v w' ⟨rfl, rfl⟩
    rw [hPN hce]
    exact ⟨.slice none 0 0, fun _ => undef, rfl, Defs.nil _ _ _, hx⟩
  · try simp only [decide_eq_true_eq, decide_eq_false_iff_not, Bool.not_eq_true', Bool.not_eq_false', Bool.and_eq_true, Bool.or_eq_true, Bool.and_eq_false_iff, Bool.or_eq_false_iff] at c14
    have hce : (cutA xs).2.1 = 0 := by omega
    have hPC : (cutA xs).2.2 = 0 := cutA_ok hce
    have hC30 : w5.heap[c3]? = some (.cells #[.int .i64 0, .int .i64 0] 49 (0, 0)) := by rw [hce, hPC] at hC3; exact hC3
    clear hC3
    have hC3 := hC30
    refine WF.of ?_
    refine W.skip ?_
    refine WF.seq ?_
    refine WF.region ?_
    refine WLF.c rfl (o_mkF (lc rfl (lc rfl ln)) ?_)
    refine WLF.d rfl ?_
    refine WLF.nil ?_
    refine WF.of ?_
    refine W.mono (Q' := ParseQ xs c2 c3 w0) ?_ ?_
    rotate_left
    · rintro x e w hq
      cases x with
      | ret =>
        obtain ⟨dv, V, g2, g3, gA, gC2, gC3, gD, gx⟩ := hq
        refine Lv.one Try.call30 (by simp) (S := fun u2 w' => u2 = .returning ∧ w' = w) ((parse1_ret c2 c3 w).mono (fun en u w' h => by cases en <;> exact h)) ?_
        rintro u' w11 ⟨rfl, rfl⟩
        refine Lv.ret (R := fun v w' => v = .tuple #[.agg #[dv], .agg #[.int .i64 0, .int .i64 0]] ∧ w' = w11) (retAA rfl TI28 rfl TI49 rfl g2 g3 (show Cells w11 c2 0 [dv] from Cells.of gC2 0 _ (by simp)) rfl (show Cells w11 c3 0 [.int .i64 0, .int .i64 0] from Cells.of gC3 0 _ (by simp)) rfl ⟨rfl, rfl⟩) ?_
        rintro v w' ⟨rfl, rfl⟩
        exact ⟨dv, V, by rw [gA]; rfl, by rw [hBB]; exact gD, gx⟩
      | panic ch =>
        obtain ⟨er, j, dv, y1, y2, g2, g3, gA, rfl, gC2, gC3, gx⟩ := hq
        refine Lv.one Try.call30 (by simp) (S := fun u2 w' => u2 = .panicking [{ pan er (plc (cutA xs).1 xs.length j) with recovered := true }] ∧ (w'.heap[c2]? = some (.cells #[.slice none 0 0] 28 (0, 0)) ∧ w'.heap[c3]? = some (.cells #[.int .i64 (er : Int), .int .i64 (plc (cutA xs).1 xs.length j : Int)] 49 (0, 0)) ∧ Only (fun k => k = c2 ∨ k = c3) w w')) ((parse1_panic c2 c3 er (plc (cutA xs).1 xs.length j) _ _ _ w gC2 gC3).mono (fun en u w' h => by cases en <;> exact h)) ?_
        rintro u' w9 ⟨rfl, hB2, hB3, ho9⟩
        refine Lv.ret (R := fun v w' => v = .tuple #[.agg #[.slice none 0 0], .agg #[.int .i64 (er : Int), .int .i64 (plc (cutA xs).1 xs.length j : Int)]] ∧ w' = w9) (retAA rfl TI28 rfl TI49 rfl g2 g3 (show Cells w9 c2 0 [.slice none 0 0] from Cells.of hB2 0 _ (by simp)) rfl (show Cells w9 c3 0 [.int .i64 (er : Int), .int .i64 (plc (cutA xs).1 xs.length j : Int)] from Cells.of hB3 0 _ (by simp)) rfl ⟨rfl, rfl⟩) ?_
        rintro v w' ⟨rfl, rfl⟩
        rw [gA]
        exact ⟨.slice none 0 0, fun _ => undef, rfl, Defs.nil _ _ _, gx.trans' ho9 (fun _ h => h) (fun k hk hF => by omega)⟩
      | _ => exact hq.elim
    refine W.seq ?_
    refine W.region ?_
    refine WL.c rfl (o_mvh (by first | exact (show _ = Value.slice _ _ _ from rfl) | exact rfl) ?_)
    refine WL.c rfl (o_mvh (show _ = Value.string _ from rfl) ?_)
    refine WL.c rfl (o_lenT TI9 rfl ?_)
    refine WL.c rfl (o_bldC (cs := [_, (.int .i64 0), _]) TI77 (Sizes.cons TI54 (Sizes.cons TI3 (Sizes.cons TI3 Sizes.nil))) rfl (lcp (show _ = Value.slice ta (cutA xs).1.length tc from rfl) (lcp (show _ = Value.int _ _ from rfl) lnp)) rfl rfl ?_)
    refine WL.c rfl (o_boxB rfl ?_)
    intro w22 hC22 hx22 hs22
    obtain ⟨p, hp⟩ : ∃ c, c = w5.heap.size := ⟨_, rfl⟩
    rw [← hp] at hC22 hs22 ⊢
    replace hC22 : w22.heap[p]? = some (.cells #[.slice ta (cutA xs).1.length tc, .int .i64 ((0 : Nat) : Int), .int .i64 (xs.length : Int)] 77 (0, 0)) := hC22
    have h5s : w5.heap.size = w9.heap.size := hs5
    obtain ⟨B, hB⟩ : ∃ B, B = p + 1 := ⟨_, rfl⟩
    have h : Psr w22 B p (.slice ta (cutA xs).1.length tc) (cutA xs).1 xs.length 0 := ⟨hC22, Sl.ext (Sl.own hown) hx22, fun b hb => by have := (hown.lt b hb).2; omega, by omega, Nat.zero_le _, by omega, by omega⟩
    replace hC2 := hx22.blk hC2 (fun h => h)
    replace hC3 := hx22.blk hC3 (fun h => h)
    replace hx := hx.tr hx22
    have hc2p : ¬ c2 = p := by omega
    have hc3p : ¬ c3 = p := by omega
    have hfu : ∀ k, k < w9.heap.size → ¬ B ≤ k := fun k hk => by omega
    have hBw : w0.heap.size ≤ B := by omega
    refine WL.c rfl (o_ash (by first | exact (show _ = Value.pointer _ from rfl) | exact rfl) ?_)
    refine WL.nil ?_
    refine W.seq ?_
    refine W.block ?_
    refine W.loopN (fun g e w => ∃ (i : Nat) (D : List Df) (dv : Value) (V : Nat → Value), e 2 = .pointer (some ⟨c2, 0, none⟩) ∧ e 3 = .pointer (some ⟨c3, 0, none⟩) ∧ e 5 = .pointer (some ⟨p, 0, none⟩) ∧ Psr w B p (.slice ta (cutA xs).1.length tc) (cutA xs).1 xs.length i ∧ w.heap[c2]? = some (.cells #[dv] 28 (0, 0)) ∧ w.heap[c3]? = some (.cells #[.int .i64 0, .int .i64 0] 49 (0, 0)) ∧ Defs w B (D.map (plD (cutA xs).1)) dv V ∧ D.length ≤ i ∧ (cutA xs).1.length + 2 ≤ g + i ∧ defsT (cutA xs).1 ((cutA xs).1.length + 2) 0 0 = ((defsT (cutA xs).1 g i D.length).bind fun D' j => .ok (D ++ D') j) ∧ Ext w0 w) ?_ ?_
    · refine ⟨(cutA xs).1.length + 2, 0, [], .slice none 0 0, fun _ => undef, rfl, rfl, rfl, h, hC2, hC3, Defs.nil _ _ _, Nat.le_refl _, Nat.le_refl _, ?_, hx⟩
      cases defsT (cutA xs).1 ((cutA xs).1.length + 2) 0 0 <;> simp [Pr.bind]
    rintro g e w ⟨i, D, dv, V, h2, h3, h5, h, hC2, hC3, hD, hDi, hgi, hres, hx⟩
    refine W.seq ?_
    refine W.seq ?_
    refine W.quiet rfl (by kernel_rfl) ?_
    refine WQ.c rfl ((QO.o rfl fun _ => o_mvh h5 ⟨rfl, rfl⟩)) ?_
    refine WQ.c rfl ((QO.r fun _ => r_nil rfl)) ?_
    refine WQ.c rfl ((QO.o rfl fun _ => o_fa 1 TI77 rfl TI3 rfl rfl ⟨rfl, rfl⟩)) ?_
    refine WQ.c rfl ((QO.o rfl fun _ => o_ld TI3 rfl rfl (cell_of h.cell rfl) ⟨rfl, rfl⟩)) ?_
    refine WQ.c rfl ((QO.o rfl fun _ => o_mvh h5 ⟨rfl, rfl⟩)) ?_
    refine WQ.c rfl ((QO.r fun _ => r_nil rfl)) ?_
    refine WQ.c rfl ((QO.o rfl fun _ => o_fa 0 TI77 rfl TI54 rfl rfl ⟨rfl, rfl⟩)) ?_
    refine WQ.c rfl ((QO.o rfl fun _ => o_ld TI54 rfl rfl (cell_of h.cell rfl) ⟨rfl, rfl⟩)) ?_
    refine WQ.c rfl ((QO.r fun _ => r_lenR TI54 rfl h.toks)) ?_
    refine WQ.c rfl ((QO.o rfl fun _ => o_lt rfl rfl ⟨rfl, rfl⟩)) ?_
    refine WQ.nil ?_
    intro nq
    have hxq := Only.drewN w nq
    replace h := h.ext hxq
    replace hC2 := hxq.blk hC2 (fun h => h)
    replace hC3 := hxq.blk hC3 (fun h => h)
    replace hD := hD.ext hxq
    replace hx := hx.tr hxq
    clear hxq
    generalize w.drewN nq = wq at *
    refine W.cond rfl (fun c32 => ?_) (fun c32 => ?_)
    · try simp only [decide_eq_true_eq, decide_eq_false_iff_not, Bool.not_eq_true', Bool.not_eq_false', Bool.and_eq_true, Bool.or_eq_true, Bool.and_eq_false_iff, Bool.or_eq_false_iff] at c32
      have hil : i < (cutA xs).1.length := by omega
      obtain ⟨g, rfl⟩ : ∃ g', g = g' + 1 := ⟨g - 1, by omega⟩
      refine W.skip ?_
      refine W.block ?_
      refine W.seq ?_
      refine W.seq ?_
      refine W.region ?_
      refine WL.cut (fun e1 w1 => e1 2 = .pointer (some ⟨c2, 0, none⟩) ∧ e1 3 = .pointer (some ⟨c3, 0, none⟩) ∧ e1 5 = .pointer (some ⟨p, 0, none⟩) ∧ e1 40 = .bool (decide (D.length = 256 ∧ isT (tkA (cutA xs).1 i) 1 [116, 121, 112, 101] = true)) ∧ Ext wq w1) ?_ ?_
      · -- region 7
        refine WL.c rfl (o_fa 0 TI28 rfl TI26 rfl h2 ?_)
        refine WL.c rfl (o_ld TI26 rfl rfl (cell_of hC2 rfl) ?_)
        refine WL.c rfl (o_lenR TI26 rfl (Sl.own hD.row) ?_)
        refine WL.c rfl (o_eq rfl rfl ?_)
        refine WL.c rfl (o_mvh (show _ = Value.bool _ from rfl) ?_)
        refine WL.sp 4 rfl (fun g37 => ?_) (fun g37 => ?_)
        · skip
          refine WL.g rfl (g37) rfl (o_mvh h5 ?_)
          refine WL.g rfl (g37) rfl (o_call Try.call31 (lc rfl (lc rfl (lc rfl ln))) ((is_spec B p (.slice ta (cutA xs).1.length tc) (cutA xs).1 xs.length i _ h 1 [116, 121, 112, 101]).mono ?_))
          rintro v39 w39 ⟨rfl, hx39⟩
          refine WL.c rfl (o_pickA rfl rfl ?_)
          exact WL.nil (⟨h2, h3, h5, congrArg Value.bool (by rw [List.length_map] at g37; rw [Bool.eq_iff_iff]; simp_all <;> omega), by first | exact hx39 | exact Only.refl _ _⟩)
        · skip
          refine WL.s rfl (g37) rfl ?_
          refine WL.s rfl (g37) rfl ?_
          refine WL.c rfl (o_pickF rfl (g37) ?_)
          exact WL.nil (⟨h2, h3, h5, congrArg Value.bool (by rw [List.length_map] at g37; rw [Bool.eq_iff_iff]; simp_all <;> omega), by first | exact hx39 | exact Only.refl _ _⟩)
      rintro e w ⟨h2, h3, h5, h40, hx7⟩
      replace h := h.ext hx7
      replace hC2 := hx7.blk hC2 (fun h => h)
      replace hC3 := hx7.blk hC3 (fun h => h)
      replace hD := hD.ext hx7
      replace hx := hx.tr hx7
      refine W.cond h40 (fun c40 => ?_) (fun c40 => ?_)
      · try simp only [decide_eq_true_eq, decide_eq_false_iff_not, Bool.not_eq_true', Bool.not_eq_false', Bool.and_eq_true, Bool.or_eq_true, Bool.and_eq_false_iff, Bool.or_eq_false_iff] at c40
        have hnm : D.length = 256 ∧ isT (tkA (cutA xs).1 i) 1 [116, 121, 112, 101] = true := by simpa using c40
        refine W.region ?_
        refine WL.c rfl (o_mvh h5 ?_)
        refine WL.cx rfl (ox_call Try.call32 (lc rfl (lc rfl ln)) ((fails_spec B p (.slice ta (cutA xs).1.length tc) (cutA xs).1 xs.length i _ h 5).mono ?_ (fun ch w' hh => by obtain ⟨g2, g3⟩ := hh; exact ⟨5, i, dv, _, _, h2, h3, hPA hce _ _ (by rw [hres, defsT_s, if_neg (by omega), if_pos hnm]; rfl), g2, g3.blk hC2 (fun h => h), g3.blk hC3 (fun h => h), hx.tr g3⟩)))
        exact fun _ _ hf => hf.elim
      · try simp only [decide_eq_true_eq, decide_eq_false_iff_not, Bool.not_eq_true', Bool.not_eq_false', Bool.and_eq_true, Bool.or_eq_true, Bool.and_eq_false_iff, Bool.or_eq_false_iff] at c40
        have hnm : ¬ (D.length = 256 ∧ isT (tkA (cutA xs).1 i) 1 [116, 121, 112, 101] = true) := by simpa using c40
        refine W.skip ?_
        refine W.seq ?_
        refine W.region ?_
        refine WL.c rfl (o_mvh h5 ?_)
        refine WL.cx rfl (ox_call Try.call33 (lc rfl (lc rfl (lc rfl ln))) ((want_spec B p (.slice ta (cutA xs).1.length tc) (cutA xs).1 xs.length i _ h 1 (by decide) [116, 121, 112, 101]).mono ?_ (fun ch w' hh => by obtain ⟨er, j, g1, g2, g3⟩ := hh; exact ⟨er, j, dv, _, _, h2, h3, hPA hce _ _ (by rw [hres, defsT_s, if_neg (by omega), if_neg hnm, g1]; rfl), g2, g3.blk hC2 (fun h => h), g3.blk hC3 (fun h => h), hx.tr g3⟩)))
        rintro v44 w44 ⟨hw1, h', ho⟩
        replace h := h'
        replace hC2 := ho.blk hC2 hc2p
        replace hC3 := ho.blk hC3 hc3p
        replace hD := hD.only ho (fun k hk he => by have := (hD.lt k hk).1; omega)
        replace hx := hx.trans' ho (fun _ h => h) (fun k hk he => by omega)
        refine WL.nil ?_
        refine W.seq ?_
        refine W.region ?_
        refine WL.c rfl (o_mvh h5 ?_)
        refine WL.c rfl (o_call Try.call34 (lc rfl ln) ((place_spec B p (.slice ta (cutA xs).1.length tc) (cutA xs).1 xs.length (i + 1) _ h).mono ?_))
        rintro v46 w46 ⟨rfl, hx46⟩
        replace h := h.ext hx46
        replace hC2 := hx46.blk hC2 (fun h => h)
        replace hC3 := hx46.blk hC3 (fun h => h)
        replace hD := hD.ext hx46
        replace hx := hx.tr hx46
        have hp46 := (Array.getElem?_eq_some_iff.1 h.cell).1
        have hc246 := (Array.getElem?_eq_some_iff.1 hC2).1
        have hc346 := (Array.getElem?_eq_some_iff.1 hC3).1
        have hx46s := hx.size
        have hD46 := hD
        refine WL.c rfl (o_bldC (cs := [(.string ⟨#[]⟩), _, (.slice none 0 0)]) TI40 (Sizes.cons TI9 (Sizes.cons TI3 (Sizes.cons TI38 Sizes.nil))) rfl (lcp (show _ = Value.int _ _ from rfl) lnp) rfl rfl ?_)
        refine WL.c rfl (o_alB TI40 ?_)
        intro wa hCa hxa hsa
        refine WL.u (o_stA TI40 rfl (show _ = Value.agg #[st [], .int .i64 (plc (cutA xs).1 xs.length (i + 1) : Int), .slice none 0 0] from rfl) rfl rfl hCa rfl ?_)
        intro wb hC6 hob hsb
        have hxb := Ext.own hxa (Nat.le_refl _) hob
        clear hCa hxa hob
        replace h := h.ext hxb
        replace hC2 := hxb.blk hC2 (fun h => h)
        replace hC3 := hxb.blk hC3 (fun h => h)
        replace hD := hD.ext hxb
        replace hx := hx.tr hxb
        obtain ⟨c6, hc6⟩ : ∃ c, c = w46.heap.size := ⟨_, rfl⟩
        rw [← hc6] at hC6 ⊢
        have hc6p : ¬ c6 = p := by omega
        have hc26 : ¬ c2 = c6 := by omega
        have hc36 : ¬ c3 = c6 := by omega
        have hc6B : B ≤ c6 := by omega
        have hDc6 : ∀ k, DF dv V (D.map (plD (cutA xs).1)).length k → ¬ k = c6 := fun k hk he => by have := (hD46.lt k hk).2; omega
        refine WL.nil ?_
        refine W.seq ?_
        refine W.region ?_
        refine WL.c rfl (o_mvh h5 ?_)
        refine WL.cx rfl (ox_call Try.call35 (lc rfl ln) ((namep_spec B p (.slice ta (cutA xs).1.length tc) (cutA xs).1 xs.length (i + 1) _ h (hTt _)).mono ?_ (fun ch w' hh => by obtain ⟨er, j, g1, g2, g3⟩ := hh; exact ⟨er, j, dv, _, _, h2, h3, hPA hce _ _ (by rw [hres, defsT_s, if_neg (by omega), if_neg hnm, hw1, Pr.bind_ok, g1]; rfl), g2, g3.blk hC2 (fun h => h), g3.blk hC3 (fun h => h), hx.tr g3⟩)))
        rintro v49 w49 ⟨sn, hw2, rfl, h', ho⟩
        replace h := h'
        replace hC2 := ho.blk hC2 hc2p
        replace hC3 := ho.blk hC3 hc3p
        replace hD := hD.only ho (fun k hk he => by have := (hD.lt k hk).1; omega)
        replace hC6 := ho.blk hC6 hc6p
        replace hx := hx.trans' ho (fun _ h => h) (fun k hk he => by omega)
        have hnl : i + 1 < (cutA xs).1.length := by have := h.le; omega
        refine WL.c rfl (o_fa 0 TI40 rfl TI9 rfl rfl ?_)
        refine WL.u (o_stB TI9 rfl (show _ = Value.string _ from rfl) rfl hC6 (show 0 < 3 by decide) ?_)
        intro w50 hC6' ho6 hs6
        replace hC6 : w50.heap[c6]? = some (.cells #[st sn, .int .i64 (plc (cutA xs).1 xs.length (i + 1) : Int), .slice none 0 0] 40 (0, 0)) := hC6'
        clear hC6'
        replace h := h.keep ho6 (fun k hk => by omega)
        replace hC2 := ho6.blk hC2 hc26
        replace hC3 := ho6.blk hC3 hc36
        replace hD := hD.only ho6 hDc6
        replace hx := hx.trans' ho6 (fun _ h => h) (fun k hk he => by omega)
        refine WL.nil ?_
        refine W.seq ?_
        refine W.region ?_
        refine WL.c rfl (o_mvh h5 ?_)
        refine WL.cx rfl (ox_call Try.call36 (lc rfl (lc rfl ln)) ((mark_spec B p (.slice ta (cutA xs).1.length tc) (cutA xs).1 xs.length (i + 1 + 1) _ h [61]).mono ?_ (fun ch w' hh => by obtain ⟨er, j, g1, g2, g3⟩ := hh; exact ⟨er, j, dv, _, _, h2, h3, hPA hce _ _ (by rw [hres, defsT_s, if_neg (by omega), if_neg hnm, hw1, Pr.bind_ok, hw2, Pr.bind_ok, g1]; rfl), g2, g3.blk hC2 (fun h => h), g3.blk hC3 (fun h => h), hx.tr g3⟩)))
        rintro v52 w52 ⟨hw3, h', ho⟩
        replace h := h'
        replace hC2 := ho.blk hC2 hc2p
        replace hC3 := ho.blk hC3 hc3p
        replace hD := hD.only ho (fun k hk he => by have := (hD.lt k hk).1; omega)
        replace hC6 := ho.blk hC6 hc6p
        replace hx := hx.trans' ho (fun _ h => h) (fun k hk he => by omega)
        refine WL.nil ?_
        refine W.seq ?_
        refine W.region ?_
        refine WL.c rfl (o_mvh h5 ?_)
        refine WL.c rfl (o_bldC (cs := [(.int .i64 0), (.int .i64 0), (.string ⟨#[]⟩), (.string ⟨#[]⟩), (.int .i64 0), (.int .i64 0), (.int .i64 (-1))]) TI30 (Sizes.cons TI3 (Sizes.cons TI3 (Sizes.cons TI9 (Sizes.cons TI9 (Sizes.cons TI3 (Sizes.cons TI3 (Sizes.cons TI3 Sizes.nil))))))) rfl (lcp (show _ = Value.int _ _ from rfl) lnp) rfl rfl ?_)
        have hE2 := expr_spec (B0 := B) (p := p) (lv := .slice ta (cutA xs).1.length tc) (fin := xs.length) hTt ((cutA xs).1.length + 2) 0 0 (by omega) (by omega) (i + 1 + 1 + 1) exM [] (.slice none 0 0) _ (Nat.zero_le _) rfl h (World.ownsRow_nil _ _ _ _) (Nat.zero_le _)
        rw [plE_exM] at hE2
        have hs55 := hx.size
        have hD55 := hD
        have h55b := h.b0
        have hnil : True := trivial
        refine WL.cx rfl (ox_call Try.call37 (lc rfl (lc rfl (lc rfl (lc rfl ln)))) ((hE2).mono ?_ (fun ch w' hh => by obtain ⟨er, j, g1, g2, g3⟩ := hh; replace g1 : exprT (cutA xs).1 ((cutA xs).1.length + 2) (i + 1 + 1 + 1) exM 0 = .bad er j := g1; replace g3 : Only (fun k => k = p) _ w' := g3.mono (fun k _ hk => by rcases hk with hk | hk; exact hk; cases hk); exact ⟨er, j, dv, _, _, h2, h3, hPA hce _ _ (by rw [hres, defsT_s, if_neg (by omega), if_neg hnm, hw1, Pr.bind_ok, hw2, Pr.bind_ok, hw3, Pr.bind_ok, g1]; rfl), g2, g3.blk hC2 hc2p, g3.blk hC3 hc3p, hx.trans' g3 (fun _ h => h) (fun k hk he => by omega)⟩)))
        rintro v55 w55 ⟨N, j, hN, hty, hNl, hij, hvb, h', ho0⟩
        replace hN : exprT (cutA xs).1 ((cutA xs).1.length + 2) (i + 1 + 1 + 1) exM 0 = .ok N j := hN
        have ho : Only (fun k => k = p) _ w55 := ho0.mono (fun k _ hk => by rcases hk with hk | hk; exact hk; cases hk)
        clear ho0
        have hvb2 : ∀ k, v55.ownBlock = some k → w52.heap.size ≤ k := fun k hk => by rcases hvb k hk with h1 | h1; cases h1; exact h1
        replace hty := own_base hty hvb2
        have hc652 := (Array.getElem?_eq_some_iff.1 hC6).1
        replace h := h'
        replace hC2 := ho.blk hC2 hc2p
        replace hC3 := ho.blk hC3 hc3p
        replace hD := hD.only ho (fun k hk he => by have := (hD.lt k hk).1; omega)
        replace hC6 := ho.blk hC6 hc6p
        replace hx := hx.trans' ho (fun _ h => h) (fun k hk he => by omega)
        refine WL.c rfl (o_fa 2 TI40 rfl TI38 rfl rfl ?_)
        refine WL.u (o_stB TI38 rfl (show _ = v55 from rfl) (own_one hty) hC6 (show 2 < 3 by decide) ?_)
        intro w56 hC6' ho6 hs6
        replace hC6 : w56.heap[c6]? = some (.cells #[st sn, .int .i64 (plc (cutA xs).1 xs.length (i + 1) : Int), v55] 40 (0, 0)) := hC6'
        clear hC6'
        replace h := h.keep ho6 (fun k hk => by omega)
        replace hC2 := ho6.blk hC2 hc26
        replace hC3 := ho6.blk hC3 hc36
        replace hD := hD.only ho6 hDc6
        replace hx := hx.trans' ho6 (fun _ h => h) (fun k hk he => by omega)
        replace hty := own_only hty ho6 (fun k hk he => by have := hvb2 k hk; omega)
        refine WL.nil ?_
        refine W.seq ?_
        refine W.region ?_
        refine WL.c rfl (o_mvh h5 ?_)
        refine WL.cx rfl (ox_call Try.call36 (lc rfl (lc rfl ln)) ((mark_spec B p (.slice ta (cutA xs).1.length tc) (cutA xs).1 xs.length j _ h [59]).mono ?_ (fun ch w' hh => by obtain ⟨er, j, g1, g2, g3⟩ := hh; exact ⟨er, j, dv, _, _, h2, h3, hPA hce _ _ (by rw [hres, defsT_s, if_neg (by omega), if_neg hnm, hw1, Pr.bind_ok, hw2, Pr.bind_ok, hw3, Pr.bind_ok, hN, Pr.bind_ok, g1]; rfl), g2, g3.blk hC2 (fun h => h), g3.blk hC3 (fun h => h), hx.tr g3⟩)))
        rintro v58 w58 ⟨hw4, h', ho⟩
        replace hty := own_only hty ho (fun k hk he => by have := hvb2 k hk; omega)
        replace h := h'
        replace hC2 := ho.blk hC2 hc2p
        replace hC3 := ho.blk hC3 hc3p
        replace hD := hD.only ho (fun k hk he => by have := (hD.lt k hk).1; omega)
        replace hC6 := ho.blk hC6 hc6p
        replace hx := hx.trans' ho (fun _ h => h) (fun k hk he => by omega)
        refine WL.nil ?_
        refine W.region ?_
        refine WL.c rfl (o_fa 0 TI28 rfl TI26 rfl h2 ?_)
        refine WL.c rfl (o_ld TI26 rfl rfl (cell_of hC2 rfl) ?_)
        refine WL.c rfl (o_ldA TI40 rfl rfl (show Cells _ c6 0 [st sn, .int .i64 (plc (cutA xs).1 xs.length (i + 1) : Int), v55] from Cells.of hC6 0 _ (by simp)) rfl ?_)
        have hty1 := own_one hty
        refine WL.apO (B) rfl rfl TI26 TI40 rfl rfl hD.row (by decide) (by decide) rfl (dcell_one hty1) rfl (by rw [maxLen_eq, List.length_map]; omega) (by rw [List.length_map]; omega) (by have := h.b0; omega) ?_
        intro v63 w63 hown1 ho63 hob63 _
        replace hob63 : v63.ownBlock = dv.ownBlock ∨ _ := hob63
        replace ho63 : Only (fun k => dv.ownBlock = some k) _ _ := ho63
        have hdl : ∀ k, dv.ownBlock = some k → B ≤ k := fun k hk => (hD.row.lt k hk).1
        replace h := h.keep ho63 (fun k hk => by have := hdl k hk; omega)
        replace hC3 := ho63.blk hC3 (fun hk => by have := hdl _ hk; omega)
        have hC2o := hC2
        replace hC2 := ho63.blk hC2 (fun hk => by have := hdl _ hk; omega)
        have htys := hD.tys.only ho63 (fun j hj k hk hF => own_row_off hD.row (hD.tys.row j hj) (by decide) k hk hF)
        replace hty := own_only hty ho63 (fun k hk hF => own_row_off hD.row hty (by decide) k hk hF)
        replace hx := hx.trans' ho63 (fun _ h => h) (fun k hk hF => by have := hdl k hF; omega)
        have hV55 : ∀ j, j < (D.map (plD (cutA xs).1)).length → ∀ k, (V j).ownBlock = some k → k < w52.heap.size := fun j hj k hk => (hD55.tys.lt hj hk).2
        have hB52 : B ≤ w52.heap.size := by have := h55b; omega
        have hpd : dcell (plD (cutA xs).1 ⟨sn, ((i + 1 : Nat) : Int), N⟩) v55 = [st sn, .int .i64 (plc (cutA xs).1 xs.length (i + 1) : Int), v55] := by rw [plc_lt hnl]; rfl
        have hDn := Defs.snoc (d := plD (cutA xs).1 ⟨sn, ((i + 1 : Nat) : Int), N⟩) (by rw [hpd]; exact hown1) htys hty hB52 hV55
        have h63c : ¬ v63.ownBlock = some c2 := own_off hown1 hC2 (by decide)
        refine WL.c rfl (o_fa 0 TI28 rfl TI26 rfl h2 ?_)
        refine WL.u (o_stB TI26 rfl (show _ = v63 from rfl) (own_one hown1) hC2 (show 0 < 1 by decide) ?_)
        intro w64 hC2' ho64 hs64
        replace hC2 : w64.heap[c2]? = some (.cells #[v63] 28 (0, 0)) := hC2'
        replace hC3 := ho64.blk hC3 (show ¬ c3 = c2 by omega)
        replace h := h.move2 ho64 (show ¬ p = c2 by omega) (fun b hb => by have := (hown.lt b hb).1; omega)
        have hDm := hDn.only ho64 (fun k hk he => by have := (hDn.lt k hk).1; omega)
        replace hx := hx.trans' ho64 (fun _ h => h) (fun k hk he => by omega)
        refine WL.nil ?_
        refine ⟨g, by omega, j + 1, D ++ [⟨sn, ((i + 1 : Nat) : Int), N⟩], v63, _, h2, h3, h5, h, hC2, hC3, (by rw [List.map_append, List.map_singleton]; exact hDm), by rw [List.length_append, List.length_singleton]; omega, by omega, ?_, hx⟩
        rw [hres, defsT_s, if_neg (by omega), if_neg hnm, hw1, Pr.bind_ok, hw2, Pr.bind_ok, hw3, Pr.bind_ok, hN, Pr.bind_ok, hw4, Pr.bind_ok, List.length_append, List.length_singleton]
        cases defsT (cutA xs).1 g (j + 1) (D.length + 1) <;> simp [Pr.bind]
    · try simp only [decide_eq_true_eq, decide_eq_false_iff_not, Bool.not_eq_true', Bool.not_eq_false', Bool.and_eq_true, Bool.or_eq_true, Bool.and_eq_false_iff, Bool.or_eq_false_iff] at c32
      have hil : (cutA xs).1.length ≤ i := by omega
      obtain ⟨g, rfl⟩ : ∃ g', g = g' + 1 := ⟨g - 1, by have := h.le; omega⟩
      have hfin := hPO hce _ _ (hres.trans (by rw [defsT_s, if_pos hil]; rfl))
      refine W.exit ?_
      refine W.seq ?_
      refine W.region ?_
      refine WL.c rfl (o_ldA TI28 rfl h2 (show Cells _ c2 0 [dv] from Cells.of hC2 0 _ (by simp)) rfl ?_)
      refine WL.c rfl (o_bldC (cs := [(.int .i64 0), (.int .i64 0)]) TI49 (Sizes.cons TI32 (Sizes.cons TI3 Sizes.nil)) rfl lnp rfl rfl ?_)
      refine WL.u (o_stA TI28 h2 (show _ = Value.agg #[dv] from rfl) rfl (by simp [own_one hD.row]) hC2 rfl ?_)
      intro wa hC2' hoa hsa
      replace hC3 := hoa.blk hC3 (show ¬ c3 = c2 by omega)
      replace hD := hD.only hoa (fun k hk he => by have := (hD.lt k hk).1; omega)
      replace hx := hx.trans' hoa (fun _ h => h) (fun k hk he => by omega)
      refine WL.u (o_stA TI49 h3 (show _ = Value.agg #[.int .i64 0, .int .i64 0] from rfl) rfl rfl hC3 rfl ?_)
      intro wb hC3' hob hsb
      replace hC2 := hob.blk hC2' (show ¬ c2 = c3 by omega)
      replace hD := hD.only hob (fun k hk he => by have := (hD.lt k hk).1; omega)
      replace hx := hx.trans' hob (fun _ h => h) (fun k hk he => by omega)
      refine WL.nil ?_
      refine W.ret ?_
      rw [List.append_nil] at hfin
      exact ⟨dv, V, h2, h3, by rw [hfin], hC2, hC3', by rw [hfin]; exact hD.mono hBw, hx⟩
end Go.Proofs.Ytcljkkfpcomdcaa
