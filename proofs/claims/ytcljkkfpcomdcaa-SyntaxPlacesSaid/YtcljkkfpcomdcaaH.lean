/-
  Walks. Written by program out of specs of mine.
-/
import Derived.Test.YtcljkkfpcomdcaaG
set_option linter.unusedSimpArgs false
set_option linter.unusedVariables false
set_option maxRecDepth 100000
namespace Go.Proofs.Ytcljkkfpcomdcaa
open Go Go.Vc Go.RowKit Go.Proofs

theorem expr_spec {B0 p : Nat} {lv : Value} {T : List Tk} {fin : Nat} (hln : ∀ i, (tkA T i).text.length ≤ 9223372036854775807) : ∀ f deep m, deep ≤ 17 → T.length + 2 ≤ f + m → ESpec B0 p lv T fin (fun i x => exprT T f i x deep) deep m
  | 0, deep, m, hd, hf => fun at_ x L v w0 hm hk h hrow hl => by have := h.le; omega
  | f + 1, deep, m, hd, hf => fun at_ x L v w0 hm hk h hrow hl => expr_step B0 p lv T fin f deep hln (fun hd2 m' hf' => expr_spec hln f (deep + 1) m' (by omega) hf') hd m at_ (by omega) x L v w0 hm hk h hrow hl
/-! ### what the tokens are -/
theorem oneL_len {xs : List UInt8} {k : Nat} {h : k < xs.length} : (oneL xs k h).2.text.length ≤ xs.length := by
  unfold oneL
  split
  · split
    · exact Nat.zero_le _
    · exact sub_len _ _ _
  · split
    · exact Nat.zero_le _
    · split
      · exact sub_len _ _ _
      · exact Nat.zero_le _
theorem cutL_len : ∀ (xs : List UInt8) (k : Nat), (cutL xs k).1.length ≤ xs.length - k ∧ ∀ t ∈ (cutL xs k).1, t.text.length ≤ xs.length := by
  intro xs k
  induction hn : xs.length - k using Nat.strongRecOn generalizing k with
  | _ n ih =>
    rw [cutL_eq]
    split
    · rename_i hk
      split
      · have h1 := (runL_le (p := nnlB) (k := k + 1) (xs := xs) (by omega)).1
        have h2 := ih (xs.length - runL nnlB xs (k + 1)) (by omega) _ rfl
        exact ⟨by omega, h2.2⟩
      · split
        · have h2 := ih (xs.length - (k + 1)) (by omega) _ rfl
          exact ⟨by omega, h2.2⟩
        · split
          · rename_i he
            have h1 := oneL_fin xs k hk he
            have h2 := ih (xs.length - (oneL xs k hk).2.fin) (by omega) _ rfl
            refine ⟨by simp only [List.length_cons]; omega, fun t ht => ?_⟩
            rcases List.mem_cons.1 ht with rfl | ht
            · exact oneL_len
            · exact h2.2 t ht
          · exact ⟨Nat.zero_le _, fun t ht => by cases ht⟩
    · exact ⟨Nat.zero_le _, fun t ht => by cases ht⟩
theorem cutA_len (xs : List UInt8) : (cutA xs).1.length ≤ 65536 ∧ ∀ t ∈ (cutA xs).1, t.text.length ≤ 65536 := by
  unfold cutA
  split
  · exact ⟨Nat.zero_le _, fun t ht => by cases ht⟩
  · split
    · have h := cutL_len xs 0
      exact ⟨by omega, fun t ht => by have := h.2 t ht; omega⟩
    · exact ⟨Nat.zero_le _, fun t ht => by cases ht⟩
theorem cut_texts (xs : List UInt8) (i : Nat) : (tkA (cutA xs).1 i).text.length ≤ 9223372036854775807 := by
  by_cases h : i < (cutA xs).1.length
  · rw [tkA_lt h]
    have := (cutA_len xs).2 _ (List.getElem_mem h)
    omega
  · rw [tkA_ge (by omega)]; exact Nat.zero_le _
/-! ### sources -/
def df0 : Df := ⟨[], 0, []⟩
def dcell (d : Df) (v : Value) : List Value := [st d.name, .int .i64 d.at_, v]
def tyD (D : List Df) (j : Nat) : List Ex := (D.getD j df0).ty
def drows (D : List Df) (V : Nat → Value) : List Value := (List.range D.length).flatMap fun j => dcell (D.getD j df0) (V j)
theorem dfm_congr {α : Type} {f g : Nat → List α} {l : List Nat} (h : ∀ j ∈ l, f j = g j) : l.flatMap f = l.flatMap g := by
  induction l with
  | nil => rfl
  | cons a l ih => rw [List.flatMap_cons, List.flatMap_cons, h a (List.mem_cons_self ..), ih (fun j hj => h j (List.mem_cons_of_mem _ hj))]
theorem drows_snoc (D : List Df) (V : Nat → Value) (d : Df) (v : Value) : drows (D ++ [d]) (fun j => if j = D.length then v else V j) = drows D V ++ dcell d v := by
  rw [drows, List.length_append, List.length_singleton, List.range_succ, List.flatMap_append, List.flatMap_singleton, if_pos rfl]
  congr 1
  · refine dfm_congr fun j hj => ?_
    have hj := List.mem_range.1 hj
    rw [if_neg (by omega)]
    congr 1
    simp [List.getD_eq_getElem?_getD, List.getElem?_append_left hj]
  · congr 1
    simp [List.getD_eq_getElem?_getD]
theorem dcell_len (d : Df) (v : Value) : (dcell d v).length = 3 := rfl
/-- definitions in a row of our own, each type in a block of its own -/
structure Defs (w : World) (H : Nat) (D : List Df) (dv : Value) (V : Nat → Value) : Prop where
  row : w.ownsRow H 40 3 dv D.length (drows D V)
  tys : Many w H 30 7 D.length V (fun j => (tyD D j).length) (fun j => exs (tyD D j))
/-- the blocks that these lie in -/
def DF (dv : Value) (V : Nat → Value) (n : Nat) (k : Nat) : Prop := dv.ownBlock = some k ∨ ∃ j, j < n ∧ (V j).ownBlock = some k
theorem Defs.only {w w' : World} {H : Nat} {D : List Df} {dv : Value} {V : Nat → Value} {F : Nat → Prop} (h : Defs w H D dv V) (ho : Only F w w') (hn : ∀ k, DF dv V D.length k → ¬ F k) : Defs w' H D dv V :=
  ⟨own_only h.row ho (fun k hk => hn k (.inl hk)), h.tys.only ho (fun j hj k hk => hn k (.inr ⟨j, hj, hk⟩))⟩
theorem Defs.ext {w w' : World} {H : Nat} {D : List Df} {dv : Value} {V : Nat → Value} (h : Defs w H D dv V) (ho : Ext w w') : Defs w' H D dv V := h.only ho (fun _ _ h => h)
theorem Defs.lt {w : World} {H : Nat} {D : List Df} {dv : Value} {V : Nat → Value} (h : Defs w H D dv V) : ∀ k, DF dv V D.length k → H ≤ k ∧ k < w.heap.size := fun k hk => by
  rcases hk with hk | ⟨j, hj, hk⟩
  · exact h.row.lt k hk
  · exact h.tys.lt hj hk
theorem Defs.nil (w : World) (H : Nat) (V : Nat → Value) : Defs w H [] (.slice none 0 0) V := ⟨World.ownsRow_nil _ _ _ _, Many.zero⟩
theorem Defs.mono {w : World} {H H' : Nat} {D : List Df} {dv : Value} {V : Nat → Value} (h : Defs w H D dv V) (hH : H' ≤ H) : Defs w H' D dv V := ⟨own_mono h.row hH, fun j hj => own_mono (h.tys.row j hj) hH, h.tys.off⟩
theorem Defs.snoc {w : World} {H B : Nat} {D : List Df} {d : Df} {V : Nat → Value} {dv v : Value} (hr : w.ownsRow H 40 3 dv (D.length + 1) (drows D V ++ dcell d v)) (ht : Many w H 30 7 D.length V (fun j => (tyD D j).length) (fun j => exs (tyD D j)))
    (hf : RowE w B v d.ty) (hB : H ≤ B) (hlt : ∀ j, j < D.length → ∀ k, (V j).ownBlock = some k → k < B) : Defs w H (D ++ [d]) dv (fun j => if j = D.length then v else V j) := by
  have e1 : ∀ j, j < D.length → tyD (D ++ [d]) j = tyD D j := fun j hj => by simp [tyD, List.getD_eq_getElem?_getD, List.getElem?_append_left hj]
  have e2 : tyD (D ++ [d]) D.length = d.ty := by simp [tyD, List.getD_eq_getElem?_getD]
  refine ⟨by rw [List.length_append, List.length_singleton, drows_snoc]; exact hr, ?_⟩
  rw [List.length_append, List.length_singleton]
  exact Many.snocG (ht.congr (fun _ _ => rfl) (fun j hj => by rw [e1 j hj]) (fun j hj => by rw [e1 j hj])) hf hB hlt (by rw [e2]) (by rw [e2])
/-- what Parse answers -/
def parseA (xs : List UInt8) : List Df × Nat × Nat :=
  if (cutA xs).2.1 = 0 then
    match defsT (cutA xs).1 ((cutA xs).1.length + 2) 0 0 with
    | .ok D _ => (D.map (plD (cutA xs).1), 0, 0)
    | .bad e i => ([], e, plc (cutA xs).1 xs.length i)
  else ([], (cutA xs).2)
theorem retAA {fn : Func} {P : Program} {e : Env} {w : World} {R : Value → World → Prop} {a1 a2 : Tmp} {T1 T2 : TypeId} {d1 d2 : TypeDesc} {s1 bs1 s bs b1 b2 o1 o2 : Nat} {z1 z : Value} {ys xs : List Value} (hr : fn.results = #[.cell a1 T1, .cell a2 T2]) (ht1 : Ty P T1 d1 s1 bs1 z1) (hd1 : isAggD d1 = true) (ht : Ty P T2 d2 s bs z) (hd : isAggD d2 = true)
    (h1 : e a1 = .pointer (some ⟨b1, o1, none⟩)) (h2 : e a2 = .pointer (some ⟨b2, o2, none⟩)) (hc1 : Cells w b1 o1 ys) (hl1 : ys.length = s1) (hc : Cells w b2 o2 xs) (hl : xs.length = s) (h : R (.tuple #[.agg ys.toArray, .agg xs.toArray]) w) : Rt fn P R e w :=
  ⟨fun _ ac ha => ⟨.tuple #[.agg ys.toArray, .agg xs.toArray], by
    have g1 : ac.tmps.getD a1 undef = .pointer (some ⟨b1, o1, none⟩) := by rw [ha.get]; exact h1
    have g2 : ac.tmps.getD a2 undef = .pointer (some ⟨b2, o2, none⟩) := by rw [ha.get]; exact h2
    simp only [Array.getD_eq_getD_getElem?] at g1 g2
    simp [results, hr, asAddr, g1, g2, run_loadA ht1 hd1 hc1 hl1, run_loadA ht hd hc hl], h⟩⟩

theorem parse1_panic (b2 b3 : Nat) (e a : Nat) (x y1 y2 : Value) (w0 : World) (hC2 : w0.heap[b2]? = some (.cells #[x] 28 (0, 0))) (hC3 : w0.heap[b3]? = some (.cells #[y1, y2] 49 (0, 0))) : CallsD Try.prog 30 #[.pointer (some ⟨b2, 0, none⟩), .pointer (some ⟨b3, 0, none⟩)] (.panicking [pan e a]) w0 (fun en u2 w' => match en with | .returned _ => u2 = .panicking [{ pan e a with recovered := true }] ∧ (w'.heap[b2]? = some (.cells #[.slice none 0 0] 28 (0, 0)) ∧ w'.heap[b3]? = some (.cells #[.int .i64 (e : Int), .int .i64 (a : Int)] 49 (0, 0)) ∧ Only (fun k => k = b2 ∨ k = b3) w0 w') | _ => False) := by
  refine calls_recover (l := [.pointer (some ⟨b2, 0, none⟩), .pointer (some ⟨b3, 0, none⟩)]) Try.func30 Try.ntmps30 rfl rfl rfl (.inl ⟨[], rfl, rfl⟩) ?_
  have hne : ¬ b2 = b3 := fun he => by subst he; rw [hC2] at hC3; cases hC3
  have hb2 := (Array.getElem?_eq_some_iff.1 hC2).1
  have hb3 := (Array.getElem?_eq_some_iff.1 hC3).1
  have hq : Only (fun k => k = b2 ∨ k = b3) w0 w0 := Only.refl _ _
  refine W.block ?_
  refine W.seq ?_
  refine W.region ?_
  refine WL.c rfl (o_eqIN Try.underlying20 rfl rfl ?_)
  refine WL.nil ?_
  refine W.condF' rfl (rfl) ?_
  refine W.seq ?_
  refine W.region ?_
  refine WL.c rfl (o_taT TI74 rfl (show _ = Value.iface 74 (.agg #[.int .i64 (e : Int), .int .i64 (a : Int)]) from rfl) ?_)
  refine WL.c rfl (o_ext rfl rfl ?_)
  refine WL.c rfl (o_ext rfl rfl ?_)
  refine WL.nil ?_
  refine W.condT' rfl (rfl) ?_
  refine W.seq ?_
  refine W.region ?_
  refine WL.c rfl (o_alB TI74 ?_)
  intro w3 hC hx3 hs3
  refine WL.u (o_stA TI74 rfl (show _ = Value.agg #[.int .i64 (e : Int), .int .i64 (a : Int)] from rfl) rfl rfl hC rfl ?_)
  intro w4 hC4 ho4 hs4
  have hxb := Ext.own hx3 (Nat.le_refl _) ho4
  obtain ⟨c4, hc4⟩ : ∃ c, c = w0.heap.size := ⟨_, rfl⟩
  rw [← hc4] at hC4 ⊢
  clear hC ho4
  replace hC2 := hxb.blk hC2 (fun h => h)
  replace hC3 := hxb.blk hC3 (fun h => h)
  replace hq := hq.ext hxb
  refine WL.nil ?_
  refine W.cut (fun e1 w1 => w1.heap[b2]? = some (.cells #[.slice none 0 0] 28 (0, 0)) ∧ w1.heap[b3]? = some (.cells #[.int .i64 (e : Int), .int .i64 (a : Int)] 49 (0, 0)) ∧ Only (fun k => k = b2 ∨ k = b3) w0 w1) ?_ ?_
  · -- region 7
    refine W.enum rfl ?_
    have hd := Only.drew w4
    replace hC2 := hd.blk hC2 (fun h => h)
    replace hC3 := hd.blk hC3 (fun h => h)
    replace hC4 := hd.blk hC4 (fun h => h)
    replace hq := hq.ext hd
    clear hd
    generalize w4.drew = wd at *
    refine WA.step (r := [0, 1]) (by kernel_rfl) (by decide) (all2 ?_ ?_)
    · skip
      refine WO.c rfl rfl (o_bldC (cs := [(.slice none 0 0)]) TI28 (Sizes.cons TI26 Sizes.nil) rfl lnp rfl rfl ?_)
      refine WA.step (r := [1, 3]) (by kernel_rfl) (by decide) (all2 ?_ ?_)
      · skip
        refine WO.c rfl rfl (o_fa 0 TI74 rfl TI49 rfl rfl ?_)
        refine WA.step (r := [2, 3]) (by kernel_rfl) (by decide) (all2 ?_ ?_)
        · skip
          refine WO.c rfl rfl (o_ldA TI49 rfl rfl (show Cells _ c4 0 [.int .i64 (e : Int), .int .i64 (a : Int)] from Cells.of hC4 0 _ (by simp)) rfl ?_)
          refine WA.step (r := [3]) (by kernel_rfl) (by decide) (all1 ?_)
          refine WO.u rfl (o_stA TI28 rfl (show _ = Value.agg #[.slice none 0 0] from rfl) rfl rfl hC2 rfl ?_)
          intro wx hB ho hs
          replace hC2 := hB
          replace hC3 := ho.blk hC3 (fun he => hne he.symm)
          replace hC4 := ho.blk hC4 (show ¬ c4 = b2 by omega)
          replace hq := hq.trans (ho.mono (fun _ _ h => .inl h))
          refine WA.step (r := [4]) (by kernel_rfl) (by decide) (all1 ?_)
          refine WO.u rfl (o_stA TI49 rfl (show _ = Value.agg #[.int .i64 (e : Int), .int .i64 (a : Int)] from rfl) rfl rfl hC3 rfl ?_)
          intro wy hB1 ho1 hs1
          replace hC3 := hB1
          replace hC2 := ho1.blk hC2 hne
          replace hq := hq.trans (ho1.mono (fun _ _ h => .inr h))
          refine WA.done (by kernel_rfl) ?_
          exact ⟨hC2, hC3, hq⟩
        · skip
          refine WO.u rfl (o_stA TI28 rfl (show _ = Value.agg #[.slice none 0 0] from rfl) rfl rfl hC2 rfl ?_)
          intro wx hB ho hs
          replace hC2 := hB
          replace hC3 := ho.blk hC3 (fun he => hne he.symm)
          replace hC4 := ho.blk hC4 (show ¬ c4 = b2 by omega)
          replace hq := hq.trans (ho.mono (fun _ _ h => .inl h))
          refine WA.step (r := [2]) (by kernel_rfl) (by decide) (all1 ?_)
          refine WO.c rfl rfl (o_ldA TI49 rfl rfl (show Cells _ c4 0 [.int .i64 (e : Int), .int .i64 (a : Int)] from Cells.of hC4 0 _ (by simp)) rfl ?_)
          refine WA.step (r := [4]) (by kernel_rfl) (by decide) (all1 ?_)
          refine WO.u rfl (o_stA TI49 rfl (show _ = Value.agg #[.int .i64 (e : Int), .int .i64 (a : Int)] from rfl) rfl rfl hC3 rfl ?_)
          intro wy hB1 ho1 hs1
          replace hC3 := hB1
          replace hC2 := ho1.blk hC2 hne
          replace hq := hq.trans (ho1.mono (fun _ _ h => .inr h))
          refine WA.done (by kernel_rfl) ?_
          exact ⟨hC2, hC3, hq⟩
      · skip
        refine WO.u rfl (o_stA TI28 rfl (show _ = Value.agg #[.slice none 0 0] from rfl) rfl rfl hC2 rfl ?_)
        intro wx hB ho hs
        replace hC2 := hB
        replace hC3 := ho.blk hC3 (fun he => hne he.symm)
        replace hC4 := ho.blk hC4 (show ¬ c4 = b2 by omega)
        replace hq := hq.trans (ho.mono (fun _ _ h => .inl h))
        refine WA.step (r := [1]) (by kernel_rfl) (by decide) (all1 ?_)
        refine WO.c rfl rfl (o_fa 0 TI74 rfl TI49 rfl rfl ?_)
        refine WA.step (r := [2]) (by kernel_rfl) (by decide) (all1 ?_)
        refine WO.c rfl rfl (o_ldA TI49 rfl rfl (show Cells _ c4 0 [.int .i64 (e : Int), .int .i64 (a : Int)] from Cells.of hC4 0 _ (by simp)) rfl ?_)
        refine WA.step (r := [4]) (by kernel_rfl) (by decide) (all1 ?_)
        refine WO.u rfl (o_stA TI49 rfl (show _ = Value.agg #[.int .i64 (e : Int), .int .i64 (a : Int)] from rfl) rfl rfl hC3 rfl ?_)
        intro wy hB1 ho1 hs1
        replace hC3 := hB1
        replace hC2 := ho1.blk hC2 hne
        replace hq := hq.trans (ho1.mono (fun _ _ h => .inr h))
        refine WA.done (by kernel_rfl) ?_
        exact ⟨hC2, hC3, hq⟩
    · skip
      refine WO.c rfl rfl (o_fa 0 TI74 rfl TI49 rfl rfl ?_)
      refine WA.step (r := [0, 2]) (by kernel_rfl) (by decide) (all2 ?_ ?_)
      · skip
        refine WO.c rfl rfl (o_bldC (cs := [(.slice none 0 0)]) TI28 (Sizes.cons TI26 Sizes.nil) rfl lnp rfl rfl ?_)
        refine WA.step (r := [2, 3]) (by kernel_rfl) (by decide) (all2 ?_ ?_)
        · skip
          refine WO.c rfl rfl (o_ldA TI49 rfl rfl (show Cells _ c4 0 [.int .i64 (e : Int), .int .i64 (a : Int)] from Cells.of hC4 0 _ (by simp)) rfl ?_)
          refine WA.step (r := [3]) (by kernel_rfl) (by decide) (all1 ?_)
          refine WO.u rfl (o_stA TI28 rfl (show _ = Value.agg #[.slice none 0 0] from rfl) rfl rfl hC2 rfl ?_)
          intro wx hB ho hs
          replace hC2 := hB
          replace hC3 := ho.blk hC3 (fun he => hne he.symm)
          replace hC4 := ho.blk hC4 (show ¬ c4 = b2 by omega)
          replace hq := hq.trans (ho.mono (fun _ _ h => .inl h))
          refine WA.step (r := [4]) (by kernel_rfl) (by decide) (all1 ?_)
          refine WO.u rfl (o_stA TI49 rfl (show _ = Value.agg #[.int .i64 (e : Int), .int .i64 (a : Int)] from rfl) rfl rfl hC3 rfl ?_)
          intro wy hB1 ho1 hs1
          replace hC3 := hB1
          replace hC2 := ho1.blk hC2 hne
          replace hq := hq.trans (ho1.mono (fun _ _ h => .inr h))
          refine WA.done (by kernel_rfl) ?_
          exact ⟨hC2, hC3, hq⟩
        · skip
          refine WO.u rfl (o_stA TI28 rfl (show _ = Value.agg #[.slice none 0 0] from rfl) rfl rfl hC2 rfl ?_)
          intro wx hB ho hs
          replace hC2 := hB
          replace hC3 := ho.blk hC3 (fun he => hne he.symm)
          replace hC4 := ho.blk hC4 (show ¬ c4 = b2 by omega)
          replace hq := hq.trans (ho.mono (fun _ _ h => .inl h))
          refine WA.step (r := [2]) (by kernel_rfl) (by decide) (all1 ?_)
          refine WO.c rfl rfl (o_ldA TI49 rfl rfl (show Cells _ c4 0 [.int .i64 (e : Int), .int .i64 (a : Int)] from Cells.of hC4 0 _ (by simp)) rfl ?_)
          refine WA.step (r := [4]) (by kernel_rfl) (by decide) (all1 ?_)
          refine WO.u rfl (o_stA TI49 rfl (show _ = Value.agg #[.int .i64 (e : Int), .int .i64 (a : Int)] from rfl) rfl rfl hC3 rfl ?_)
          intro wy hB1 ho1 hs1
          replace hC3 := hB1
          replace hC2 := ho1.blk hC2 hne
          replace hq := hq.trans (ho1.mono (fun _ _ h => .inr h))
          refine WA.done (by kernel_rfl) ?_
          exact ⟨hC2, hC3, hq⟩
      · skip
        refine WO.c rfl rfl (o_ldA TI49 rfl rfl (show Cells _ c4 0 [.int .i64 (e : Int), .int .i64 (a : Int)] from Cells.of hC4 0 _ (by simp)) rfl ?_)
        refine WA.step (r := [0]) (by kernel_rfl) (by decide) (all1 ?_)
        refine WO.c rfl rfl (o_bldC (cs := [(.slice none 0 0)]) TI28 (Sizes.cons TI26 Sizes.nil) rfl lnp rfl rfl ?_)
        refine WA.step (r := [3]) (by kernel_rfl) (by decide) (all1 ?_)
        refine WO.u rfl (o_stA TI28 rfl (show _ = Value.agg #[.slice none 0 0] from rfl) rfl rfl hC2 rfl ?_)
        intro wx hB ho hs
        replace hC2 := hB
        replace hC3 := ho.blk hC3 (fun he => hne he.symm)
        replace hC4 := ho.blk hC4 (show ¬ c4 = b2 by omega)
        replace hq := hq.trans (ho.mono (fun _ _ h => .inl h))
        refine WA.step (r := [4]) (by kernel_rfl) (by decide) (all1 ?_)
        refine WO.u rfl (o_stA TI49 rfl (show _ = Value.agg #[.int .i64 (e : Int), .int .i64 (a : Int)] from rfl) rfl rfl hC3 rfl ?_)
        intro wy hB1 ho1 hs1
        replace hC3 := hB1
        replace hC2 := ho1.blk hC2 hne
        replace hq := hq.trans (ho1.mono (fun _ _ h => .inr h))
        refine WA.done (by kernel_rfl) ?_
        exact ⟨hC2, hC3, hq⟩
  rintro e w hfin
  exact ret0 rfl hfin
theorem parse1_ret (b2 b3 : Nat) (w0 : World) : CallsD Try.prog 30 #[.pointer (some ⟨b2, 0, none⟩), .pointer (some ⟨b3, 0, none⟩)] .returning w0 (fun en u2 w' => match en with | .returned _ => u2 = .returning ∧ w' = w0 | _ => False) := by
  refine calls_recover (R := fun w' => w' = w0) (l := [.pointer (some ⟨b2, 0, none⟩), .pointer (some ⟨b3, 0, none⟩)]) Try.func30 Try.ntmps30 rfl rfl rfl (.inr ⟨rfl, rfl, rfl⟩) ?_
  refine W.block ?_
  refine W.seq ?_
  refine W.region ?_
  refine WL.c rfl (o_eqNN Try.underlying20 rfl ?_)
  refine WL.nil ?_
  refine W.condT' rfl (rfl) ?_
  refine W.region ?_
  refine WL.c rfl (o_as ?_)
  refine WL.nil ?_
  exact ret0 rfl rfl
end Go.Proofs.Ytcljkkfpcomdcaa
