/-
  Walks. Written by program out of specs of mine.
-/
import Derived.Test.YtdiaeafjjffjmaaE
set_option linter.unusedSimpArgs false
set_option linter.unusedVariables false
set_option maxRecDepth 100000
namespace Go.Proofs.Ytdiaeafjjffjmaa
open Go Go.Vc Go.RowKit Go.Proofs
theorem pop_spec (H p most high : Nat) (L : List Fr) (lv : Value) (V : Nat → Value) (w0 : World) (h : Stk w0 H p most high L lv V) : Ca Try.prog 14 #[.pointer (some ⟨p, 0, none⟩)] w0 (fun v w' => ∃ tv, v = .tuple #[.agg (fcells (topF L) tv).toArray, .int .i64 (emptyE L)] ∧ Clipd w' H tv (topF L).tab ∧ ∃ lv' V', Turn w0 w' H p most high L lv V high (L.take (L.length - 1)) lv' V' ∧ ∀ k, tv.ownBlock = some k → RF lv V L.length k ∧ ¬ SF p lv' V' (L.length - 1) k) := by
  have h00 := h
  refine Ca.of Try.func14 Try.ntmps14 rfl rfl ?_
  refine W.seq ?_
  refine W.region ?_
  refine WL.c rfl (o_alB TI39 ?_)
  intro w2 hC2 hx2 hs2
  replace h := h.ext hx2
  refine WL.c rfl (o_as ?_)
  refine WL.nil ?_
  refine W.seq ?_
  refine W.region ?_
  refine WL.c rfl (o_mv ?_)
  refine WL.c rfl (o_call Try.call34 (lc rfl ln) ((last_spec H p most high L lv V _ h).mono ?_))
  rintro v7 w7 ⟨rfl, mq, rfl⟩
  replace h := h.ext (Only.drewN w2 mq)
  replace hC2 := (Only.drewN w2 mq).blk hC2 (fun h => h)
  have hxq := hx2.tr (Only.drewN w2 mq)
  generalize w2.drewN mq = wq at *
  refine WL.c rfl (o_as ?_)
  refine WL.nil ?_
  refine W.seq ?_
  refine W.seq ?_
  rcases Nat.eq_zero_or_pos L.length with h0 | h0
  · skip
    have hl0 : lastP lv L.length = none := by unfold lastP; split <;> simp [h0]
    rw [hl0]
    refine W.region ?_
    refine WL.c rfl (o_mv ?_)
    refine WL.c rfl (o_eqN (p := none) TI77 rfl rfl ?_)
    refine WL.nil ?_
    refine W.condT' rfl (rfl) ?_
    refine W.seq ?_
    refine W.region ?_
    refine WL.c rfl (o_bldC (cs := [(.int .i64 0), (.int .i64 0), (.int .i64 0), (.int .i64 0), (.int .i64 0), (.int .i64 0), (.slice none 0 0)]) TI39 (Sizes.cons TI3 (Sizes.cons TI3 (Sizes.cons TI3 (Sizes.cons TI3 (Sizes.cons TI3 (Sizes.cons TI3 (Sizes.cons TI37 Sizes.nil))))))) rfl lnp rfl rfl ?_)
    refine WL.u (o_stA TI39 rfl rfl rfl rfl hC2 rfl ?_)
    intro w9 hB9 ho9 hs9
    refine WL.c rfl (o_as ?_)
    refine WL.nil ?_
    refine W.ret ?_
    refine retCT rfl TI39 rfl (show _ = Value.int _ _ from rfl) rfl (show Cells w9 w0.heap.size 0 (fcells Fr.nil (.slice none 0 0)) from Cells.of hB9 0 _ (by simp [fcells, Fr.nil])) rfl ?_
    rw [topF_nil h0, emptyE, if_pos h0, List.length_eq_zero_iff.1 h0]
    rw [List.length_eq_zero_iff.1 h0] at h00
    exact ⟨.slice none 0 0, rfl, ⟨none, 0, rfl, World.ownsRow_nil _ _ _ _⟩, lv, V, Turn.same h00 (hxq.trans' ho9 (fun _ h => h) (fun j hj he => by omega)), fun k hk => by cases hk⟩
  · skip
    obtain ⟨g, cap, rfl, hb, hcs⟩ := h.rows.at (k := L.length - 1) (by omega)
    have hl0 : lastP (.slice (some ⟨g, 0, none⟩) L.length cap) L.length = some ⟨g, (L.length - 1) * 7, none⟩ := by unfold lastP; simp only []; rw [if_neg (by omega)]
    rw [hl0]
    obtain ⟨T, hT⟩ : ∃ T, T = L.getD (L.length - 1) Fr.nil := ⟨_, rfl⟩
    rw [← hT] at hcs
    have htab := h.rows.tab (k := L.length - 1) (by omega)
    rw [tabl, ← hT] at htab
    obtain ⟨tv, htv⟩ : ∃ tv, tv = V (L.length - 1) := ⟨_, rfl⟩
    rw [← htv] at hcs htab
    refine W.region ?_
    refine WL.c rfl (o_mv ?_)
    refine WL.c rfl (o_eqN (p := some ⟨g, (L.length - 1) * 7, none⟩) TI77 rfl rfl ?_)
    refine WL.nil ?_
    refine W.condF' rfl (rfl) ?_
    refine W.skip ?_
    refine W.seq ?_
    have hrow : wq.ownsRow H 3 1 tv T.tab.length (ints T.tab) := by have := h.rows.tabs.row (L.length - 1) (by omega); rw [tabl, ← hT, ← htv] at this; exact this
    obtain ⟨ta, tc, rfl, htc⟩ := own_form hrow
    refine W.region ?_
    refine WL.c rfl (o_mv ?_)
    refine WL.c rfl (o_nil rfl ?_)
    refine WL.c rfl (o_ldA TI39 rfl rfl hcs rfl ?_)
    refine WL.c rfl (o_alB TI39 ?_)
    intro w5 hC5 hx5 hs5
    have hne : w0.heap.size < wq.heap.size := (Array.getElem?_eq_some_iff.1 hC2).1
    replace hC2 := hx5.blk hC2 (fun h => h)
    replace h := h.ext hx5
    refine WL.u (o_stA TI39 rfl (show _ = Value.agg (fcells T (.slice ta T.tab.length tc)).toArray from rfl) rfl (fcells_one rfl) hC5 rfl ?_)
    intro w6 hB6 ho6 hs6
    replace hC2 := ho6.blk hC2 (show ¬ w0.heap.size = wq.heap.size by omega)
    replace h := h.only ho6 (fun k hk he => by have := (h00.lt k hk).2; omega)
    have hcell := h.cell
    have hx6 : Ext w0 w6 := (hxq.tr hx5).trans' ho6 (fun _ h => h) (fun j hj he => by omega)
    refine WL.nil ?_
    refine W.seq ?_
    refine W.tail 12 rfl (by kernel_rfl) ?_
    refine WS.c rfl ((SO.o rfl (o_mv ⟨rfl, rfl⟩))) ?_
    refine WS.c rfl ((SO.r (r_nil rfl))) ?_
    refine WS.c rfl ((SO.o rfl (o_fa 2 TI71 rfl TI22 rfl rfl ⟨rfl, rfl⟩))) ?_
    refine WS.c rfl ((SO.o rfl (o_ld TI22 rfl rfl (cell_of hcell rfl) ⟨rfl, rfl⟩))) ?_
    refine WS.c rfl ((SO.o rfl (o_mv ⟨rfl, rfl⟩))) ?_
    refine WS.c rfl ((SO.r (r_nil rfl))) ?_
    refine WS.c rfl ((SO.o rfl (o_fa 2 TI71 rfl TI22 rfl rfl ⟨rfl, rfl⟩))) ?_
    refine WS.c rfl ((SO.o rfl (o_ld TI22 rfl rfl (cell_of hcell rfl) ⟨rfl, rfl⟩))) ?_
    refine WS.c rfl ((SO.r (r_len TI22 rfl))) ?_
    refine WS.c rfl ((SO.o rfl (o_subi rfl rfl (by have := h.len; have := h.mb; omega) ⟨rfl, rfl⟩))) ?_
    refine WS.c rfl ((SO.o rfl (o_bldC (cs := [(.int .i64 0), (.int .i64 0), (.int .i64 0), (.int .i64 0), (.int .i64 0), (.int .i64 0), (.slice none 0 0)]) TI39 (Sizes.cons TI3 (Sizes.cons TI3 (Sizes.cons TI3 (Sizes.cons TI3 (Sizes.cons TI3 (Sizes.cons TI3 (Sizes.cons TI37 Sizes.nil))))))) rfl lnp rfl rfl ⟨rfl, rfl⟩))) ?_
    refine WS.c rfl ((SO.o rfl (o_ixB (i := L.length - 1) TI22 TI39 rfl (by show Value.int _ ((L.length : Int) - 1) = _; congr 1; omega) (by omega) ⟨rfl, rfl⟩))) ?_
    refine WS.nil ?_
    replace h := h.ext (Only.drew w6)
    replace hB6 : w6.drew.heap[wq.heap.size]? = _ := hB6
    replace hC2 : w6.drew.heap[w0.heap.size]? = _ := hC2
    replace hx6 := hx6.tr (Only.drew w6)
    replace hrow := own_only hrow ((hx5.trans' ho6 (fun _ h => h) (fun j hj he => by omega)).tr (Only.drew w6)) (fun _ _ h => h)
    replace hs6 : w6.drew.heap.size = w5.heap.size := hs6
    generalize w6.drew = wd at *
    refine WL.u (o_stRA TI39 rfl (Nat.zero_add _) (show _ = Value.agg (fcells Fr.nil (.slice none 0 0)).toArray from rfl) rfl rfl h.rows.row hb (show L.length - 1 < L.length by omega) ?_)
    intro w8 hr8 ho8 hs8
    have hr8' := own_take hr8 (show L.length - 1 ≤ L.length by omega)
    have hrow8 : w8.ownsRow H 3 1 (.slice ta T.tab.length tc) T.tab.length (ints T.tab) := own_only hrow ho8 (own_row_off h.rows.row hrow (by decide))
    rw [List.append_assoc, List.take_append_of_le_length (by rw [List.length_take, frows_len]; omega), List.take_take, Nat.min_self, frows_take (by omega)] at hr8'
    have hm8 := h.rows.tabs.only ho8 (fun j hj => own_row_off h.rows.row (h.rows.tabs.row j hj) (by decide))
    have hcell8 := ho8.blk h.cell (fun hk => h.p_off (.inl hk))
    replace hB6 := ho8.blk hB6 (fun hk => by have := (h00.lt _ (.inr (.inl hk))).2; omega)
    replace hC2 := ho8.blk hC2 (fun hk => by have := (h00.lt _ (.inr (.inl hk))).2; omega)
    refine WL.nil ?_
    refine W.seq ?_
    refine W.tail 14 rfl (by kernel_rfl) ?_
    refine WS.c rfl ((SO.o rfl (o_mv ⟨rfl, rfl⟩))) ?_
    refine WS.c rfl ((SO.o rfl (o_mv ⟨rfl, rfl⟩))) ?_
    refine WS.c rfl ((SO.r (r_nil rfl))) ?_
    refine WS.c rfl ((SO.o rfl (o_fa 2 TI71 rfl TI22 rfl rfl ⟨rfl, rfl⟩))) ?_
    refine WS.c rfl ((SO.o rfl (o_ld TI22 rfl rfl (cell_of hcell8 rfl) ⟨rfl, rfl⟩))) ?_
    refine WS.c rfl ((SO.o rfl (o_mv ⟨rfl, rfl⟩))) ?_
    refine WS.c rfl ((SO.r (r_nil rfl))) ?_
    refine WS.c rfl ((SO.o rfl (o_fa 2 TI71 rfl TI22 rfl rfl ⟨rfl, rfl⟩))) ?_
    refine WS.c rfl ((SO.o rfl (o_ld TI22 rfl rfl (cell_of hcell8 rfl) ⟨rfl, rfl⟩))) ?_
    refine WS.c rfl ((SO.r (r_len TI22 rfl))) ?_
    refine WS.c rfl ((SO.o rfl (o_subi rfl rfl (by have := h.len; have := h.mb; omega) ⟨rfl, rfl⟩))) ?_
    refine WS.c rfl ((SO.o rfl (o_slv (h := L.length - 1) TI22 TI39 rfl Lo.n (Hi.s (by show Value.int .i64 ((L.length : Int) - 1) = _; congr 1; omega)) (Nat.zero_le _) (show _ ≤ cap by obtain ⟨_, _, hv, _, _, hnc, _⟩ := own_blk h.rows.row hb; simp only [Value.slice.injEq] at hv; omega) ⟨rfl, (sliced0 _ _ _ _).symm⟩))) ?_
    refine WS.c rfl ((SO.r (r_nil rfl))) ?_
    refine WS.c rfl ((SO.o rfl (o_fa 2 TI71 rfl TI22 rfl rfl ⟨rfl, rfl⟩))) ?_
    refine WS.nil ?_
    refine WL.u (o_stB TI22 rfl (show _ = Value.slice (some ⟨g, 0, none⟩) (L.length - 1) cap from rfl) rfl hcell8 (show 2 < 3 by decide) ?_)
    intro w10 hB10 ho10 hs10
    replace ho10 : Only (fun k => k = p) w8 w10 := (Only.drew w8).trans' ho10 (fun _ hF => hF.elim) (fun _ _ h => h)
    replace hB10 : w10.heap[p]? = some (.cells #[.int .i64 (most : Int), .int .i64 (high : Int), .slice (some ⟨g, 0, none⟩) (L.length - 1) cap] 71 (0, 0)) := hB10
    have hp0 := (h00.lt p (.inl rfl)).2
    have hr10 := own_only hr8' ho10 (fun k hk he => by subst he; exact own_off hr8' hcell8 (by decide) hk)
    have hrow10 := own_only hrow8 ho10 (fun k hk he => by subst he; exact own_off hrow8 hcell8 (by decide) hk)
    have hm10 := hm8.only ho10 (fun j hj k hk he => by subst he; exact own_off (hm8.row j hj) hcell8 (by decide) hk)
    replace hB6 := ho10.blk hB6 (show ¬ wq.heap.size = p by omega)
    replace hC2 := ho10.blk hC2 (show ¬ w0.heap.size = p by omega)
    refine WL.nil ?_
    refine W.seq ?_
    refine W.region ?_
    refine WL.c rfl (o_fa 6 TI39 rfl TI37 rfl rfl ?_)
    refine WL.c rfl (o_ld TI37 rfl rfl (cell_of hB6 rfl) ?_)
    refine WL.c rfl (o_call Try.call35 (lc rfl ln) ((clip_spec ta T.tab.length tc _ htc).mono ?_))
    rintro v42 w42 ⟨rfl, rfl⟩
    refine WL.c rfl (o_fa 6 TI39 rfl TI37 rfl rfl ?_)
    refine WL.u (o_stB TI37 rfl (show _ = Value.slice ta T.tab.length T.tab.length from rfl) rfl hB6 (show 6 < 7 by decide) ?_)
    intro w11 hB11 ho11 hs11
    replace hB11 : w11.heap[wq.heap.size]? = some (.cells (fcells T (.slice ta T.tab.length T.tab.length)).toArray 39 (0, 0)) := hB11
    replace hC2 := ho11.blk hC2 (show ¬ w0.heap.size = wq.heap.size by omega)
    refine WL.nil ?_
    refine W.seq ?_
    refine W.region ?_
    refine WL.c rfl (o_ldA TI39 rfl rfl (show Cells w11 wq.heap.size 0 (fcells T (.slice ta T.tab.length T.tab.length)) from Cells.of hB11 0 _ (by simp)) rfl ?_)
    refine WL.u (o_stA TI39 rfl (show _ = Value.agg (fcells T (.slice ta T.tab.length T.tab.length)).toArray from rfl) rfl (fcells_one rfl) hC2 rfl ?_)
    intro w12 hB12 ho12 hs12
    refine WL.c rfl (o_as ?_)
    refine WL.nil ?_
    refine W.ret ?_
    refine retCT rfl TI39 rfl (show _ = Value.int _ _ from rfl) rfl (show Cells w12 w0.heap.size 0 (fcells T (.slice ta T.tab.length T.tab.length)) from Cells.of hB12 0 _ (by simp)) rfl ?_
    have hT' : topF L = T := hT.symm
    rw [hT', emptyE, if_neg (show ¬ L.length = 0 by omega)]
    have hn12 : ∀ k, (k = wq.heap.size ∨ k = w0.heap.size) → w0.heap.size ≤ k := fun k hk => by omega
    have hl1 : (L.take (L.length - 1)).length = L.length - 1 := by rw [List.length_take]; omega
    have e1 : ∀ j, j < L.length - 1 → tabl (L.take (L.length - 1)) j = tabl L j := fun j hj => by simp only [tabl, List.getD_eq_getElem?_getD, List.getElem?_take, if_pos hj]
    have hoN : Only (fun k => k = wq.heap.size ∨ k = w0.heap.size) w42 w12 := (ho11.mono (fun _ _ h => .inl h)).trans' ho12 (fun _ h => h) (fun _ _ h => .inr h)
    have hSF : ∀ k, SF p (.slice (some ⟨g, 0, none⟩) L.length cap) V L.length k → ¬ (k = wq.heap.size ∨ k = w0.heap.size) := fun k hk he => by have := (h00.lt k hk).2; have := hn12 k he; omega
    have htvk : ∀ k, (Value.slice ta T.tab.length tc).ownBlock = some k → (V (L.length - 1)).ownBlock = some k := fun k hk => by rw [← htv]; exact hk
    refine ⟨.slice ta T.tab.length T.tab.length, rfl, ⟨ta, tc, rfl, own_only hrow10 hoN (fun k hk => hSF k (.inr (.inr ⟨L.length - 1, by omega, htvk k hk⟩)))⟩, .slice (some ⟨g, 0, none⟩) (L.length - 1) cap, V, ⟨⟨hoN.blk hB10 (hSF p (.inl rfl)), ⟨?_, ?_⟩, h.lo, h.mb, by rw [hl1]; have := h.len; omega, fun k hk => by rw [hl1] at hk; rw [e1 k hk]; exact h.tl k (by omega)⟩, ?_, fun k hk => ?_⟩, fun k hk => ⟨.inr ⟨L.length - 1, by omega, htvk k (by cases ta <;> exact hk)⟩, ?_⟩⟩
    · rw [hl1]
      exact own_only hr10 hoN (fun k hk => hSF k (.inr (.inl hk)))
    · rw [hl1]
      have hm12 := hm10.only hoN (fun j hj k hk => hSF k (.inr (.inr ⟨j, hj, hk⟩)))
      exact ⟨fun j hj => by rw [e1 j hj]; exact hm12.row j (by omega), fun i j hi hj => hm12.off i j (by omega) (by omega)⟩
    · exact (((hx6.trans' (H := SF p (.slice (some ⟨g, 0, none⟩) L.length cap) V L.length) ho8 (fun _ h => h.elim) (fun k _ hk => .inr (.inl hk))).trans' ho10 (fun _ h => h) (fun k _ hk => .inl hk)).trans' hoN (fun _ h => h) (fun k hk he => by have := hn12 k he; omega))
    · rw [hl1] at hk
      rcases hk with rfl | hk | ⟨j, hj, hk⟩
      · exact .inl (.inl rfl)
      · exact .inl (.inr (.inl hk))
      · exact .inl (.inr (.inr ⟨j, by omega, hk⟩))
    · have hk' : (Value.slice ta T.tab.length tc).ownBlock = some k := by cases ta <;> exact hk
      rintro (rfl | hF | ⟨j, hj, hF⟩)
      · exact own_off hrow8 hcell8 (by decide) hk'
      · exact own_row_off h.rows.row hrow (by decide) k hk' hF
      · exact h.rows.tabs.off j (L.length - 1) (by omega) (by omega) (by omega) k hF (htvk k hk')
end Go.Proofs.Ytdiaeafjjffjmaa
