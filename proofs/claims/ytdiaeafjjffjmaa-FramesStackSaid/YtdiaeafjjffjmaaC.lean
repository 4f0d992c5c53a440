/-
  Walks. Written by program out of specs of mine.
-/
import Derived.Test.YtdiaeafjjffjmaaB
import Derived.Test.YtdiaeafjjffjmaaDrawc
set_option linter.unusedSimpArgs false
set_option linter.unusedVariables false
set_option maxRecDepth 100000
namespace Go.Proofs.Ytdiaeafjjffjmaa
open Go Go.Vc Go.RowKit Go.Proofs
theorem top_spec (H p most high : Nat) (L : List Fr) (lv : Value) (V : Nat → Value) (w0 : World) (h : Stk w0 H p most high L lv V) : Ca Try.prog 19 #[.pointer (some ⟨p, 0, none⟩)] w0 (fun v w' => ∃ tv, v = .tuple #[.agg (fcells (topF L) tv).toArray, .int .i64 (emptyE L)] ∧ w'.ownsRow w0.heap.size 3 1 tv (topF L).tab.length (ints (topF L).tab) ∧ Ext w0 w') := by
  refine Ca.of Try.func19 Try.ntmps19 rfl rfl ?_
  refine W.seq ?_
  refine W.region ?_
  refine WL.c rfl (o_alB TI39 ?_)
  intro w2 hC2 hx2 hs2
  have h2 := h.ext hx2
  refine WL.c rfl (o_as ?_)
  refine WL.nil ?_
  refine W.seq ?_
  refine W.region ?_
  refine WL.c rfl (o_mv ?_)
  refine WL.c rfl (o_call Try.call34 (lc rfl ln) ((last_spec H p most high L lv V _ h2).mono ?_))
  rintro v6 w6 ⟨rfl, mq, rfl⟩
  replace h := h2.ext (Only.drewN w2 mq)
  replace hC2 := (Only.drewN w2 mq).blk hC2 (fun h => h)
  have hxq := hx2.tr (Only.drewN w2 mq)
  generalize w2.drewN mq = wq at *
  refine WL.c rfl (o_as ?_)
  refine WL.nil ?_
  refine W.seq ?_
  refine W.seq ?_
  rcases Nat.eq_zero_or_pos L.length with h0 | h0
  · skip
    have hl0 : lastP lv L.length = none := by unfold lastP; split <;> simp [h0]
    rw [hl0]
    refine W.region ?_
    refine WL.c rfl (o_mv ?_)
    refine WL.c rfl (o_eqN (p := none) TI77 rfl rfl ?_)
    refine WL.nil ?_
    refine W.condT' rfl (rfl) ?_
    refine W.seq ?_
    refine W.region ?_
    refine WL.c rfl (o_bldC (cs := [(.int .i64 0), (.int .i64 0), (.int .i64 0), (.int .i64 0), (.int .i64 0), (.int .i64 0), (.slice none 0 0)]) TI39 (Sizes.cons TI3 (Sizes.cons TI3 (Sizes.cons TI3 (Sizes.cons TI3 (Sizes.cons TI3 (Sizes.cons TI3 (Sizes.cons TI37 Sizes.nil))))))) rfl lnp rfl rfl ?_)
    refine WL.u (o_stA TI39 rfl rfl rfl rfl hC2 rfl ?_)
    intro w9 hB9 ho9 hs9
    refine WL.c rfl (o_as ?_)
    refine WL.nil ?_
    refine W.ret ?_
    refine retCT rfl TI39 rfl (show _ = Value.int _ _ from rfl) rfl (show Cells w9 w0.heap.size 0 (fcells Fr.nil (.slice none 0 0)) from Cells.of hB9 0 _ (by simp [fcells, Fr.nil])) rfl ?_
    refine ⟨.slice none 0 0, ?_, ?_, hxq.trans' ho9 (fun _ h => h) (fun j hj he => by omega)⟩
    · rw [topF_nil h0, emptyE, if_pos h0]
    · rw [topF_nil h0]; exact World.ownsRow_nil _ _ _ _
  · skip
    obtain ⟨g, cap, rfl, hb, hcs⟩ := h.rows.at (k := L.length - 1) (by omega)
    have hl0 : lastP (.slice (some ⟨g, 0, none⟩) L.length cap) L.length = some ⟨g, (L.length - 1) * 7, none⟩ := by unfold lastP; simp only []; rw [if_neg (by omega)]
    rw [hl0]
    obtain ⟨T, hT⟩ : ∃ T, T = L.getD (L.length - 1) Fr.nil := ⟨_, rfl⟩
    rw [← hT] at hcs
    have htab := h.rows.tab (k := L.length - 1) (by omega)
    rw [tabl, ← hT] at htab
    obtain ⟨tv, htv⟩ : ∃ tv, tv = V (L.length - 1) := ⟨_, rfl⟩
    rw [← htv] at hcs htab
    refine W.region ?_
    refine WL.c rfl (o_mv ?_)
    refine WL.c rfl (o_eqN (p := some ⟨g, (L.length - 1) * 7, none⟩) TI77 rfl rfl ?_)
    refine WL.nil ?_
    refine W.condF' rfl (rfl) ?_
    refine W.skip ?_
    refine W.seq ?_
    refine W.region ?_
    refine WL.c rfl (o_mv ?_)
    refine WL.c rfl (o_nil rfl ?_)
    refine WL.c rfl (o_ldA TI39 rfl rfl hcs rfl ?_)
    refine WL.c rfl (o_call Try.call37 (lc rfl ln) ((own_spec T tv _ htab (by have := h.tl (L.length - 1) (by omega); rw [tabl, ← hT] at this; omega)).mono ?_))
    rintro u13 w13 ⟨v13, rfl, hown13, hx13⟩
    have hC2b := hx13.blk hC2 (fun h => h)
    refine WL.u (o_stA TI39 rfl (show _ = Value.agg (fcells T v13).toArray from rfl) rfl (fcells_one (own_one hown13)) hC2b rfl ?_)
    intro w9 hB9 ho9 hs9
    refine WL.c rfl (o_as ?_)
    refine WL.nil ?_
    refine W.ret ?_
    refine retCT rfl TI39 rfl (show _ = Value.int _ _ from rfl) rfl (show Cells w9 w0.heap.size 0 (fcells T v13) from Cells.of hB9 0 _ (by simp [fcells])) rfl ?_
    have hge : w0.heap.size ≤ wq.heap.size := hxq.size
    have hT' : topF L = T := hT.symm
    rw [hT', emptyE, if_neg (show ¬ L.length = 0 by omega)]
    exact ⟨v13, rfl, own_mono (own_only hown13 ho9 (fun k hk he => by subst he; exact own_off hown13 hC2b (by decide) hk)) hge, (hxq.tr hx13).trans' ho9 (fun _ h => h) (fun j hj he => by omega)⟩
theorem push_spec (H p most high : Nat) (L : List Fr) (lv : Value) (V : Nat → Value) (f : Fr) (tv : Value) (w0 : World) (h : Stk w0 H p most high L lv V) (hS : In w0 tv f.tab) (hl : f.tab.length ≤ 16000000000000) : Ca Try.prog 16 #[.pointer (some ⟨p, 0, none⟩), .agg (fcells f tv).toArray] w0 (fun v w' => v = .int .i64 (pushR most high L f).1 ∧ ∃ lv' V', Turn w0 w' H p most high L lv V (pushR most high L f).2.1 (pushR most high L f).2.2 lv' V') := by
  refine Ca.of Try.func16 Try.ntmps16 rfl rfl ?_
  refine W.seq ?_
  refine W.region ?_
  refine WL.c rfl (o_boxB rfl ?_)
  have h00 := h
  intro w3 hC3 hx3 hs3
  replace hC3 : w3.heap[w0.heap.size]? = some (.cells (fcells f tv).toArray 39 (0, 0)) := hC3
  replace h := h.ext hx3
  replace hS := hS.ext hx3
  have hcell := h.cell
  refine WL.c rfl (o_as ?_)
  refine WL.nil ?_
  refine W.seq ?_
  refine W.seq ?_
  refine W.quiet rfl (by kernel_rfl) ?_
  refine WQ.c rfl ((QO.o rfl fun _ => o_mv ⟨rfl, rfl⟩)) ?_
  refine WQ.c rfl ((QO.r fun _ => r_nil rfl)) ?_
  refine WQ.c rfl ((QO.o rfl fun _ => o_fa 2 TI71 rfl TI22 rfl rfl ⟨rfl, rfl⟩)) ?_
  refine WQ.c rfl ((QO.o rfl fun _ => o_ld TI22 rfl rfl (cell_of hcell rfl) ⟨rfl, rfl⟩)) ?_
  refine WQ.c rfl ((QO.r fun _ => r_lenR TI22 rfl (Sl.own h.rows.row))) ?_
  refine WQ.c rfl ((QO.o rfl fun _ => o_mv ⟨rfl, rfl⟩)) ?_
  refine WQ.c rfl ((QO.r fun _ => r_nil rfl)) ?_
  refine WQ.c rfl ((QO.o rfl fun _ => o_fa 0 TI71 rfl TI3 rfl rfl ⟨rfl, rfl⟩)) ?_
  refine WQ.c rfl ((QO.o rfl fun _ => o_ld TI3 rfl rfl (cell_of hcell rfl) ⟨rfl, rfl⟩)) ?_
  refine WQ.c rfl ((QO.o rfl fun _ => o_ge rfl rfl ⟨rfl, rfl⟩)) ?_
  refine WQ.nil ?_
  intro nq
  have hq := Only.drewN w3 nq
  have hxq := hx3.tr hq
  replace h := h.ext hq
  replace hS := hS.ext hq
  replace hC3 := hq.blk hC3 (fun h => h)
  generalize w3.drewN nq = wq at *
  refine W.cond rfl (fun c14 => ?_) (fun c14 => ?_)
  · try simp only [decide_eq_true_eq, decide_eq_false_iff_not, Bool.not_eq_true', Bool.not_eq_false', Bool.and_eq_true, Bool.or_eq_true, Bool.and_eq_false_iff, Bool.or_eq_false_iff] at c14
    refine W.seq ?_
    refine W.region ?_
    refine WL.c rfl (o_as ?_)
    refine WL.nil ?_
    refine W.ret ?_
    refine ret1v rfl (show _ = Value.int _ _ from rfl) ?_
    exact ⟨by rw [pushR, if_pos (by omega)], lv, V, by rw [pushR, if_pos (by omega)]; exact Turn.same h00 hxq⟩
  · try simp only [decide_eq_true_eq, decide_eq_false_iff_not, Bool.not_eq_true', Bool.not_eq_false', Bool.and_eq_true, Bool.or_eq_true, Bool.and_eq_false_iff, Bool.or_eq_false_iff] at c14
    refine W.skip ?_
    refine W.seq ?_
    refine W.seq ?_
    refine W.region ?_
    refine WL.c rfl (o_ldA TI39 rfl rfl (show Cells wq w0.heap.size 0 (fcells f tv) from Cells.of hC3 0 _ (by simp)) rfl ?_)
    refine WL.c rfl (o_call Try.call36 (lc rfl ln) ((whole_spec f tv _ hS (by rw [maxLen_eq]; omega)).mono ?_))
    rintro v16 w16 ⟨rfl, hx16⟩
    have hx := hxq.tr hx16
    replace h := h.ext hx16
    replace hS := hS.ext hx16
    replace hC3 := hx16.blk hC3 (fun h => h)
    have hcell := h.cell
    refine WL.c rfl (o_not' rfl ?_)
    refine WL.nil ?_
    refine W.cond rfl (fun c17 => ?_) (fun c17 => ?_)
    · try simp only [decide_eq_true_eq, decide_eq_false_iff_not, Bool.not_eq_true', Bool.not_eq_false', Bool.and_eq_true, Bool.or_eq_true, Bool.and_eq_false_iff, Bool.or_eq_false_iff] at c17
      refine W.seq ?_
      refine W.region ?_
      refine WL.c rfl (o_as ?_)
      refine WL.nil ?_
      refine W.ret ?_
      refine ret1v rfl (show _ = Value.int _ _ from rfl) ?_
      exact ⟨by rw [pushR, if_neg (by omega), if_neg (by simp_all)], lv, V, by rw [pushR, if_neg (by omega), if_neg (by simp_all)]; exact Turn.same h00 hx⟩
    · try simp only [decide_eq_true_eq, decide_eq_false_iff_not, Bool.not_eq_true', Bool.not_eq_false', Bool.and_eq_true, Bool.or_eq_true, Bool.and_eq_false_iff, Bool.or_eq_false_iff] at c17
      refine W.skip ?_
      refine W.seq ?_
      obtain ⟨wd, hwd⟩ : ∃ wd, wd = w16.drew := ⟨_, rfl⟩
      have hxd : Ext w16 wd := hwd ▸ Only.drew w16
      replace h := h.ext hxd
      replace hS := hS.ext hxd
      replace hC3 := hxd.blk hC3 (fun h => h)
      replace hcell := h.cell
      have hlt : ∀ k, lv.ownBlock = some k → k < wd.heap.size := fun k hk => (h.rows.row.lt k hk).2
      have hltV : ∀ j, j < L.length → ∀ k, (V j).ownBlock = some k → k < wd.heap.size := fun j hj k hk => (h.rows.tabs.lt hj hk).2
      have hoff : ¬ lv.ownBlock = some w0.heap.size := fun hk => by have := (h00.rows.row.lt _ hk).2; omega
      refine W.drawF 9 [6, 8] [No, fun k => lv.ownBlock = some k] [(0, fun v _ => v = _), (3, fun v _ => v = _)] rfl (by kernel_rfl) (by kernel_rfl) ⟨Mono.eq, Mono.eq, trivial⟩ ⟨rfl, rfl, trivial⟩ ?_
      refine WDS.p rfl (by decide) (fun e w hR hh => by obtain ⟨h0, -⟩ := hh; exact SG.n (o_mvh h0 ⟨rfl, Only.refl No _⟩)) ?_
      refine WDS.p rfl (by decide) (fun e w hR hh => by obtain ⟨h0, -⟩ := hh; exact SG.n (o_mvh h0 ⟨rfl, Only.refl No _⟩)) ?_
      refine WDS.p rfl (by decide) (fun e w hR hh => by obtain ⟨h19, -⟩ := hh; exact SG.n (o_nil h19 ⟨rfl, Only.refl No _⟩)) ?_
      refine WDS.p rfl (by decide) (fun e w hR hh => by obtain ⟨h20, -⟩ := hh; exact SG.n (o_fa 2 TI71 rfl TI22 rfl h20 ⟨rfl, Only.refl No _⟩)) ?_
      refine WDS.p rfl (by decide) (fun e w hR hh => by obtain ⟨h21, -⟩ := hh; rw [← hwd] at hR; have hc := hR.blk hcell (fun hF => by rcases hF with hF | hF | hF <;> first | exact hF | exact h.p_off (.inl hF)); exact SG.n (o_ld TI22 rfl h21 (cell_of hc rfl) ⟨rfl, Only.refl No _⟩)) ?_
      refine WDS.p rfl (by decide) (fun e w hR hh => by obtain ⟨h3, -⟩ := hh; rw [← hwd] at hR; have hc := hR.blk hC3 (fun hF => by rcases hF with hF | hF | hF <;> first | exact hF | exact hoff hF); exact SG.n (o_ldA TI39 rfl h3 (show Cells w w0.heap.size 0 (fcells f tv) from Cells.of hc 0 _ (by simp)) rfl ⟨rfl, Only.refl No _⟩)) ?_
      refine WDS.mf 0 1 (fun v w => ∃ u, v = .agg (fcells f u).toArray ∧ w.ownsRow wd.heap.size 3 1 u f.tab.length (ints f.tab)) (fun v w w2 hR hh => by obtain ⟨u, hv, ho⟩ := hh; exact ⟨u, hv, own_only ho hR (fun k hk hF => by rcases hF with hF | hF <;> first | exact hF | (have := hlt k hF; have := (ho.lt k hk).1; omega))⟩) (by kernel_rfl) rfl rfl rfl (fun e w hR hW hh => by obtain ⟨h23, -⟩ := hh; rw [← hwd] at hR hW; have hS2 := hS.ext (show Ext wd w from hW); exact SGX.n (OP.x (o_call Try.call37 (lc h23 ln) ((own_spec f tv w hS2 hl).mono (fun v w' hh => by obtain ⟨u, h1, h2, h3⟩ := hh; exact ⟨⟨u, h1, own_mono h2 hW.size⟩, h3⟩))))) ?_
      refine WDS.q 1 (fun v w => ∃ u, w.ownsRow wd.heap.size 39 7 v 1 (fcells f u) ∧ w.ownsRow wd.heap.size 3 1 u f.tab.length (ints f.tab)) (fun v w w2 hR hh => by obtain ⟨u, hv, ho⟩ := hh; exact ⟨u, own_only hv hR (fun k hk hF => by rcases hF with hF | hF <;> first | exact hF | (have := hlt k hF; have := (hv.lt k hk).1; omega)), own_only ho hR (fun k hk hF => by rcases hF with hF | hF <;> first | exact hF | (have := hlt k hF; have := (ho.lt k hk).1; omega))⟩) (by kernel_rfl) rfl (by decide) (fun e w hR hh => by obtain ⟨h24, -⟩ := hh; rw [← hwd] at hR; have hw2 := hR.size; obtain ⟨u, hu24, h24o⟩ := h24; exact SG.n (o_bs1 TI22 TI39 hu24 (by decide) (by decide) rfl ⟨⟨u, own_mono (own_new1 rfl) hw2, own_ext h24o (Only.alloc w _)⟩, Only.alloc w _⟩)) ?_
      refine WDS.mf 1 2 (fun v w => ∃ u, w.ownsRow H 39 7 v (L.length + 1) (frows L V ++ fcells f u) ∧ w.ownsRow wd.heap.size 3 1 u f.tab.length (ints f.tab) ∧ (v.ownBlock = lv.ownBlock ∨ ∃ g, wd.heap.size ≤ g ∧ v.ownBlock = some g)) (fun v w w2 hR hh => by obtain ⟨u, hv, ho, hb⟩ := hh; exact ⟨u, own_ext hv hR, own_ext ho hR, hb⟩) (by kernel_rfl) rfl rfl rfl (fun e w hR hW hh => by obtain ⟨h25, h22, -⟩ := hh; rw [← hwd] at hR hW; have hw2 := hR.size; have hW2 : Ext wd w := hW.mono (fun k _ hF => by rcases hF with hF | hF <;> exact hF); obtain ⟨u, h25r, ho25⟩ := h25; exact SGX.n (OP.x (o_apO H TI22 TI39 h22 rfl (own_ext h.rows.row hW2) (Sl.own h25r) rfl (by decide) (fcells_all (own_one ho25)) (by rw [maxLen_eq]; have := h.len; have := h.mb; omega) (by have := h.len; have := h.mb; omega) (by have := h.lt p (.inl rfl); have := h.lo; omega) (fun v' w' h1 h2 h3 _ => ⟨⟨u, h1, own_only ho25 h2 (fun k hk hF => by have := hlt k hF; have := (ho25.lt k hk).1; omega), h3.imp id (fun h => ⟨_, hw2, h⟩)⟩, h2⟩)))) ?_
      rintro e w hR ⟨h26, h25, h24, h23, h22, h21, h20, h19, h18, h0, h3, -⟩
      rw [← hwd] at hR
      obtain ⟨u, hr26, hou, hb26⟩ := h26
      obtain ⟨v26, hv26⟩ : ∃ v, v = e 26 := ⟨_, rfl⟩
      rw [← hv26] at hr26 hb26
      have hc5 := hR.blk hcell (fun hF => by rcases hF with hF | hF | hF <;> first | exact hF | exact h.p_off (.inl hF))
      have hrow5 : Rows w H (L ++ [f]) v26 (fun j => if j = L.length then u else V j) := Rows.snoc hr26 (h.rows.tabs.only hR (fun j hj k hk hF => by rcases hF with hF | hF | hF <;> first | exact hF | exact own_row_off h.rows.row (h.rows.tabs.row j hj) (by decide) k hk hF)) hou (by have := h.lt p (.inl rfl); have := h.lo; omega) hltV
      refine WL.c rfl (o_nil h18 ?_)
      refine WL.c rfl (o_fa 2 TI71 rfl TI22 rfl rfl ?_)
      refine WL.u (o_stB TI22 rfl (show _ = v26 from hv26.symm) (own_one hr26) hc5 (show 2 < 3 by decide) ?_)
      intro w6 hB6 ho6 hs6
      replace hB6 : w6.heap[p]? = some (.cells #[.int .i64 (most : Int), .int .i64 (high : Int), v26] 71 (0, 0)) := hB6
      have hrow6 := hrow5.only ho6 (fun k hk he => by subst he; exact hrow5.off hc5 (by decide) (by decide) hk)
      refine WL.nil ?_
      refine W.seq ?_
      refine W.tail 13 rfl (by kernel_rfl) ?_
      refine WS.c rfl ((SO.o rfl (o_mvh h0 ⟨rfl, rfl⟩))) ?_
      refine WS.c rfl ((SO.o rfl (o_mvh h0 ⟨rfl, rfl⟩))) ?_
      refine WS.c rfl ((SO.r (r_nil rfl))) ?_
      refine WS.c rfl ((SO.o rfl (o_fa 1 TI71 rfl TI3 rfl rfl ⟨rfl, rfl⟩))) ?_
      refine WS.c rfl ((SO.o rfl (o_ld TI3 rfl rfl (cell_of hB6 rfl) ⟨rfl, rfl⟩))) ?_
      refine WS.c rfl ((SO.o rfl (o_mvh h0 ⟨rfl, rfl⟩))) ?_
      refine WS.c rfl ((SO.r (r_nil rfl))) ?_
      refine WS.c rfl ((SO.o rfl (o_fa 2 TI71 rfl TI22 rfl rfl ⟨rfl, rfl⟩))) ?_
      refine WS.c rfl ((SO.o rfl (o_ld TI22 rfl rfl (cell_of hB6 rfl) ⟨rfl, rfl⟩))) ?_
      refine WS.c rfl ((SO.r (r_lenR TI22 rfl (Sl.own hrow6.row)))) ?_
      refine WS.c rfl ((SO.r (r_max rfl rfl))) ?_
      refine WS.c rfl ((SO.r (r_nil rfl))) ?_
      refine WS.c rfl ((SO.o rfl (o_fa 1 TI71 rfl TI3 rfl rfl ⟨rfl, rfl⟩))) ?_
      refine WS.nil ?_
      refine WL.u (o_stB TI3 rfl (show _ = Value.int _ _ from rfl) rfl hB6 (show 1 < 3 by decide) ?_)
      intro w7 hB7 ho7 hs7
      have hrow7 := (hrow6.ext (Only.drew w6)).only ho7 (fun k hk he => by subst he; exact hrow6.off hB6 (by decide) (by decide) hk)
      refine WL.nil ?_
      refine W.seq ?_
      refine W.region ?_
      refine WL.c rfl (o_as ?_)
      refine WL.nil ?_
      refine W.ret ?_
      refine ret1v rfl (show _ = Value.int _ _ from rfl) ?_
      have hp : pushR most high L f = (0, max high (L.length + 1), L ++ [f]) := by rw [pushR, if_neg (by omega), if_pos c17]
      rw [hp]
      have hlen2 : (L ++ [f]).length = L.length + 1 := by simp
      rw [hlen2] at hB7
      refine ⟨rfl, v26, _, ⟨hB7, hrow7, h.lo, h.mb, by rw [hlen2]; omega, tl_snoc h.tl c17⟩, ?_, fun k hk => ?_⟩
      · refine ((((hx.tr hxd).trans' (H := SF p lv V L.length) hR (fun _ hF => hF.elim) ?_).trans' ho6 (fun _ hF => hF) ?_).trans' (Only.drew w6) (fun _ hF => hF) (fun _ _ hF => hF.elim)).trans' ho7 (fun _ hF => hF) ?_
        · rintro k - (hF | hF | hF)
          · exact hF.elim
          · exact .inr (.inl hF)
          · exact hF.elim
        · rintro k - rfl; exact .inl rfl
        · rintro k - rfl; exact .inl rfl
      · rw [hlen2] at hk
        exact ite_SF (B := wd.heap.size) (m := 0) (hx.tr hxd).size hb26 (fun k hk => .inl (by have := (hou.lt k hk).1; have := (hx.tr hxd).size; omega)) (Nat.zero_le _) (.inr hk)
end Go.Proofs.Ytdiaeafjjffjmaa
