/-
  Walks. Written by program out of specs of mine.
-/
import Derived.Test.YtdiaeafjjffjmaaQ4
set_option linter.unusedSimpArgs false
set_option linter.unusedVariables false
set_option maxRecDepth 100000
namespace Go.Proofs.Ytdiaeafjjffjmaa
open Go Go.Vc Go.RowKit Go.Proofs

theorem setW {L : List Fr} {f : Fr} (h : 0 < L.length) (hf : fwhole f = true) : setR L f = (0, L.set (L.length - 1) f) := by rw [setR, if_neg (by omega), if_pos hf]
theorem setE {L : List Fr} {f : Fr} (h : L.length = 0) : setR L f = (220, L) := by rw [setR, if_pos h]
theorem goW {L : List Fr} {f : Fr} (h : 0 < L.length) (hf : fwhole f = true) : goR L f = (0, L.set (L.length - 1) { f with tab := (topF L).tab }) := by
  rw [goR, if_neg (by omega), if_pos (by simp only [fwhole, Bool.and_eq_true] at hf; exact hf.1)]
theorem topF_set {L : List Fr} {f : Fr} (h : 0 < L.length) : topF (L.set (L.length - 1) f) = f := by
  rw [topF, List.length_set, List.getD_eq_getElem?_getD, List.getElem?_set, if_pos rfl, if_pos (by omega)]; rfl
theorem set_set {L : List Fr} {f g : Fr} : (L.set (L.length - 1) f).set ((L.set (L.length - 1) f).length - 1) g = L.set (L.length - 1) g := by
  rw [List.length_set, List.set_set]
theorem markW {L : List Fr} {f : Fr} {a : Int} (h : 0 < L.length) (ha : inb a 0 Huge = true) (hf : f.tab.length < 1048576) : markR (L.set (L.length - 1) f) a = (0, L.set (L.length - 1) { f with tab := f.tab ++ [a] }) := by
  rw [markR, if_neg (by rw [List.length_set]; omega), if_pos ha, topF_set h, if_neg (by omega), set_set]
theorem slotW {L : List Fr} {f : Fr} {k : Nat} (h : 0 < L.length) (hk : k < f.tab.length) : slotR (L.set (L.length - 1) f) (k : Int) = (f.tab[k], 0) := by
  rw [slotR, if_neg (by rw [List.length_set]; omega), topF_set h, if_pos (by rw [inb_iff]; omega), Int.toNat_natCast, List.getD_eq_getElem?_getD, List.getElem?_eq_getElem hk]; rfl
theorem tabl_last {L : List Fr} {f : Fr} (h : 0 < L.length) : tabl (L.set (L.length - 1) f) ((L.set (L.length - 1) f).length - 1) = f.tab := congrArg Fr.tab (topF_set h)
theorem tabl_nil {L : List Fr} (h : L.length = 0) : tabl L (L.length - 1) = [] := congrArg Fr.tab (topF_nil h)
theorem Turn.post {w w' w2 : World} {H p most high high' : Nat} {L L' : List Fr} {lv lv' : Value} {V V' : Nat → Value} (t : Turn w w' H p most high L lv V high' L' lv' V') (hx : Ext w' w2) : Turn w w2 H p most high L lv V high' L' lv' V' := ⟨t.stk.ext hx, t.only.ext hx, t.new⟩
theorem Turn.pre {w0 w w' : World} {H p most high high' : Nat} {L L' : List Fr} {lv lv' : Value} {V V' : Nat → Value} (t : Turn w w' H p most high L lv V high' L' lv' V') (hx : Ext w0 w) : Turn w0 w' H p most high L lv V high' L' lv' V' :=
  ⟨t.stk, hx.trans' t.only (fun _ h => h.elim) (fun _ _ h => h), fun k hk => (t.new k hk).imp id (fun h => by have := hx.size; omega)⟩
theorem Many.replD {w : World} {H0 : Nat} {el : TypeId} {s N : Nat} {V : Nat → Value} {n : Nat → Nat} {X : Nat → List Value} (h : Many w H0 el s N V n X) {j0 b m : Nat} {v : Value} {xs : List Value} (hr : w.ownsRow b el s v m xs) (hb : H0 ≤ b) (hd : ∀ j, j < N → ∀ k, (V j).ownBlock = some k → ¬ v.ownBlock = some k) :
    Many w H0 el s N (fun j => if j = j0 then v else V j) (fun j => if j = j0 then m else n j) (fun j => if j = j0 then xs else X j) := by
  refine ⟨fun j hj => ?_, fun i j hi hj hij k hk => ?_⟩
  · by_cases e : j = j0
    · simp only [if_pos e]; exact own_mono hr hb
    · simp only [if_neg e]; exact h.row j hj
  · by_cases e : i = j0
    · have e2 : j ≠ j0 := by omega
      simp only [if_pos e, if_neg e2] at hk ⊢
      exact fun hk2 => hd j hj k hk2 hk
    · by_cases e2 : j = j0
      · simp only [if_neg e, if_pos e2] at hk ⊢
        exact hd i hi k hk
      · simp only [if_neg e, if_neg e2] at hk ⊢
        exact h.off i j hi hj hij k hk
theorem Rows.mono {w : World} {H H' : Nat} {L : List Fr} {lv : Value} {V : Nat → Value} (h : Rows w H L lv V) (hH : H' ≤ H) : Rows w H' L lv V := ⟨own_mono h.row hH, fun j hj => own_mono (h.tabs.row j hj) hH, h.tabs.off⟩
theorem rHuge_inb (n : Int) : inb (rHuge n) 0 Huge = true := by have := rHuge_in n; rw [inb_iff]; simp only [Huge]; omega

set_option maxHeartbeats 2000000 in
theorem stack_walk (w0 : World) (v : Value) (L : List Fr) (V : Nat → Value) (hF : Fs w0 v L V) (gone : Int) (of : Fr) (ofv : Value) (hO : In w0 ofv of.tab) (mv : Value) (ms : List Int) (hml : ms.length ≤ 9223372036854775807) (hM : In w0 mv ms) : Ca Try.prog 5 #[v, .int .i64 gone, .agg (fcells of ofv).toArray, mv] w0 (fun r w' => r = .bool true ∧ Ext w0 w') := by
  have hM0 := hM
  have hO0 := hO
  refine Ca.of Try.func5 Try.ntmps5 rfl rfl ?_
  refine W.seq ?_
  refine W.region ?_
  refine WL.c rfl (o_boxB rfl ?_)
  intro w6 hC6 hx6 hs6
  replace hC6 : w6.heap[w0.heap.size]? = some (.cells (fcells of ofv).toArray 39 (0, 0)) := hC6
  replace hF := hF.ext hx6
  replace hO := Sl.ext hO hx6
  replace hM := Sl.ext hM hx6
  refine WL.c rfl (o_ash (show _ = Value.bool _ from rfl) ?_)
  refine WL.nil ?_
  refine W.seq ?_
  refine W.seq ?_
  refine W.region ?_
  refine WL.c rfl (o_call Try.call6 ln ((awake_spec _).mono ?_))
  rintro v24 w24 ⟨rfl, hx24⟩
  replace hF := hF.ext hx24
  replace hO := Sl.ext hO hx24
  replace hM := Sl.ext hM hx24
  replace hC6 := hx24.blk hC6 (fun h => h)
  replace hx6 := hx6.tr hx24
  have hlo6 : w0.heap.size < w24.heap.size := (Array.getElem?_eq_some_iff.1 hC6).1
  refine WL.c rfl (o_not' rfl ?_)
  refine WL.nil ?_
  refine W.condF' rfl (rfl) ?_
  refine W.skip ?_
  refine W.seq ?_
  refine W.region ?_
  refine WL.c rfl (o_mvh (by first | exact (show _ = Value.slice _ _ _ from rfl) | exact rfl) ?_)
  refine WL.c rfl (o_mvh (show _ = Value.int _ _ from rfl) ?_)
  refine WL.c rfl (o_call Try.call7 (lc rfl (lc rfl ln)) ((filled_spec L V v gone _ hF).mono ?_))
  rintro v29 w29 ⟨p, lv, U, ov, Uo, R, hR0, rfl, hst, hR, hA, hx29⟩
  have hRl : R.length ≤ 40 := by rw [hR0, List.length_map, List.length_take]; omega
  have hRw : ∀ f ∈ R, f.tab.length ≤ 300 := fun f hf => by
    rw [hR0] at hf
    obtain ⟨x, -, rfl⟩ := List.mem_map.1 hf
    simp only [rightF, List.length_map, List.length_take]; omega
  have hQw : ∀ f ∈ R.take (R.length - goneN gone R.length), f.tab.length ≤ 300 := fun f hf => hRw f (List.mem_of_mem_take hf)
  have hQl : (R.take (R.length - goneN gone R.length)).length ≤ R.length := by rw [List.length_take]; omega
  generalize R.take (R.length - goneN gone R.length) = Q at *
  replace hO := Sl.ext hO hx29
  replace hM := Sl.ext hM hx29
  replace hC6 := hx29.blk hC6 (fun h => h)
  replace hx6 := hx6.tr hx29
  obtain ⟨HB, hHB⟩ : ∃ h, h = w24.heap.size := ⟨_, rfl⟩
  rw [← hHB] at hst hR hlo6
  have hH0 : w0.heap.size ≤ HB := by omega
  have hnc6 : ¬ SF p lv U Q.length w0.heap.size := fun hk => by have := (hst.lt _ hk).1; omega
  obtain ⟨X0, hX0⟩ : ∃ x, x = rightF of := ⟨_, rfl⟩
  have hX0w : fwhole X0 = true := by rw [hX0]; exact rightF_whole of
  have hX03 : X0.tab.length ≤ 300 := by rw [hX0]; simp only [rightF, List.length_map, List.length_take]; omega
  refine WL.c rfl (o_mvh (by first | exact (show _ = Value.tuple _ from rfl) | exact rfl) ?_)
  refine WL.c rfl (o_ext rfl rfl ?_)
  refine WL.c rfl (o_ext rfl rfl ?_)
  refine WL.c rfl (o_ext rfl rfl ?_)
  refine WL.c rfl (o_ash (by first | exact (show _ = Value.pointer _ from rfl) | exact rfl) ?_)
  refine WL.c rfl (o_ash (by first | exact (show _ = Value.slice _ _ _ from rfl) | exact rfl) ?_)
  refine WL.c rfl (o_ash (show _ = Value.bool _ from rfl) ?_)
  refine WL.nil ?_
  refine W.seq ?_
  refine W.seq ?_
  refine W.region ?_
  refine WL.c rfl (o_mvh (show _ = Value.bool _ from rfl) ?_)
  refine WL.c rfl (o_not' rfl ?_)
  refine WL.nil ?_
  refine W.condF' rfl (rfl) ?_
  refine W.skip ?_
  refine W.seq ?_
  refine W.seq ?_
  refine W.region ?_
  refine WL.c rfl (o_mvh (by first | exact (show _ = Value.slice _ _ _ from rfl) | exact rfl) ?_)
  refine WL.c rfl (o_lenR TI22 rfl (Sl.own hR.row) ?_)
  refine WL.c rfl (o_eq rfl rfl ?_)
  refine WL.nil ?_
  refine W.cond rfl (fun c37 => ?_) (fun c37 => ?_)
  · try simp only [decide_eq_true_eq, decide_eq_false_iff_not, Bool.not_eq_true', Bool.not_eq_false', Bool.and_eq_true, Bool.or_eq_true, Bool.and_eq_false_iff, Bool.or_eq_false_iff] at c37
    have hq0 : Q.length = 0 := by omega
    refine W.seq ?_
    refine W.region ?_
    refine WL.c rfl (o_mvh (by first | exact (show _ = Value.pointer _ from rfl) | exact rfl) ?_)
    refine WL.c rfl (o_call Try.call19 (lc rfl ln) ((top_spec HB p (R.length + 1) R.length Q lv U _ hst).mono ?_))
    rintro v40 w40 ⟨tv, rfl, hown40, hx40⟩
    rw [topF_nil hq0, emptyE, if_pos hq0]
    rw [topF_nil hq0] at hown40
    replace hst := hst.ext hx40
    replace hO := Sl.ext hO hx40
    replace hC6 := hx40.blk hC6 (fun h => h)
    replace hx6 := hx6.tr hx40
    refine WL.c rfl (o_mvh (by first | exact (show _ = Value.tuple _ from rfl) | exact rfl) ?_)
    refine WL.c rfl (o_ext rfl rfl ?_)
    refine WL.c rfl (o_ext rfl rfl ?_)
    refine WL.c rfl (o_alB TI39 ?_)
    intro w12 hC12 hx12 hs12
    refine WL.u (o_stA TI39 rfl (show _ = Value.agg (fcells Fr.nil tv).toArray from rfl) rfl (fcells_one (own_one hown40)) hC12 rfl ?_)
    intro w13 hB12 ho12 hs13
    have h40s := hx6.size
    have hx13 : Ext w40 w13 := hx12.trans' ho12 (fun _ h => h) (fun k hk he => by omega)
    replace hst := hst.ext hx13
    replace hO := Sl.ext hO hx13
    replace hC6 := hx13.blk hC6 (fun h => h)
    replace hx6 := hx6.tr hx13
    refine WL.c rfl (o_ash (show _ = Value.int _ _ from rfl) ?_)
    refine WL.nil ?_
    refine W.seq ?_
    refine W.region ?_
    refine WL.c rfl (o_mvh (show _ = Value.int _ _ from rfl) ?_)
    refine WL.c rfl (o_call Try.call10 (lc rfl ln) ((num_spec _ _).mono ?_))
    rintro v44 w44 ⟨rfl, hw44⟩
    replace hw44 := hw44.symm
    subst hw44
    refine WL.c rfl (o_eq rfl rfl ?_)
    refine WL.c rfl (o_mvh (show _ = Value.bool _ from rfl) ?_)
    refine WL.g rfl (by simp) rfl (o_mvh (by first | exact (show _ = Value.pointer _ from rfl) | exact rfl) ?_)
    refine WL.g rfl (by simp) rfl (o_ldA TI39 rfl rfl (show Cells _ w0.heap.size 0 (fcells of ofv) from Cells.of hC6 0 _ (by simp)) rfl ?_)
    refine WL.g rfl (by simp) rfl (o_call Try.call21 (lc rfl ln) ((rightl_spec of ofv _ hO).mono ?_))
    rintro v49 w49 ⟨u0, rfl, hu0, hx49⟩
    rw [← hX0] at hu0 ⊢
    replace hst := hst.ext hx49
    replace hx6 := hx6.tr hx49
    refine WL.g rfl (by simp) rfl (o_call Try.call20 (lc rfl (lc rfl ln)) ((set_spec HB p (R.length + 1) R.length Q lv U X0 u0 _ hst (Sl.own hu0) (by omega)).mono ?_))
    rintro v50 w50 ⟨rfl, lv2, U2, t⟩
    rw [setE hq0] at t ⊢
    replace hx6 := t.ext hx6 hH0 hst
    have hst2 := t.stk
    refine WL.g rfl (by simp) rfl (o_call Try.call10 (lc rfl ln) ((num_spec _ _).mono ?_))
    rintro v51 w51 ⟨rfl, hw51⟩
    replace hw51 := hw51.symm
    subst hw51
    refine WL.g rfl (by simp) rfl (o_eq rfl rfl ?_)
    refine WL.c rfl (o_pickA rfl rfl ?_)
    refine WL.c rfl (o_mvh (show _ = Value.bool _ from rfl) ?_)
    refine WL.g rfl (by simp) rfl (o_mvh (by first | exact (show _ = Value.pointer _ from rfl) | exact rfl) ?_)
    refine WL.g rfl (by simp) rfl (o_call Try.call22 (lc rfl ln) ((slots_spec HB p (R.length + 1) R.length Q lv2 U2 _ hst2).mono ?_))
    rintro v56 w56 ⟨rfl, hx56⟩
    rw [tabl_nil hq0]
    replace hx6 := hx6.tr hx56
    refine WL.g rfl (by simp) rfl (o_eq rfl rfl ?_)
    refine WL.c rfl (o_pickA rfl rfl ?_)
    refine WL.c rfl (o_ash (show _ = Value.bool _ from rfl) ?_)
    refine WL.nil ?_
    refine W.ret ?_
    refine ret1v rfl (show _ = Value.bool _ from rfl) ?_
    exact ⟨congrArg Value.bool (by simp), hx6⟩
  · try simp only [decide_eq_true_eq, decide_eq_false_iff_not, Bool.not_eq_true', Bool.not_eq_false', Bool.and_eq_true, Bool.or_eq_true, Bool.and_eq_false_iff, Bool.or_eq_false_iff] at c37
    have hq1 : 0 < Q.length := by omega
    refine W.skip ?_
    refine W.seq ?_
    refine W.region ?_
    refine WL.c rfl (o_ldA TI39 rfl rfl (show Cells _ w0.heap.size 0 (fcells of ofv) from Cells.of hC6 0 _ (by simp)) rfl ?_)
    refine WL.c rfl (o_call Try.call21 (lc rfl ln) ((rightl_spec of ofv _ hO).mono ?_))
    rintro v60 w60 ⟨u0, rfl, hu0, hx60⟩
    rw [← hX0] at hu0 ⊢
    have hlt60 : ∀ k, SF p lv U Q.length k → k < w29.heap.size := fun k hk => (hst.lt k hk).2
    have hlt60r : ∀ k, RF ov Uo Q.length k → k < w29.heap.size := fun k hk => (hR.lt k hk).2
    replace hst := hst.ext hx60
    replace hR := hR.ext hx60
    replace hO := Sl.ext hO hx60
    replace hM := Sl.ext hM hx60
    replace hC6 := hx60.blk hC6 (fun h => h)
    have h29s := hx60.size
    replace hx6 := hx6.tr hx60
    refine WL.c rfl (o_alB TI39 ?_)
    intro w14 hC14 hx14 hs14
    refine WL.u (o_stA TI39 rfl (show _ = Value.agg (fcells X0 u0).toArray from rfl) rfl (fcells_one (own_one hu0)) hC14 rfl ?_)
    intro w15 hB14 ho14 hs15
    have h60s := hx6.size
    have hx15 : Ext w60 w15 := hx14.trans' ho14 (fun _ h => h) (fun k hk he => by omega)
    obtain ⟨c14, hc14⟩ : ∃ c, c = w60.heap.size := ⟨_, rfl⟩
    rw [← hc14] at hB14 ⊢
    have hn14 : ¬ SF p lv U Q.length c14 := fun hk => by have := hlt60 _ hk; omega
    have hr14 : ¬ RF ov Uo Q.length c14 := fun hk => by have := hlt60r _ hk; omega
    have hc14w : w0.heap.size ≤ c14 := by rw [hc14]; exact h60s
    replace hst := hst.ext hx15
    replace hR := hR.ext hx15
    replace hO := Sl.ext hO hx15
    replace hM := Sl.ext hM hx15
    replace hC6 := hx15.blk hC6 (fun h => h)
    replace hx6 := hx6.tr hx15
    have hU0 : In w15 u0 X0.tab := Sl.ext (Sl.own hu0) hx15
    refine WL.nil ?_
    refine W.seq ?_
    refine W.seq ?_
    refine W.region ?_
    refine WL.c rfl (o_mvh (by first | exact (show _ = Value.slice _ _ _ from rfl) | exact rfl) ?_)
    refine WL.c rfl (o_lenR TI37 rfl hM ?_)
    refine WL.c rfl (o_remN (a := ms.length) (b := 2) rfl rfl (by omega) (by omega) ?_)
    refine WL.c rfl (o_eq rfl rfl ?_)
    refine WL.nil ?_
    refine W.cut (fun e1 w1 => ∃ (X : Fr) (xv lv' : Value) (U' : Nat → Value), X.tab.length ≤ 300 ∧ e1 3 = mv ∧ e1 9 = .pointer (some ⟨p, 0, none⟩) ∧ e1 10 = ov ∧ e1 14 = .pointer (some ⟨c14, 0, none⟩) ∧ In w1 mv ms ∧ Stk w1 HB p (R.length + 1) R.length (Q.set (Q.length - 1) X) lv' U' ∧ Rows w1 HB Q ov Uo ∧ Apt p lv' U' Q.length ov Uo Q.length ∧ w1.heap[c14]? = some (.cells (fcells X xv).toArray 39 (0, 0)) ∧ ¬ SF p lv' U' Q.length c14 ∧ ¬ RF ov Uo Q.length c14 ∧ In w1 xv X.tab ∧ Ext w0 w1) ?_ ?_
    · -- both ways
      refine W.cond rfl (fun c64 => ?_) (fun c64 => ?_)
      · try simp only [decide_eq_true_eq, decide_eq_false_iff_not, Bool.not_eq_true', Bool.not_eq_false', Bool.and_eq_true, Bool.or_eq_true, Bool.and_eq_false_iff, Bool.or_eq_false_iff] at c64
        refine W.seq ?_
        refine W.region ?_
        refine WL.c rfl (o_mvh (by first | exact (show _ = Value.pointer _ from rfl) | exact rfl) ?_)
        refine WL.c rfl (o_ldA TI39 rfl rfl (show Cells _ c14 0 (fcells X0 u0) from Cells.of hB14 0 _ (by simp)) rfl ?_)
        refine WL.c rfl (o_call Try.call20 (lc rfl (lc rfl ln)) ((set_spec HB p (R.length + 1) R.length Q lv U X0 u0 _ hst hU0 (by omega)).mono ?_))
        rintro v67 w67 ⟨rfl, lv67, U67, t⟩
        rw [setW hq1 hX0w] at t ⊢
        have hx67 := t.ext hx6 hH0 hst
        have hst67 : Stk _ _ _ _ _ (Q.set (Q.length - 1) X0) lv67 U67 := t.stk
        obtain ⟨hR67, hA67⟩ := hR.turn t hA
        rw [List.length_set] at hA67
        obtain ⟨hC67, hn67⟩ := t.keep hB14 hn14
        rw [List.length_set] at hn67
        have hI67 : In w67 u0 X0.tab := Sl.own (t.row (own_only hu0 (hx14.trans' ho14 (fun _ h => h) (fun k hk he => by omega)) (fun _ _ h => h)) (fun k hk hF => by have := (hu0.lt k hk).1; have := hlt60 k hF; omega)).1
        have hM67 : In w67 mv ms := Sl.keep hM t.only (fun b hb hF => by have := Sl.low hM0 b hb (by have := (hst.lt b hF).1; omega); exact this)
        refine WL.c rfl (o_call Try.call10 (lc rfl ln) ((num_spec _ _).mono ?_))
        rintro v68 w68 ⟨rfl, hw68⟩
        replace hw68 := hw68.symm
        subst hw68
        refine WL.c rfl (o_ne rfl rfl ?_)
        refine WL.nil ?_
        refine W.condF' rfl (by simp) ?_
        refine W.skip ?_
        first
          | exact ⟨X0, u0, lv67, U67, hX03, rfl, rfl, rfl, rfl, hM67, hst67, hR67, hA67, hC67, hn67, hr14, hI67, hx67⟩
          | exact ⟨{ X0 with tab := Q[Q.length - 1].tab }, Uo (Q.length - 1), lv81, U81, (show Q[Q.length - 1].tab.length ≤ 300 from hQw Q[Q.length - 1] (List.getElem_mem _)), rfl, rfl, rfl, rfl, hM81, hst81, hR81, hA81, hC81, hn81, hr14, hI81, hx81⟩
      · try simp only [decide_eq_true_eq, decide_eq_false_iff_not, Bool.not_eq_true', Bool.not_eq_false', Bool.and_eq_true, Bool.or_eq_true, Bool.and_eq_false_iff, Bool.or_eq_false_iff] at c64
        refine W.seq ?_
        obtain ⟨go, co, hov, hob, hoc⟩ := hR.at (k := Q.length - 1) (by omega)
        have hlast : Q.length - 1 < Q.length := by omega
        rw [getD_at hlast] at hoc
        have hIo : In w15 (Uo (Q.length - 1)) Q[Q.length - 1].tab := by have := hR.tab (k := Q.length - 1) hlast; rw [tabl, getD_at hlast] at this; exact this
        have hUo1 := own_one (hR.tabs.row (Q.length - 1) hlast)
        refine W.region ?_
        refine WL.c rfl (o_mvh (by first | exact (show _ = Value.slice _ _ _ from rfl) | exact rfl) ?_)
        refine WL.c rfl (o_mvh (by first | exact (show _ = Value.slice _ _ _ from rfl) | exact rfl) ?_)
        refine WL.c rfl (o_lenR TI22 rfl (Sl.own hR.row) ?_)
        refine WL.c rfl (o_subi rfl rfl (by omega) ?_)
        refine WL.c rfl (o_ixB (i := Q.length - 1) TI22 TI39 (show _ = Value.slice (some ⟨go, 0, none⟩) Q.length co from hov) (by show Value.int _ ((Q.length : Int) - 1) = _; congr 1; omega) (by omega) ?_)
        refine WL.c rfl (o_fa 6 TI39 rfl TI37 rfl rfl ?_)
        refine WL.c rfl (o_ld TI37 rfl rfl (show World.cell? _ ⟨go, 0 + (Q.length - 1) * 7 + 6, none⟩ = some (Uo (Q.length - 1)) by rw [Nat.zero_add]; exact hoc 6 _ rfl) ?_)
        refine WL.c rfl (o_fa 6 TI39 rfl TI37 rfl rfl ?_)
        refine WL.u (o_stB TI37 rfl (show _ = Uo (Q.length - 1) from rfl) hUo1 hB14 (show 6 < 7 by decide) ?_)
        intro w77 hB77 ho77 hs77
        replace hB77 : w77.heap[c14]? = some (.cells (fcells { X0 with tab := Q[Q.length - 1].tab } (Uo (Q.length - 1))).toArray 39 (0, 0)) := hB77
        have hst7 := hst.only ho77 (fun k hk he => by subst he; exact hn14 hk)
        have hR7 := hR.only ho77 (fun k hk he => by subst he; exact hr14 hk)
        have hx77 : Ext w0 w77 := hx6.trans' ho77 (fun _ h => h) (fun k hk he => by omega)
        have hC67 := ho77.blk hC6 (show ¬ w0.heap.size = c14 by have := hx29.size; omega)
        have hO7 := Sl.keep hO ho77 (fun b hb he => Sl.low hO0 b hb (by omega))
        have hM7 := Sl.keep hM ho77 (fun b hb he => Sl.low hM0 b hb (by omega))
        have hIo7 : In w77 (Uo (Q.length - 1)) Q[Q.length - 1].tab := Sl.only hIo ho77 (fun k hk he => by subst he; exact hr14 (.inr ⟨Q.length - 1, hlast, hk⟩))
        refine WL.nil ?_
        refine W.seq ?_
        refine W.region ?_
        refine WL.c rfl (o_mvh (by first | exact (show _ = Value.pointer _ from rfl) | exact rfl) ?_)
        refine WL.c rfl (o_ldA TI39 rfl rfl (show Cells _ w0.heap.size 0 (fcells of ofv) from Cells.of hC67 0 _ (by simp)) rfl ?_)
        refine WL.c rfl (o_call Try.call21 (lc rfl ln) ((rightl_spec of ofv _ hO7).mono ?_))
        rintro v80 w80 ⟨u1, rfl, hu1, hx80⟩
        rw [← hX0] at hu1 ⊢
        have hst8 := hst7.ext hx80
        have hR8 := hR7.ext hx80
        have hx8 := hx77.tr hx80
        have hB8 := hx80.blk hB77 (fun h => h)
        have hM8 := Sl.ext hM7 hx80
        refine WL.c rfl (o_call Try.call23 (lc rfl (lc rfl ln)) ((go_spec HB p (R.length + 1) R.length Q lv U X0 u1 _ hst8).mono ?_))
        rintro v81 w81 ⟨rfl, lv81, U81, t⟩
        have htq : (topF Q).tab = Q[Q.length - 1].tab := congrArg Fr.tab (topF_pos hq1)
        rw [goW hq1 hX0w, htq] at t ⊢
        have hx81 := t.ext hx8 hH0 hst8
        have hst81 : Stk _ _ _ _ _ (Q.set (Q.length - 1) { X0 with tab := Q[Q.length - 1].tab }) lv81 U81 := t.stk
        obtain ⟨hR81, hA81⟩ := hR8.turn t hA
        rw [List.length_set] at hA81
        obtain ⟨hC81, hn81⟩ := t.keep hB8 hn14
        rw [List.length_set] at hn81
        have hI81 : In w81 (Uo (Q.length - 1)) Q[Q.length - 1].tab := by have := hR81.tab (k := Q.length - 1) hlast; rw [tabl, getD_at hlast] at this; exact this
        have hM81 : In w81 mv ms := Sl.keep hM8 t.only (fun b hb hF => by have := Sl.low hM0 b hb (by have := (hst8.lt b hF).1; omega); exact this)
        refine WL.c rfl (o_call Try.call10 (lc rfl ln) ((num_spec _ _).mono ?_))
        rintro v82 w82 ⟨rfl, hw82⟩
        replace hw82 := hw82.symm
        subst hw82
        refine WL.c rfl (o_ne rfl rfl ?_)
        refine WL.nil ?_
        refine W.condF' rfl (by simp) ?_
        refine W.skip ?_
        first
          | exact ⟨X0, u0, lv67, U67, hX03, rfl, rfl, rfl, rfl, hM67, hst67, hR67, hA67, hC67, hn67, hr14, hI67, hx67⟩
          | exact ⟨{ X0 with tab := Q[Q.length - 1].tab }, Uo (Q.length - 1), lv81, U81, (show Q[Q.length - 1].tab.length ≤ 300 from hQw Q[Q.length - 1] (List.getElem_mem _)), rfl, rfl, rfl, rfl, hM81, hst81, hR81, hA81, hC81, hn81, hr14, hI81, hx81⟩
    rintro e w ⟨X, xv, lv', U', hX3, h3, h9, h10, h14, hM, hst, hR, hA, hC14, hn14, hr14, hI, hx6⟩
    refine W.seq ?_
    skip
    · skip
      have hw1s := hx6.size
      refine W.region ?_
      refine WL.c rfl (o_ldA TI39 rfl h14 (show Cells _ c14 0 (fcells X xv) from Cells.of hC14 0 _ (by simp)) rfl ?_)
      refine WL.c rfl (o_call Try.call24 (lc rfl ln) ((ownr_spec X xv _ hI (by omega)).mono ?_))
      rintro v85 w85 ⟨xu, rfl, hu, hx85⟩
      have hlts : ∀ k, SF p lv' U' Q.length k → k < w85.heap.size := fun k hk => by have := (hst.lt k (by rw [List.length_set]; exact hk)).2; have := hx85.size; omega
      have huo : ∀ j, xu.ownBlock = some j → ¬ SF p lv' U' Q.length j ∧ ¬ RF ov Uo Q.length j := fun j hj => ⟨fun hk => by have := (hst.lt j (by rw [List.length_set]; exact hk)).2; have := (hu.lt j hj).1; omega, fun hk => by have := (hR.lt j hk).2; have := (hu.lt j hj).1; omega⟩
      replace hu := own_mono hu hx6.size
      replace hst := hst.ext hx85
      replace hR := hR.ext hx85
      replace hC14 := hx85.blk hC14 (fun h => h)
      replace hM := Sl.ext hM hx85
      replace hx6 := hx6.tr hx85
      refine WL.u (o_stA TI39 h14 (show _ = Value.agg (fcells X xu).toArray from rfl) rfl (fcells_one (own_one hu)) hC14 rfl ?_)
      intro w15 hB14 ho14 hs15
      have hu14 := own_only hu ho14 (fun k hk he => by subst he; exact own_off hu hC14 (by decide) hk)
      have hst5 := hst.only ho14 (fun k hk he => by subst he; rw [List.length_set] at hk; exact hn14 hk)
      have hR5 := hR.only ho14 (fun k hk he => by subst he; exact hr14 hk)
      have hc14g : w0.heap.size ≤ c14 := hc14w
      have hx5 : Ext w0 w15 := hx6.trans' ho14 (fun _ h => h) (fun k hk he => by omega)
      have hM5 : In w15 mv ms := Sl.keep hM ho14 (fun b hb he => Sl.low hM0 b hb (by omega))
      clear hst hR hM hC14 hx6 hu
      refine WL.nil ?_
      refine W.seq ?_
      refine W.seq ?_
      refine W.region ?_
      refine WL.c rfl (o_ash (show _ = Value.int _ _ from rfl) ?_)
      refine WL.nil ?_
      refine W.block ?_
      refine W.loop (fun e w => ∃ (k : Nat) (X : Fr) (xu lv' : Value) (U' : Nat → Value), k ≤ ms.length ∧ k ≤ 100 ∧ X.tab.length ≤ 300 + k ∧ e 3 = mv ∧ e 9 = .pointer (some ⟨p, 0, none⟩) ∧ e 10 = ov ∧ e 14 = .pointer (some ⟨c14, 0, none⟩) ∧ e 15 = .int .i64 (k : Int) ∧ In w mv ms ∧ Stk w HB p (R.length + 1) R.length (Q.set (Q.length - 1) X) lv' U' ∧ Rows w HB Q ov Uo ∧ Apt p lv' U' Q.length ov Uo Q.length ∧ w.heap[c14]? = some (.cells (fcells X xu).toArray 39 (0, 0)) ∧ ¬ SF p lv' U' Q.length c14 ∧ ¬ RF ov Uo Q.length c14 ∧ w.ownsRow w0.heap.size 3 1 xu X.tab.length (ints X.tab) ∧ (∀ j, xu.ownBlock = some j → ¬ SF p lv' U' Q.length j ∧ ¬ RF ov Uo Q.length j) ∧ Ext w0 w) (fun e w => ms.length - (intOf (e 15)).toNat) ?_ ?_
      · exact ⟨0, X, xu, lv', U', Nat.zero_le _, Nat.zero_le _, by omega, h3, h9, h10, h14, rfl, hM5, hst5, hR5, hA, hB14, hn14, hr14, hu14, huo, hx5⟩
      rintro e w ⟨k, X, xu, lv', U', hk, hk100, hXl, h3, h9, h10, h14, h15, hM, hst, hR, hA, hC14, hn14, hr14, hu, huo, hx6⟩
      have hm15 := h15
      refine W.seq ?_
      refine W.seq ?_
      refine W.region ?_
      refine WL.cut (fun e1 w1 => e1 93 = .bool (decide (k < ms.length) && decide (k < 100)) ∧ e1 3 = mv ∧ e1 9 = .pointer (some ⟨p, 0, none⟩) ∧ e1 10 = ov ∧ e1 14 = .pointer (some ⟨c14, 0, none⟩) ∧ e1 15 = .int .i64 (k : Int) ∧ w1 = w) ?_ ?_
      · -- region 18
        refine WL.c rfl (o_mvh h15 ?_)
        refine WL.c rfl (o_mvh h3 ?_)
        refine WL.c rfl (o_lenR TI37 rfl hM ?_)
        refine WL.c rfl (o_lt rfl rfl ?_)
        refine WL.c rfl (o_mvh (show _ = Value.bool _ from rfl) ?_)
        refine WL.sp 4 rfl (fun g90 => ?_) (fun g90 => ?_)
        · skip
          refine WL.g rfl (g90) rfl (o_mvh h15 ?_)
          refine WL.g rfl (g90) rfl (o_lt rfl rfl ?_)
          refine WL.c rfl (o_pickA rfl rfl ?_)
          exact WL.nil (⟨congrArg Value.bool (by rw [Bool.eq_iff_iff]; simp only [decide_eq_true_eq, decide_eq_false_iff_not, Bool.and_eq_true, Bool.false_eq_true, false_iff, true_and] at g90 ⊢; omega), h3, h9, h10, h14, h15, rfl⟩)
        · skip
          refine WL.s rfl (g90) rfl ?_
          refine WL.s rfl (g90) rfl ?_
          refine WL.c rfl (o_pickF rfl (g90) ?_)
          exact WL.nil (⟨congrArg Value.bool (by rw [Bool.eq_iff_iff]; simp only [decide_eq_true_eq, decide_eq_false_iff_not, Bool.and_eq_true, Bool.false_eq_true, false_iff, true_and] at g90 ⊢; omega), h3, h9, h10, h14, h15, rfl⟩)
      rintro e w ⟨h93, h3, h9, h10, h14, h15, hw1⟩
      replace hw1 := hw1.symm
      subst hw1
      refine W.cond h93 (fun c93 => ?_) (fun c93 => ?_)
      · try simp only [decide_eq_true_eq, decide_eq_false_iff_not, Bool.not_eq_true', Bool.not_eq_false', Bool.and_eq_true, Bool.or_eq_true, Bool.and_eq_false_iff, Bool.or_eq_false_iff] at c93
        refine W.skip ?_
        refine W.seq ?_
        refine W.block ?_
        refine W.seq ?_
        have hk1 : k < ms.length := by omega
        have hk2 : k < 100 := by omega
        refine W.region ?_
        refine WL.c rfl (o_mvh h3 ?_)
        refine WL.c rfl (o_mvh h15 ?_)
        refine WL.c rfl (o_ix1 TI37 TI3 rfl rfl hM (by omega) ?_)
        intro b98 o98 hc98 hb98
        refine WL.c rfl (o_ld TI3 rfl rfl (hc98.trans (getint hk1)) ?_)
        refine WL.c rfl (o_call Try.call13 (lc rfl (lc rfl ln)) ((rest_spec ms[k] 4611686018427387904 _ (by decide) (by decide)).mono ?_))
        rintro v100 w100 ⟨rfl, hw100⟩
        replace hw100 := hw100.symm
        subst hw100
        rw [show ms[k] % 4611686018427387904 = rHuge ms[k] from rfl]
        refine WL.c rfl (o_ash (show _ = Value.int _ _ from rfl) ?_)
        refine WL.nil ?_
        refine W.seq ?_
        refine W.seq ?_
        have hRo := hR
        obtain ⟨wd, hwd⟩ : ∃ wd, wd = w.drew := ⟨_, rfl⟩
        have hxd : Ext w wd := hwd ▸ Only.drew w
        replace hst := hst.ext hxd
        replace hRo := hRo.ext hxd
        replace hC14 := hxd.blk hC14 (fun h => h)
        replace hM := Sl.ext hM hxd
        replace hu := own_ext hu hxd
        replace hx6 := hx6.tr hxd
        obtain ⟨LX, hLX⟩ : ∃ l, l = Q.set (Q.length - 1) X := ⟨_, rfl⟩
        obtain ⟨LY, hLY⟩ : ∃ l, l = Q.set (Q.length - 1) { X with tab := X.tab ++ [rHuge ms[k]] } := ⟨_, rfl⟩
        have hLXl : LX.length = Q.length := by rw [hLX, List.length_set]
        have hLYl : LY.length = Q.length := by rw [hLY, List.length_set]
        have hmk : markR LX (rHuge ms[k]) = (0, LY) := by rw [hLX, hLY]; exact markW hq1 (rHuge_inb _) (by omega)
        have hsl : (tabl LY (LY.length - 1)).length = X.tab.length + 1 := by rw [hLY, tabl_last hq1, List.length_append, List.length_singleton]
        rw [← hLX] at hst
        rw [← hLXl] at hn14
        refine W.drawF 13 [2] [SF p lv' U' LX.length] [(3, fun v _ => v = _), (9, fun v _ => v = _), (10, fun v _ => v = _), (14, fun v _ => v = _), (15, fun v _ => v = _), (16, fun v _ => v = _)] rfl (by kernel_rfl) (by kernel_rfl) ⟨Mono.eq, Mono.eq, Mono.eq, Mono.eq, Mono.eq, Mono.eq, trivial⟩ ⟨h3, h9, h10, h14, h15, rfl, trivial⟩ ?_
        refine WDS.p rfl (by decide) (fun e w hR hh => by obtain ⟨h9, -⟩ := hh; exact SG.n (o_mvh h9 ⟨rfl, Only.refl No _⟩)) ?_
        refine WDS.p rfl (by decide) (fun e w hR hh => by obtain ⟨h16, -⟩ := hh; exact SG.n (o_mvh h16 ⟨rfl, Only.refl No _⟩)) ?_
        refine WDS.mf 0 1 (fun v w => v = .int .i64 0 ∧ ∃ lv2 U2, Turn wd w HB p (R.length + 1) R.length LX lv' U' R.length LY lv2 U2) (fun v w w2 hR hh => by obtain ⟨h1, lv2, U2, h2⟩ := hh; exact ⟨h1, lv2, U2, h2.post hR⟩) (by kernel_rfl) rfl rfl rfl (fun e w hR hW hh => by obtain ⟨h102, h101, -⟩ := hh; rw [← hwd] at hW; have hW2 : Ext wd w := hW.mono (fun _ _ h => h); exact SGX.n (OP.x (o_call Try.call25 (lc h101 (lc h102 ln)) ((mark_spec HB p (R.length + 1) R.length LX lv' U' (rHuge ms[k]) w (hst.ext hW2)).mono (fun v w' hh => by obtain ⟨h1, lv2, U2, h2⟩ := hh; rw [hmk] at h1 h2; exact ⟨⟨h1, lv2, U2, h2.pre hW2⟩, h2.only⟩))))) ?_
        refine WDS.q 1 (fun v w => v = .int .i64 0 ∧ ∃ lv2 U2, Turn wd w HB p (R.length + 1) R.length LX lv' U' R.length LY lv2 U2) (fun v w w2 hR hh => by obtain ⟨h1, lv2, U2, h2⟩ := hh; exact ⟨h1, lv2, U2, h2.post hR⟩) (by kernel_rfl) rfl (by decide) (fun e w hR hh => by obtain ⟨h103, -⟩ := hh; obtain ⟨h103, hT⟩ := h103; exact SG.n (o_call Try.call10 (lc h103 ln) ((num_spec 0 _).mono (fun v w' hh => by obtain ⟨rfl, rfl⟩ := hh; exact ⟨⟨rfl, hT⟩, Only.refl No _⟩)))) ?_
        refine WDS.q 1 (fun v w => v = .bool false ∧ ∃ lv2 U2, Turn wd w HB p (R.length + 1) R.length LX lv' U' R.length LY lv2 U2) (fun v w w2 hR hh => by obtain ⟨h1, lv2, U2, h2⟩ := hh; exact ⟨h1, lv2, U2, h2.post hR⟩) (by kernel_rfl) rfl (by decide) (fun e w hR hh => by obtain ⟨h104, -⟩ := hh; obtain ⟨h104, hT⟩ := h104; exact SG.n (o_ne h104 rfl ⟨⟨rfl, hT⟩, Only.refl No _⟩)) ?_
        refine WDS.q 1 (fun v w => v = .bool false ∧ ∃ lv2 U2, Turn wd w HB p (R.length + 1) R.length LX lv' U' R.length LY lv2 U2) (fun v w w2 hR hh => by obtain ⟨h1, lv2, U2, h2⟩ := hh; exact ⟨h1, lv2, U2, h2.post hR⟩) (by kernel_rfl) rfl (by decide) (fun e w hR hh => by obtain ⟨h105, -⟩ := hh; skip; exact SG.n (o_mv ⟨h105, Only.refl No _⟩)) ?_
        refine WDS.p rfl (by decide) (fun e w hR hh => by obtain ⟨h106, h9, -⟩ := hh; obtain ⟨h106, lv2, U2, t⟩ := h106; exact SG.g h106 (rfl) (o_mvh h9 ⟨rfl, Only.refl No _⟩)) ?_
        refine WDS.p rfl (by decide) (fun e w hR hh => by obtain ⟨h107, h106, -⟩ := hh; obtain ⟨h106, lv2, U2, t⟩ := h106; exact SG.g h106 (rfl) (o_call Try.call22 (lc h107 ln) ((slots_spec HB p (R.length + 1) R.length LY lv2 U2 w t.stk).mono (fun v w' hh => by obtain ⟨h1, h2⟩ := hh; rw [hsl] at h1; exact ⟨h1, h2⟩)))) ?_
        refine WDS.p rfl (by decide) (fun e w hR hh => by obtain ⟨h106, h14, -⟩ := hh; obtain ⟨h106, lv2, U2, t⟩ := h106; exact SG.g h106 (rfl) (o_fa 6 TI39 rfl TI37 rfl h14 ⟨rfl, Only.refl No _⟩)) ?_
        refine WDS.p rfl (by decide) (fun e w hR hh => by obtain ⟨h109, h106, -⟩ := hh; obtain ⟨h106, -⟩ := h106; rw [← hwd] at hR; have hc := hR.blk hC14 (fun hF => by rcases hF with hF | hF; exact hn14 hF; exact hF); exact SG.g h106 (rfl) (o_ld TI37 rfl h109 (cell_of hc rfl) ⟨rfl, Only.refl No _⟩)) ?_
        refine WDS.p rfl (by decide) (fun e w hR hh => by obtain ⟨h110, h106, -⟩ := hh; obtain ⟨h106, -⟩ := h106; rw [← hwd] at hR; have hu2 := own_only hu hR (fun j hj hF => by rcases hF with hF | hF; exact (huo j hj).1 (by rw [← hLXl]; exact hF); exact hF); exact SG.g h106 (rfl) (o_lenR TI37 h110 (Sl.own hu2) ⟨rfl, Only.refl No _⟩)) ?_
        refine WDS.p rfl (by decide) (fun e w hR hh => by obtain ⟨h111, h106, -⟩ := hh; obtain ⟨h106, lv2, U2, t⟩ := h106; exact SG.g h106 (rfl) (o_addi h111 rfl (by omega) ⟨rfl, Only.refl No _⟩)) ?_
        refine WDS.p rfl (by decide) (fun e w hR hh => by obtain ⟨h112, h108, h106, -⟩ := hh; obtain ⟨h106, lv2, U2, t⟩ := h106; exact SG.g h106 (rfl) (o_ne h108 h112 ⟨rfl, Only.refl No _⟩)) ?_
        rintro e w hR ⟨h113, h112, h111, h110, h109, h108, h107, h106, h105, h104, h103, h102, h101, h3, h9, h10, h14, h15, h16, -⟩
        rw [← hwd] at hR
        obtain ⟨h106, lv2, U2, t⟩ := h106
        refine WL.c rfl (o_pickO h106 h113 ?_)
        refine WL.nil ?_
        have hst2 := t.stk
        obtain ⟨hRo2, hA2⟩ := hRo.turn t (by rw [hLXl]; exact hA)
        obtain ⟨hC2, hn2⟩ := t.keep hC14 hn14
        obtain ⟨hu2, hun2⟩ := t.row hu (fun j hj => by rw [hLXl]; exact (huo j hj).1)
        have hM2 : In w mv ms := Sl.keep hM t.only (fun b hb hF => Sl.low hM0 b hb (by have := (hst.lt b hF).1; omega))
        have hx2 := t.ext hx6 hH0 hst
        rw [hLYl] at hA2 hn2 hun2
        refine W.condF' rfl (by simp) ?_
        refine W.skip ?_
        refine W.seq ?_
        refine W.region ?_
        refine WL.c rfl (o_fa 6 TI39 rfl TI37 rfl h14 ?_)
        refine WL.c rfl (o_ld TI37 rfl rfl (cell_of hC2 rfl) ?_)
        refine WL.c rfl (o_mvh h16 ?_)
        refine WL.apO (w0.heap.size) rfl rfl TI37 TI3 (show _ = Value.int _ _ from rfl) rfl hu2 (by decide) (by decide) rfl (one1 rfl) rfl (by rw [maxLen_eq]; omega) (by omega) hx2.size ?_
        intro v119 w119 hown119 ho119 hb119 hk119
        have hst7 := hst2.only ho119 (fun j hj hF => hun2 j hF (by rw [← hLYl]; exact hj))
        have hR7 := hRo2.only ho119 (fun j hj hF => (huo j hF).2 hj)
        have hC7 := ho119.blk hC2 (own_off hu2 hC2 (by decide))
        have hM7 : In w119 mv ms := Sl.keep hM2 ho119 (fun b hb hF => Sl.low hM0 b hb (hu2.lt b hF).1)
        have hx7 : Ext w0 w119 := hx2.trans' ho119 (fun _ h => h) (fun j hj hF => by have := (hu2.lt j hF).1; omega)
        have huo8 : ∀ j, v119.ownBlock = some j → ¬ SF p lv2 U2 Q.length j ∧ ¬ RF ov Uo Q.length j := fun j hj => by
          rcases hb119 with hb | hb <;> rw [hb] at hj
          · exact ⟨hun2 j hj, (huo j hj).2⟩
          · cases hj
            exact ⟨fun h => by have := (hst2.lt _ (by rw [hLYl]; exact h)).2; omega, fun h => by have := (hRo2.lt _ h).2; omega⟩
        have hu7 : w119.ownsRow w0.heap.size 3 1 v119 (X.tab ++ [rHuge ms[k]]).length (ints (X.tab ++ [rHuge ms[k]])) := by
          rw [List.length_append, List.length_singleton, ints, List.map_append]; exact hown119
        refine WL.c rfl (o_fa 6 TI39 rfl TI37 rfl h14 ?_)
        refine WL.u (o_stB TI37 rfl (show _ = v119 from rfl) (own_one hown119) hC7 (show 6 < 7 by decide) ?_)
        intro w120 hB120 ho120 hs120
        have hC8 : w120.heap[c14]? = some (.cells (fcells { X with tab := X.tab ++ [rHuge ms[k]] } v119).toArray 39 (0, 0)) := hB120
        have hst8 := hst7.only ho120 (fun j hj he => by subst he; rw [hLYl] at hj; exact hn2 hj)
        have hR8 := hR7.only ho120 (fun j hj he => by subst he; exact hr14 hj)
        have hu8 := own_only hu7 ho120 (fun j hj he => by subst he; exact own_off hu7 hC7 (by decide) hj)
        have hM8 : In w120 mv ms := Sl.keep hM7 ho120 (fun b hb he => Sl.low hM0 b hb (by omega))
        have hx8 : Ext w0 w120 := hx7.trans' ho120 (fun _ h => h) (fun j hj he => by omega)
        have hn8 := hn2
        refine WL.nil ?_
        refine W.seq ?_
        refine W.region ?_
        refine WL.c rfl (o_mvh h9 ?_)
        refine WL.c rfl (o_fa 6 TI39 rfl TI37 rfl h14 ?_)
        refine WL.c rfl (o_ld TI37 rfl rfl (cell_of hC8 rfl) ?_)
        refine WL.c rfl (o_lenR TI37 rfl (Sl.own hu8) ?_)
        refine WL.c rfl (o_subi rfl rfl (by rw [List.length_append, List.length_singleton]; omega) ?_)
        rw [show (((X.tab ++ [rHuge ms[k]]).length : Nat) : Int) - 1 = (X.tab.length : Int) by rw [List.length_append, List.length_singleton]; omega]
        refine WL.c rfl (o_call Try.call26 (lc rfl (lc rfl ln)) ((slot_spec HB p (R.length + 1) R.length LY lv2 U2 (X.tab.length : Int) _ hst8).mono ?_))
        rintro v127 w127 ⟨rfl, hx127⟩
        rw [show slotR LY (X.tab.length : Int) = (rHuge ms[k], 0) by rw [hLY, slotW hq1 (by rw [List.length_append, List.length_singleton]; omega)]; simp]
        replace hst8 := hst8.ext hx127
        replace hR8 := hR8.ext hx127
        replace hu8 := own_ext hu8 hx127
        replace hM8 := Sl.ext hM8 hx127
        replace hC8 := hx127.blk hC8 (fun h => h)
        replace hx8 := hx8.tr hx127
        rw [hLY] at hst8
        refine WL.c rfl (o_mvh (by first | exact (show _ = Value.tuple _ from rfl) | exact rfl) ?_)
        refine WL.c rfl (o_ext rfl rfl ?_)
        refine WL.c rfl (o_ext rfl rfl ?_)
        refine WL.c rfl (o_ash (show _ = Value.int _ _ from rfl) ?_)
        refine WL.c rfl (o_ash (show _ = Value.int _ _ from rfl) ?_)
        refine WL.nil ?_
        refine W.seq ?_
        refine W.region ?_
        refine WL.c rfl (o_mvh (show _ = Value.int _ _ from rfl) ?_)
        refine WL.c rfl (o_mvh h16 ?_)
        refine WL.c rfl (o_ne rfl rfl ?_)
        refine WL.c rfl (o_mvh (show _ = Value.bool _ from rfl) ?_)
        refine WL.g rfl (by simp) rfl (o_mvh (show _ = Value.int _ _ from rfl) ?_)
        refine WL.g rfl (by simp) rfl (o_call Try.call10 (lc rfl ln) ((num_spec _ _).mono ?_))
        rintro v135 w135 ⟨rfl, hw135⟩
        replace hw135 := hw135.symm
        subst hw135
        refine WL.g rfl (by simp) rfl (o_ne rfl rfl ?_)
        refine WL.c rfl (o_pickO rfl rfl ?_)
        refine WL.nil ?_
        refine W.condF' rfl (by simp) ?_
        refine W.skip ?_
        refine W.region ?_
        refine WL.c rfl (o_mvh h15 ?_)
        refine WL.c rfl (o_addi rfl rfl (by omega) ?_)
        refine WL.c rfl (o_ash (show _ = Value.int _ _ from rfl) ?_)
        refine WL.nil ?_
        refine ⟨⟨k + 1, { X with tab := X.tab ++ [rHuge ms[k]] }, v119, lv2, U2, by omega, by omega, by rw [List.length_append, List.length_singleton]; omega, h3, h9, h10, h14, rfl, hM8, hst8, hR8, hA2, hC8, hn8, hr14, hu8, huo8, hx8⟩, ?_⟩
        show ms.length - ((k : Int) + 1).toNat < _
        rw [hm15]; simp only [intOf]; omega
      · try simp only [decide_eq_true_eq, decide_eq_false_iff_not, Bool.not_eq_true', Bool.not_eq_false', Bool.and_eq_true, Bool.or_eq_true, Bool.and_eq_false_iff, Bool.or_eq_false_iff] at c93
        refine W.exit ?_
        refine W.seq ?_
        obtain ⟨go, co, hov, hob, hoc⟩ := hR.at (k := Q.length - 1) (by omega)
        obtain ⟨LX, hLX⟩ : ∃ l, l = Q.set (Q.length - 1) X := ⟨_, rfl⟩
        have hLXl : LX.length = Q.length := by rw [hLX, List.length_set]
        have hLXt : ∀ f ∈ LX, f.tab.length ≤ 400 := fun f hf => by
          rw [hLX] at hf
          rcases List.mem_or_eq_of_mem_set hf with h | rfl
          · have := hQw f h; omega
          · omega
        obtain ⟨Un, hUn⟩ : ∃ u, u = (fun j => if j = Q.length - 1 then xu else Uo j) := ⟨_, rfl⟩
        refine W.region ?_
        refine WL.c rfl (o_mvh h10 ?_)
        refine WL.c rfl (o_mvh h10 ?_)
        refine WL.c rfl (o_lenR TI22 rfl (Sl.own hR.row) ?_)
        refine WL.c rfl (o_subi rfl rfl (by omega) ?_)
        refine WL.c rfl (o_ldA TI39 rfl h14 (show Cells _ c14 0 (fcells X xu) from Cells.of hC14 0 _ (by simp)) rfl ?_)
        refine WL.c rfl (o_ixB (i := Q.length - 1) TI22 TI39 (show _ = Value.slice (some ⟨go, 0, none⟩) Q.length co from hov) (by show Value.int _ ((Q.length : Int) - 1) = _; congr 1; omega) (by omega) ?_)
        refine WL.u (o_stRA TI39 rfl (Nat.zero_add _) (show _ = Value.agg (fcells X xu).toArray from rfl) rfl (fcells_one (own_one hu)) hR.row hob (show Q.length - 1 < Q.length by omega) ?_)
        intro w43 hr43 ho43 hs43
        have hRm := hR.mono hH0
        have hRn : Rows w43 w0.heap.size LX ov Un := by
          rw [hLX, hUn]
          exact Rows.put (f := X) (tv := xu) (by omega) (own_mono hr43 hH0) (Many.replD (hRm.tabs.only ho43 (fun j hj => own_row_off hR.row (hR.tabs.row j hj) (by decide))) (own_only hu ho43 (own_row_off hR.row hu (by decide))) (Nat.le_refl _) (fun j hj k hk hk2 => (huo k hk2).2 (.inr ⟨j, hj, hk⟩)))
        rw [← hLX] at hst
        have hstn := hst.only ho43 (fun j hj hF => hA j (by rw [← hLXl]; exact hj) (.inl hF))
        have hAn : Apt p lv' U' LX.length ov Un LX.length := fun j hj hF => by
          rw [hLXl] at hj hF
          rcases hF with hF | ⟨i, hi, hF⟩
          · exact hA j hj (.inl hF)
          · rw [hUn] at hF
            by_cases e : i = Q.length - 1
            · simp only [if_pos e] at hF; exact (huo j hF).1 hj
            · simp only [if_neg e] at hF; exact hA j hj (.inr ⟨i, hi, hF⟩)
        have hxn : Ext w0 w43 := hx6.trans' ho43 (fun _ h => h) (fun j hj hF => by have := (hR.row.lt j hF).1; omega)
        refine WL.nil ?_
        refine W.seq ?_
        refine W.seq ?_
        refine W.region ?_
        refine WL.c rfl (o_mvh h10 ?_)
        refine WL.c rfl (o_lenR TI22 rfl (Sl.own hRn.row) ?_)
        refine WL.c rfl (o_subi rfl rfl (by omega) ?_)
        refine WL.c rfl (o_ash (show _ = Value.int _ _ from rfl) ?_)
        refine WL.nil ?_
        refine W.block ?_
        refine W.loop (fun e w => ∃ (m : Nat) (lq : Value) (Vq : Nat → Value), m ≤ LX.length ∧ e 9 = .pointer (some ⟨p, 0, none⟩) ∧ e 10 = ov ∧ e 19 = .int .i64 ((m : Int) - 1) ∧ Stk w HB p (R.length + 1) R.length (LX.take m) lq Vq ∧ Rows w w0.heap.size LX ov Un ∧ Apt p lq Vq (LX.take m).length ov Un LX.length ∧ Ext w0 w) (fun e w => (intOf (e 19) + 1).toNat) ?_ ?_
        · exact ⟨LX.length, lv', U', Nat.le_refl _, h9, h10, rfl, by rw [List.take_length]; exact hstn, hRn, by rw [List.take_length]; exact hAn, hxn⟩
        rintro e w ⟨m, lq, Vq, hm, h9, h10, h19, hst2, hR2, hA2, hy⟩
        have hm19 := h19
        have hlk : (LX.take m).length = m := by rw [List.length_take]; omega
        refine W.seq ?_
        refine W.seq ?_
        refine W.region ?_
        refine WL.c rfl (o_mvh h19 ?_)
        refine WL.c rfl (o_ge rfl rfl ?_)
        refine WL.nil ?_
        refine W.cond rfl (fun c148 => ?_) (fun c148 => ?_)
        · try simp only [decide_eq_true_eq, decide_eq_false_iff_not, Bool.not_eq_true', Bool.not_eq_false', Bool.and_eq_true, Bool.or_eq_true, Bool.and_eq_false_iff, Bool.or_eq_false_iff] at c148
          refine W.skip ?_
          refine W.seq ?_
          refine W.block ?_
          refine W.seq ?_
          obtain ⟨m, rfl⟩ : ∃ m', m = m' + 1 := ⟨m - 1, by omega⟩
          have hm1 : m < LX.length := by omega
          have htop : topF (LX.take (m + 1)) = LX[m] := take_last hm1
          refine W.region ?_
          refine WL.c rfl (o_mvh h9 ?_)
          refine WL.c rfl (o_call Try.call14 (lc rfl ln) ((pop_spec HB p (R.length + 1) R.length (LX.take (m + 1)) lq Vq _ hst2).mono ?_))
          rintro v153 w153 ⟨tv, rfl, hcl, lq2, Vq2, t, htv⟩
          rw [htop] at hcl ⊢
          rw [show emptyE (LX.take (m + 1)) = 0 by rw [emptyE, if_neg (by omega)]]
          have htt : (LX.take (m + 1)).take ((LX.take (m + 1)).length - 1) = LX.take m := by rw [hlk, Nat.add_sub_cancel, List.take_take, Nat.min_eq_left (by omega)]
          obtain ⟨hR3, hA3⟩ := hR2.turn t hA2
          replace hy := t.ext hy hH0 hst2
          have hst3 := t.stk
          rw [htt] at hst3 hA3
          have hSt := Clipd.In hcl
          refine WL.c rfl (o_mvh (by first | exact (show _ = Value.tuple _ from rfl) | exact rfl) ?_)
          refine WL.c rfl (o_ext rfl rfl ?_)
          refine WL.c rfl (o_ext rfl rfl ?_)
          refine WL.c rfl (o_alB TI39 ?_)
          intro w12 hC12 hx12 hs12
          refine WL.u (o_stA TI39 rfl (show _ = Value.agg (fcells LX[m] tv).toArray from rfl) rfl (fcells_one (by obtain ⟨a, c, rfl⟩ := hSt.isSlice; rfl)) hC12 rfl ?_)
          intro w13 hB12 ho12 hs13
          have h80s := hy.size
          have hx13 : Ext w153 w13 := hx12.trans' ho12 (fun _ h => h) (fun k hk he => by omega)
          replace hSt := Sl.ext hSt hx13
          replace hst3 := hst3.ext hx13
          replace hR3 := hR3.ext hx13
          replace hy := hy.tr hx13
          obtain ⟨c12, hc12⟩ : ∃ c12, c12 = w153.heap.size := ⟨_, rfl⟩
          rw [← hc12] at hB12 ⊢
          refine WL.c rfl (o_ash (show _ = Value.int _ _ from rfl) ?_)
          refine WL.nil ?_
          refine W.seq ?_
          obtain ⟨wd, hwd⟩ : ∃ wd, wd = w13.drew := ⟨_, rfl⟩
          have hxd : Ext w13 wd := hwd ▸ Only.drew w13
          replace hSt := Sl.ext hSt hxd
          replace hst3 := hst3.ext hxd
          replace hR3 := hR3.ext hxd
          replace hy := hy.tr hxd
          replace hB12 := hxd.blk hB12 (fun h => h)
          obtain ⟨go, co, hov, hob, hoc⟩ := hR3.at (k := m) (by omega)
          rw [getD_at hm1] at hoc
          have hIo : In wd (Un m) LX[m].tab := by have := hR3.tab (k := m) (by omega); rw [tabl, getD_at hm1] at this; exact this
          have hRm := hLXt LX[m] (List.getElem_mem hm1)
          refine W.draw (Ext) [(9, fun v _ => v = _), (10, fun v _ => v = _), (19, fun v _ => v = _), (20, fun v _ => v = _), (21, fun v _ => v = _)] rfl (by kernel_rfl) (Only.refl No) (fun _ _ _ h k => h.trans k) ⟨Mono.eq, Mono.eq, Mono.eq, Mono.eq, Mono.eq, trivial⟩ ⟨h9, h10, h19, rfl, rfl, trivial⟩ ?_
          refine WD.p rfl (fun e w hR hh => by obtain ⟨h21, -⟩ := hh; exact SG.n (o_mvh h21 ⟨rfl, Only.refl No _⟩)) ?_
          refine WD.p rfl (fun e w hR hh => by obtain ⟨h156, -⟩ := hh; exact SG.n (o_call Try.call10 (lc h156 ln) ((num_spec _ _).mono (fun v w' ⟨h1, h2⟩ => ⟨h1, by rw [h2]; exact Only.refl No _⟩)))) ?_
          refine WD.p rfl (fun e w hR hh => by obtain ⟨h157, -⟩ := hh; exact SG.n (o_ne h157 rfl ⟨rfl, Only.refl No _⟩)) ?_
          refine WD.p rfl (fun e w hR hh => by obtain ⟨h158, -⟩ := hh; exact SG.n (o_mvh h158 ⟨rfl, Only.refl No _⟩)) ?_
          refine WD.p rfl (fun e w hR hh => by obtain ⟨h159, h20, -⟩ := hh; rw [← hwd] at hR; exact SG.g h159 (by simp) (o_ldA TI39 rfl h20 (show Cells w c12 0 (fcells LX[m] tv) from Cells.of (hR.blk hB12 (fun h => h)) 0 _ (by simp)) rfl ⟨rfl, Only.refl No _⟩)) ?_
          refine WD.p rfl (fun e w hR hh => by obtain ⟨h159, h10, -⟩ := hh; exact SG.g h159 (by simp) (o_mvh h10 ⟨rfl, Only.refl No _⟩)) ?_
          refine WD.p rfl (fun e w hR hh => by obtain ⟨h159, h19, -⟩ := hh; exact SG.g h159 (by simp) (o_mvh h19 ⟨rfl, Only.refl No _⟩)) ?_
          refine WD.p rfl (fun e w hR hh => by obtain ⟨h162, h161, h159, -⟩ := hh; exact SG.g h159 (by simp) (o_ixB (i := m) TI22 TI39 (h161.trans hov) (h162.trans (by congr 1; omega)) (by omega) ⟨rfl, Only.refl No _⟩)) ?_
          refine WD.p rfl (fun e w hR hh => by obtain ⟨h163, h159, -⟩ := hh; rw [← hwd] at hR; exact SG.g h159 (by simp) (o_ldA TI39 rfl h163 (show Cells w go (0 + m * 7) (fcells LX[m] (Un m)) by rw [Nat.zero_add]; exact hoc.only hR (fun h => h)) rfl ⟨rfl, Only.refl No _⟩)) ?_
          refine WD.p rfl (fun e w hR hh => by obtain ⟨h164, h160, h159, -⟩ := hh; rw [← hwd] at hR; exact SG.g h159 (by simp) (o_call Try.call15 (lc h160 (lc h164 ln)) ((same_spec LX[m] tv (Un m) w (Sl.ext hSt hR) (Sl.ext hIo hR) (by omega)).mono (fun v w' hh => hh)))) ?_
          refine WD.p rfl (fun e w hR hh => by obtain ⟨h165, h159, -⟩ := hh; exact SG.g h159 (by simp) (o_not' h165 ⟨rfl, Only.refl No _⟩)) ?_
          refine WD.p rfl (fun e w hR hh => by obtain ⟨h166, h159, -⟩ := hh; exact SG.n (o_pickO h159 h166 ⟨rfl, Only.refl No _⟩)) ?_
          refine WD.p rfl (fun e w hR hh => by obtain ⟨h167, -⟩ := hh; exact SG.n (o_mvh h167 ⟨rfl, Only.refl No _⟩)) ?_
          refine WD.p rfl (fun e w hR hh => by obtain ⟨h168, h9, -⟩ := hh; exact SG.g h168 (by simp) (o_mvh h9 ⟨rfl, Only.refl No _⟩)) ?_
          refine WD.p rfl (fun e w hR hh => by obtain ⟨h169, h168, -⟩ := hh; rw [← hwd] at hR; exact SG.g h168 (by simp) (o_call Try.call11 (lc h169 ln) ((len_spec HB p (R.length + 1) R.length (LX.take m) lq2 Vq2 w (hst3.ext hR)).mono (fun v w' ⟨h1, h2⟩ => ⟨h1, by rw [h2]; exact Only.refl No _⟩)))) ?_
          refine WD.p rfl (fun e w hR hh => by obtain ⟨h168, h19, -⟩ := hh; exact SG.g h168 (by simp) (o_mvh h19 ⟨rfl, Only.refl No _⟩)) ?_
          refine WD.p rfl (fun e w hR hh => by obtain ⟨h171, h170, h168, -⟩ := hh; exact SG.g h168 (by simp) (o_ne h170 h171 ⟨rfl, Only.refl No _⟩)) ?_
          refine WD.p rfl (fun e w hR hh => by obtain ⟨h172, h168, -⟩ := hh; exact SG.n (o_pickO h168 h172 ⟨rfl, Only.refl No _⟩)) ?_
          rintro e w hR ⟨h173, h172, h171, h170, h169, h168, h167, h166, h165, h164, h163, h162, h161, h160, h159, h158, h157, h156, h9, h10, h19, h20, h21, -⟩
          rw [← hwd] at hR
          refine W.condF' h173 (by simp; omega) ?_
          refine W.skip ?_
          refine W.region ?_
          refine WL.c rfl (o_mvh h19 ?_)
          refine WL.c rfl (o_subi rfl rfl (by omega) ?_)
          refine WL.c rfl (o_ash (show _ = Value.int _ _ from rfl) ?_)
          refine WL.nil ?_
          refine ⟨⟨m, lq2, Vq2, by omega, h9, h10, ?_, hst3.ext hR, hR3.ext hR, hA3, hy.tr hR⟩, ?_⟩
          · show Value.int _ (((m + 1 : Nat) : Int) - 1 - 1) = _; congr 1; omega
          · show (((m + 1 : Nat) : Int) - 1 - 1 + 1).toNat < _
            rw [hm19]; simp only [intOf]; omega
        · try simp only [decide_eq_true_eq, decide_eq_false_iff_not, Bool.not_eq_true', Bool.not_eq_false', Bool.and_eq_true, Bool.or_eq_true, Bool.and_eq_false_iff, Bool.or_eq_false_iff] at c148
          refine W.exit ?_
          refine W.seq ?_
          have hm0 : m = 0 := by omega
          subst hm0
          rw [List.take_zero] at hst2
          refine W.region ?_
          refine WL.c rfl (o_mvh h9 ?_)
          refine WL.c rfl (o_call Try.call14 (lc rfl ln) ((pop_spec HB p (R.length + 1) R.length [] lq Vq _ hst2).mono ?_))
          rintro v176 w176 ⟨tv, rfl, hcl, lq2, Vq2, t, htv⟩
          rw [show emptyE ([] : List Fr) = 220 from rfl]
          replace hy := t.ext hy hH0 hst2
          have hSt := Clipd.In hcl
          refine WL.c rfl (o_mvh (by first | exact (show _ = Value.tuple _ from rfl) | exact rfl) ?_)
          refine WL.c rfl (o_ext rfl rfl ?_)
          refine WL.c rfl (o_ext rfl rfl ?_)
          refine WL.c rfl (o_alB TI39 ?_)
          intro w22 hC22 hx22 hs22
          refine WL.u (o_stA TI39 rfl (show _ = Value.agg (fcells (topF []) tv).toArray from rfl) rfl (fcells_one (by obtain ⟨a, c, rfl⟩ := hSt.isSlice; rfl)) hC22 rfl ?_)
          intro w23 hB22 ho22 hs23
          have h80s := hy.size
          replace hy := (hy.tr hx22).trans' ho22 (fun _ h => h) (fun k hk he => by omega)
          refine WL.c rfl (o_ash (show _ = Value.int _ _ from rfl) ?_)
          refine WL.nil ?_
          refine W.seq ?_
          refine W.region ?_
          refine WL.c rfl (o_mvh (show _ = Value.int _ _ from rfl) ?_)
          refine WL.c rfl (o_call Try.call10 (lc rfl ln) ((num_spec _ _).mono ?_))
          rintro v180 w180 ⟨rfl, hw180⟩
          replace hw180 := hw180.symm
          subst hw180
          refine WL.c rfl (o_eq rfl rfl ?_)
          refine WL.c rfl (o_ash (show _ = Value.bool _ from rfl) ?_)
          refine WL.nil ?_
          refine W.ret ?_
          refine ret1v rfl (show _ = Value.bool _ from rfl) ?_
          exact ⟨congrArg Value.bool (by simp), hy⟩
end Go.Proofs.Ytdiaeafjjffjmaa
