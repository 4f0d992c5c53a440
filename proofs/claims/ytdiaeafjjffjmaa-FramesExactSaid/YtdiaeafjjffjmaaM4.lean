/-
  Walks. Written by program out of specs of mine.
-/
import Derived.Test.YtdiaeafjjffjmaaM3
set_option linter.unusedSimpArgs false
set_option linter.unusedVariables false
set_option maxRecDepth 100000
namespace Go.Proofs.Ytdiaeafjjffjmaa
open Go Go.Vc Go.RowKit Go.Proofs

theorem setW {L : List Fr} {f : Fr} (h : 0 < L.length) (hf : fwhole f = true) : setR L f = (0, L.set (L.length - 1) f) := by rw [setR, if_neg (by omega), if_pos hf]
theorem setE {L : List Fr} {f : Fr} (h : L.length = 0) : setR L f = (220, L) := by rw [setR, if_pos h]
theorem goW {L : List Fr} {f : Fr} (h : 0 < L.length) (hf : fwhole f = true) : goR L f = (0, L.set (L.length - 1) { f with tab := (topF L).tab }) := by
  rw [goR, if_neg (by omega), if_pos (by simp only [fwhole, Bool.and_eq_true] at hf; exact hf.1)]
theorem topF_set {L : List Fr} {f : Fr} (h : 0 < L.length) : topF (L.set (L.length - 1) f) = f := by
  rw [topF, List.length_set, List.getD_eq_getElem?_getD, List.getElem?_set, if_pos rfl, if_pos (by omega)]; rfl
theorem set_set {L : List Fr} {f g : Fr} : (L.set (L.length - 1) f).set ((L.set (L.length - 1) f).length - 1) g = L.set (L.length - 1) g := by
  rw [List.length_set, List.set_set]
theorem markW {L : List Fr} {f : Fr} {a : Int} (h : 0 < L.length) (ha : inb a 0 Huge = true) (hf : f.tab.length < 1048576) : markR (L.set (L.length - 1) f) a = (0, L.set (L.length - 1) { f with tab := f.tab ++ [a] }) := by
  rw [markR, if_neg (by rw [List.length_set]; omega), if_pos ha, topF_set h, if_neg (by omega), set_set]
theorem slotW {L : List Fr} {f : Fr} {k : Nat} (h : 0 < L.length) (hk : k < f.tab.length) : slotR (L.set (L.length - 1) f) (k : Int) = (f.tab[k], 0) := by
  rw [slotR, if_neg (by rw [List.length_set]; omega), topF_set h, if_pos (by rw [inb_iff]; omega), Int.toNat_natCast, List.getD_eq_getElem?_getD, List.getElem?_eq_getElem hk]; rfl
theorem tabl_last {L : List Fr} {f : Fr} (h : 0 < L.length) : tabl (L.set (L.length - 1) f) ((L.set (L.length - 1) f).length - 1) = f.tab := congrArg Fr.tab (topF_set h)
theorem tabl_nil {L : List Fr} (h : L.length = 0) : tabl L (L.length - 1) = [] := congrArg Fr.tab (topF_nil h)
theorem Turn.post {w w' w2 : World} {H p most high high' : Nat} {L L' : List Fr} {lv lv' : Value} {V V' : Nat → Value} (t : Turn w w' H p most high L lv V high' L' lv' V') (hx : Ext w' w2) : Turn w w2 H p most high L lv V high' L' lv' V' := ⟨t.stk.ext hx, t.only.ext hx, t.new⟩
theorem Turn.pre {w0 w w' : World} {H p most high high' : Nat} {L L' : List Fr} {lv lv' : Value} {V V' : Nat → Value} (t : Turn w w' H p most high L lv V high' L' lv' V') (hx : Ext w0 w) : Turn w0 w' H p most high L lv V high' L' lv' V' :=
  ⟨t.stk, hx.trans' t.only (fun _ h => h.elim) (fun _ _ h => h), fun k hk => (t.new k hk).imp id (fun h => by have := hx.size; omega)⟩
theorem Many.replD {w : World} {H0 : Nat} {el : TypeId} {s N : Nat} {V : Nat → Value} {n : Nat → Nat} {X : Nat → List Value} (h : Many w H0 el s N V n X) {j0 b m : Nat} {v : Value} {xs : List Value} (hr : w.ownsRow b el s v m xs) (hb : H0 ≤ b) (hd : ∀ j, j < N → ∀ k, (V j).ownBlock = some k → ¬ v.ownBlock = some k) :
    Many w H0 el s N (fun j => if j = j0 then v else V j) (fun j => if j = j0 then m else n j) (fun j => if j = j0 then xs else X j) := by
  refine ⟨fun j hj => ?_, fun i j hi hj hij k hk => ?_⟩
  · by_cases e : j = j0
    · simp only [if_pos e]; exact own_mono hr hb
    · simp only [if_neg e]; exact h.row j hj
  · by_cases e : i = j0
    · have e2 : j ≠ j0 := by omega
      simp only [if_pos e, if_neg e2] at hk ⊢
      exact fun hk2 => hd j hj k hk2 hk
    · by_cases e2 : j = j0
      · simp only [if_neg e, if_pos e2] at hk ⊢
        exact hd i hi k hk
      · simp only [if_neg e, if_neg e2] at hk ⊢
        exact h.off i j hi hj hij k hk
theorem Rows.mono {w : World} {H H' : Nat} {L : List Fr} {lv : Value} {V : Nat → Value} (h : Rows w H L lv V) (hH : H' ≤ H) : Rows w H' L lv V := ⟨own_mono h.row hH, fun j hj => own_mono (h.tabs.row j hj) hH, h.tabs.off⟩
theorem rHuge_inb (n : Int) : inb (rHuge n) 0 Huge = true := by have := rHuge_in n; rw [inb_iff]; simp only [Huge]; omega

set_option maxHeartbeats 2000000 in
theorem stack_walk (w0 : World) (v : Value) (L : List Fr) (V : Nat → Value) (hF : Fs w0 v L V) (gone : Int) (of : Fr) (ofv : Value) (hO : In w0 ofv of.tab) (mv : Value) (ms : List Int) (hml : ms.length ≤ 9223372036854775807) (hM : In w0 mv ms) : Ca Try.prog 5 #[v, .int .i64 gone, .agg (fcells of ofv).toArray, mv] w0 (fun r w' => r = .bool true ∧ Ext w0 w') := by
  have hM0 := hM
  have hO0 := hO
  refine Ca.of Try.func5 Try.ntmps5 rfl rfl ?_
  refine W.seq ?_
  refine W.region ?_
  refine WL.c rfl (o_boxB rfl ?_)
  intro w6 hC6 hx6 hs6
  replace hC6 : w6.heap[w0.heap.size]? = some (.cells (fcells of ofv).toArray 39 (0, 0)) := hC6
  replace hF := hF.ext hx6
  replace hO := Sl.ext hO hx6
  replace hM := Sl.ext hM hx6
  refine WL.c rfl (o_ash (show _ = Value.bool _ from rfl) ?_)
  refine WL.nil ?_
  refine W.seq ?_
  refine W.seq ?_
  refine W.region ?_
  refine WL.c rfl (o_call Try.call6 ln ((awake_spec _).mono ?_))
  rintro v24 w24 ⟨rfl, hx24⟩
  replace hF := hF.ext hx24
  replace hO := Sl.ext hO hx24
  replace hM := Sl.ext hM hx24
  replace hC6 := hx24.blk hC6 (fun h => h)
  replace hx6 := hx6.tr hx24
  have hlo6 : w0.heap.size < w24.heap.size := (Array.getElem?_eq_some_iff.1 hC6).1
  refine WL.c rfl (o_not' rfl ?_)
  refine WL.nil ?_
  refine W.condF' rfl (rfl) ?_
  refine W.skip ?_
  refine W.seq ?_
  refine W.region ?_
  refine WL.c rfl (o_mvh (by first | exact (show _ = Value.slice _ _ _ from rfl) | exact rfl) ?_)
  refine WL.c rfl (o_mvh (show _ = Value.int _ _ from rfl) ?_)
  refine WL.c rfl (o_call Try.call7 (lc rfl (lc rfl ln)) ((filled_spec L V v gone _ hF).mono ?_))
  rintro v29 w29 ⟨p, lv, U, ov, Uo, R, hR0, rfl, hst, hR, hA, hx29⟩
  have hRl : R.length ≤ 40 := by rw [hR0, List.length_map, List.length_take]; omega
  have hRw : ∀ f ∈ R, f.tab.length ≤ 300 := fun f hf => by
    rw [hR0] at hf
    obtain ⟨x, -, rfl⟩ := List.mem_map.1 hf
    simp only [rightF, List.length_map, List.length_take]; omega
  have hQw : ∀ f ∈ R.take (R.length - goneN gone R.length), f.tab.length ≤ 300 := fun f hf => hRw f (List.mem_of_mem_take hf)
  have hQl : (R.take (R.length - goneN gone R.length)).length ≤ R.length := by rw [List.length_take]; omega
  generalize R.take (R.length - goneN gone R.length) = Q at *
  replace hO := Sl.ext hO hx29
  replace hM := Sl.ext hM hx29
  replace hC6 := hx29.blk hC6 (fun h => h)
  replace hx6 := hx6.tr hx29
  obtain ⟨HB, hHB⟩ : ∃ h, h = w24.heap.size := ⟨_, rfl⟩
  rw [← hHB] at hst hR hlo6
  have hH0 : w0.heap.size ≤ HB := by omega
  have hnc6 : ¬ SF p lv U Q.length w0.heap.size := fun hk => by have := (hst.lt _ hk).1; omega
  obtain ⟨X0, hX0⟩ : ∃ x, x = rightF of := ⟨_, rfl⟩
  have hX0w : fwhole X0 = true := by rw [hX0]; exact rightF_whole of
  have hX03 : X0.tab.length ≤ 300 := by rw [hX0]; simp only [rightF, List.length_map, List.length_take]; omega
  refine WL.c rfl (o_mvh (by first | exact (show _ = Value.tuple _ from rfl) | exact rfl) ?_)
  refine WL.c rfl (o_ext rfl rfl ?_)
  refine WL.c rfl (o_ext rfl rfl ?_)
  refine WL.c rfl (o_ext rfl rfl ?_)
  refine WL.c rfl (o_ash (by first | exact (show _ = Value.pointer _ from rfl) | exact rfl) ?_)
  refine WL.c rfl (o_ash (by first | exact (show _ = Value.slice _ _ _ from rfl) | exact rfl) ?_)
  refine WL.c rfl (o_ash (show _ = Value.bool _ from rfl) ?_)
  refine WL.nil ?_
  refine W.seq ?_
  refine W.seq ?_
  refine W.region ?_
  refine WL.c rfl (o_mvh (show _ = Value.bool _ from rfl) ?_)
  refine WL.c rfl (o_not' rfl ?_)
  refine WL.nil ?_
  refine W.condF' rfl (rfl) ?_
  refine W.skip ?_
  refine W.seq ?_
  refine W.seq ?_
  refine W.region ?_
  refine WL.c rfl (o_mvh (by first | exact (show _ = Value.slice _ _ _ from rfl) | exact rfl) ?_)
  refine WL.c rfl (o_lenR TI22 rfl (Sl.own hR.row) ?_)
  refine WL.c rfl (o_eq rfl rfl ?_)
  refine WL.nil ?_
  refine W.cond rfl (fun c37 => ?_) (fun c37 => ?_)
  · try simp only [decide_eq_true_eq, decide_eq_false_iff_not, Bool.not_eq_true', Bool.not_eq_false', Bool.and_eq_true, Bool.or_eq_true, Bool.and_eq_false_iff, Bool.or_eq_false_iff] at c37
    have hq0 : Q.length = 0 := by omega
    refine W.seq ?_
    refine W.region ?_
    refine WL.c rfl (o_mvh (by first | exact (show _ = Value.pointer _ from rfl) | exact rfl) ?_)
    refine WL.c rfl (o_call Try.call19 (lc rfl ln) ((top_spec HB p (R.length + 1) R.length Q lv U _ hst).mono ?_))
    rintro v40 w40 ⟨tv, rfl, hown40, hx40⟩
    rw [topF_nil hq0, emptyE, if_pos hq0]
    rw [topF_nil hq0] at hown40
    replace hst := hst.ext hx40
    replace hO := Sl.ext hO hx40
    replace hC6 := hx40.blk hC6 (fun h => h)
    replace hx6 := hx6.tr hx40
    refine WL.c rfl (o_mvh (by first | exact (show _ = Value.tuple _ from rfl) | exact rfl) ?_)
    refine WL.c rfl (o_ext rfl rfl ?_)
    refine WL.c rfl (o_ext rfl rfl ?_)
    refine WL.c rfl (o_alB TI39 ?_)
    intro w12 hC12 hx12 hs12
    refine WL.u (o_stA TI39 rfl (show _ = Value.agg (fcells Fr.nil tv).toArray from rfl) rfl (fcells_one (own_one hown40)) hC12 rfl ?_)
    intro w13 hB12 ho12 hs13
    have h40s := hx6.size
    have hx13 : Ext w40 w13 := hx12.trans' ho12 (fun _ h => h) (fun k hk he => by omega)
    replace hst := hst.ext hx13
    replace hO := Sl.ext hO hx13
    replace hC6 := hx13.blk hC6 (fun h => h)
    replace hx6 := hx6.tr hx13
    refine WL.c rfl (o_ash (show _ = Value.int _ _ from rfl) ?_)
    refine WL.nil ?_
    refine W.seq ?_
    refine W.region ?_
    refine WL.c rfl (o_mvh (show _ = Value.int _ _ from rfl) ?_)
    refine WL.c rfl (o_call Try.call10 (lc rfl ln) ((num_spec _ _).mono ?_))
    rintro v44 w44 ⟨rfl, hw44⟩
    replace hw44 := hw44.symm
    subst hw44
    refine WL.c rfl (o_eq rfl rfl ?_)
    refine WL.c rfl (o_mvh (show _ = Value.bool _ from rfl) ?_)
    refine WL.g rfl (by simp) rfl (o_mvh (by first | exact (show _ = Value.pointer _ from rfl) | exact rfl) ?_)
    refine WL.g rfl (by simp) rfl (o_ldA TI39 rfl rfl (show Cells _ w0.heap.size 0 (fcells of ofv) from Cells.of hC6 0 _ (by simp)) rfl ?_)
    refine WL.g rfl (by simp) rfl (o_call Try.call21 (lc rfl ln) ((rightl_spec of ofv _ hO).mono ?_))
    rintro v49 w49 ⟨u0, rfl, hu0, hx49⟩
    rw [← hX0] at hu0 ⊢
    replace hst := hst.ext hx49
    replace hx6 := hx6.tr hx49
    refine WL.g rfl (by simp) rfl (o_call Try.call20 (lc rfl (lc rfl ln)) ((set_spec HB p (R.length + 1) R.length Q lv U X0 u0 _ hst (Sl.own hu0) (by omega)).mono ?_))
    rintro v50 w50 ⟨rfl, lv2, U2, t⟩
    rw [setE hq0] at t ⊢
    replace hx6 := t.ext hx6 hH0 hst
    have hst2 := t.stk
    refine WL.g rfl (by simp) rfl (o_call Try.call10 (lc rfl ln) ((num_spec _ _).mono ?_))
    rintro v51 w51 ⟨rfl, hw51⟩
    replace hw51 := hw51.symm
    subst hw51
    refine WL.g rfl (by simp) rfl (o_eq rfl rfl ?_)
    refine WL.c rfl (o_pickA rfl rfl ?_)
    refine WL.c rfl (o_mvh (show _ = Value.bool _ from rfl) ?_)
    refine WL.g rfl (by simp) rfl (o_mvh (by first | exact (show _ = Value.pointer _ from rfl) | exact rfl) ?_)
    refine WL.g rfl (by simp) rfl (o_call Try.call22 (lc rfl ln) ((slots_spec HB p (R.length + 1) R.length Q lv2 U2 _ hst2).mono ?_))
    rintro v56 w56 ⟨rfl, hx56⟩
    rw [tabl_nil hq0]
    replace hx6 := hx6.tr hx56
    refine WL.g rfl (by simp) rfl (o_eq rfl rfl ?_)
    refine WL.c rfl (o_pickA rfl rfl ?_)
    refine WL.c rfl (o_ash (show _ = Value.bool _ from rfl) ?_)
    refine WL.nil ?_
    refine W.ret ?_
    refine ret1v rfl (show _ = Value.bool _ from rfl) ?_
    exact ⟨congrArg Value.bool (by simp), hx6⟩
  · try simp only [decide_eq_true_eq, decide_eq_false_iff_not, Bool.not_eq_true', Bool.not_eq_false', Bool.and_eq_true, Bool.or_eq_true, Bool.and_eq_false_iff, Bool.or_eq_false_iff] at c37
    have hq1 : 0 < Q.length := by omega
    refine W.skip ?_
    refine W.seq ?_
    refine W.region ?_
    refine WL.c rfl (o_ldA TI39 rfl rfl (show Cells _ w0.heap.size 0 (fcells of ofv) from Cells.of hC6 0 _ (by simp)) rfl ?_)
    refine WL.c rfl (o_call Try.call21 (lc rfl ln) ((rightl_spec of ofv _ hO).mono ?_))
    rintro v60 w60 ⟨u0, rfl, hu0, hx60⟩
    rw [← hX0] at hu0 ⊢
    have hlt60 : ∀ k, SF p lv U Q.length k → k < w29.heap.size := fun k hk => (hst.lt k hk).2
    have hlt60r : ∀ k, RF ov Uo Q.length k → k < w29.heap.size := fun k hk => (hR.lt k hk).2
    replace hst := hst.ext hx60
    replace hR := hR.ext hx60
    replace hO := Sl.ext hO hx60
    replace hM := Sl.ext hM hx60
    replace hC6 := hx60.blk hC6 (fun h => h)
    have h29s := hx60.size
    replace hx6 := hx6.tr hx60
    refine WL.c rfl (o_alB TI39 ?_)
    intro w14 hC14 hx14 hs14
    refine WL.u (o_stA TI39 rfl (show _ = Value.agg (fcells X0 u0).toArray from rfl) rfl (fcells_one (own_one hu0)) hC14 rfl ?_)
    intro w15 hB14 ho14 hs15
    have h60s := hx6.size
    have hx15 : Ext w60 w15 := hx14.trans' ho14 (fun _ h => h) (fun k hk he => by omega)
    obtain ⟨c14, hc14⟩ : ∃ c, c = w60.heap.size := ⟨_, rfl⟩
    rw [← hc14] at hB14 ⊢
    have hn14 : ¬ SF p lv U Q.length c14 := fun hk => by have := hlt60 _ hk; omega
    have hr14 : ¬ RF ov Uo Q.length c14 := fun hk => by have := hlt60r _ hk; omega
    have hc14w : w0.heap.size ≤ c14 := by rw [hc14]; exact h60s
    replace hst := hst.ext hx15
    replace hR := hR.ext hx15
    replace hO := Sl.ext hO hx15
    replace hM := Sl.ext hM hx15
    replace hC6 := hx15.blk hC6 (fun h => h)
    replace hx6 := hx6.tr hx15
    have hU0 : In w15 u0 X0.tab := Sl.ext (Sl.own hu0) hx15
    refine WL.nil ?_
    refine W.seq ?_
    refine W.seq ?_
    refine W.region ?_
    refine WL.c rfl (o_mvh (by first | exact (show _ = Value.slice _ _ _ from rfl) | exact rfl) ?_)
    refine WL.c rfl (o_lenR TI37 rfl hM ?_)
    refine WL.c rfl (o_remN (a := ms.length) (b := 2) rfl rfl (by omega) (by omega) ?_)
    refine WL.c rfl (o_eq rfl rfl ?_)
    refine WL.nil ?_
    refine W.cut (fun e1 w1 => ∃ (X : Fr) (xv lv' : Value) (U' : Nat → Value), X.tab.length ≤ 300 ∧ e1 3 = mv ∧ e1 9 = .pointer (some ⟨p, 0, none⟩) ∧ e1 10 = ov ∧ e1 14 = .pointer (some ⟨c14, 0, none⟩) ∧ In w1 mv ms ∧ Stk w1 HB p (R.length + 1) R.length (Q.set (Q.length - 1) X) lv' U' ∧ Rows w1 HB Q ov Uo ∧ Apt p lv' U' Q.length ov Uo Q.length ∧ w1.heap[c14]? = some (.cells (fcells X xv).toArray 39 (0, 0)) ∧ ¬ SF p lv' U' Q.length c14 ∧ ¬ RF ov Uo Q.length c14 ∧ In w1 xv X.tab ∧ Ext w0 w1) ?_ ?_
    · -- both ways
      refine W.cond rfl (fun c64 => ?_) (fun c64 => ?_)
      · try simp only [decide_eq_true_eq, decide_eq_false_iff_not, Bool.not_eq_true', Bool.not_eq_false', Bool.and_eq_true, Bool.or_eq_true, Bool.and_eq_false_iff, Bool.or_eq_false_iff] at c64
        refine W.seq ?_
        refine W.region ?_
        refine WL.c rfl (o_mvh (by first | exact (show _ = Value.pointer _ from rfl) | exact rfl) ?_)
        refine WL.c rfl (o_ldA TI39 rfl rfl (show Cells _ c14 0 (fcells X0 u0) from Cells.of hB14 0 _ (by simp)) rfl ?_)
        refine WL.c rfl (o_call Try.call20 (lc rfl (lc rfl ln)) ((set_spec HB p (R.length + 1) R.length Q lv U X0 u0 _ hst hU0 (by omega)).mono ?_))
        rintro v67 w67 ⟨rfl, lv67, U67, t⟩
        rw [setW hq1 hX0w] at t ⊢
        have hx67 := t.ext hx6 hH0 hst
        have hst67 : Stk _ _ _ _ _ (Q.set (Q.length - 1) X0) lv67 U67 := t.stk
        obtain ⟨hR67, hA67⟩ := hR.turn t hA
        rw [List.length_set] at hA67
        obtain ⟨hC67, hn67⟩ := t.keep hB14 hn14
        rw [List.length_set] at hn67
        have hI67 : In w67 u0 X0.tab := Sl.own (t.row (own_only hu0 (hx14.trans' ho14 (fun _ h => h) (fun k hk he => by omega)) (fun _ _ h => h)) (fun k hk hF => by have := (hu0.lt k hk).1; have := hlt60 k hF; omega)).1
        have hM67 : In w67 mv ms := Sl.keep hM t.only (fun b hb hF => by have := Sl.low hM0 b hb (by have := (hst.lt b hF).1; omega); exact this)
        refine WL.c rfl (o_call Try.call10 (lc rfl ln) ((num_spec _ _).mono ?_))
        rintro v68 w68 ⟨rfl, hw68⟩
        replace hw68 := hw68.symm
        subst hw68
        refine WL.c rfl (o_ne rfl rfl ?_)
        refine WL.nil ?_
        refine W.condF' rfl (by simp) ?_
        refine W.skip ?_
        first
          | exact ⟨X0, u0, lv67, U67, hX03, rfl, rfl, rfl, rfl, hM67, hst67, hR67, hA67, hC67, hn67, hr14, hI67, hx67⟩
          | exact ⟨{ X0 with tab := Q[Q.length - 1].tab }, Uo (Q.length - 1), lv81, U81, (show Q[Q.length - 1].tab.length ≤ 300 from hQw Q[Q.length - 1] (List.getElem_mem _)), rfl, rfl, rfl, rfl, hM81, hst81, hR81, hA81, hC81, hn81, hr14, hI81, hx81⟩
      · try simp only [decide_eq_true_eq, decide_eq_false_iff_not, Bool.not_eq_true', Bool.not_eq_false', Bool.and_eq_true, Bool.or_eq_true, Bool.and_eq_false_iff, Bool.or_eq_false_iff] at c64
        refine W.seq ?_
        obtain ⟨go, co, hov, hob, hoc⟩ := hR.at (k := Q.length - 1) (by omega)
        have hlast : Q.length - 1 < Q.length := by omega
        rw [getD_at hlast] at hoc
        have hIo : In w15 (Uo (Q.length - 1)) Q[Q.length - 1].tab := by have := hR.tab (k := Q.length - 1) hlast; rw [tabl, getD_at hlast] at this; exact this
        have hUo1 := own_one (hR.tabs.row (Q.length - 1) hlast)
        refine W.region ?_
        refine WL.c rfl (o_mvh (by first | exact (show _ = Value.slice _ _ _ from rfl) | exact rfl) ?_)
        refine WL.c rfl (o_mvh (by first | exact (show _ = Value.slice _ _ _ from rfl) | exact rfl) ?_)
        refine WL.c rfl (o_lenR TI22 rfl (Sl.own hR.row) ?_)
        refine WL.c rfl (o_subi rfl rfl (by omega) ?_)
        refine WL.c rfl (o_ixB (i := Q.length - 1) TI22 TI39 (show _ = Value.slice (some ⟨go, 0, none⟩) Q.length co from hov) (by show Value.int _ ((Q.length : Int) - 1) = _; congr 1; omega) (by omega) ?_)
        refine WL.c rfl (o_fa 6 TI39 rfl TI37 rfl rfl ?_)
        refine WL.c rfl (o_ld TI37 rfl rfl (show World.cell? _ ⟨go, 0 + (Q.length - 1) * 7 + 6, none⟩ = some (Uo (Q.length - 1)) by rw [Nat.zero_add]; exact hoc 6 _ rfl) ?_)
        refine WL.c rfl (o_fa 6 TI39 rfl TI37 rfl rfl ?_)
        refine WL.u (o_stB TI37 rfl (show _ = Uo (Q.length - 1) from rfl) hUo1 hB14 (show 6 < 7 by decide) ?_)
        intro w77 hB77 ho77 hs77
        replace hB77 : w77.heap[c14]? = some (.cells (fcells { X0 with tab := Q[Q.length - 1].tab } (Uo (Q.length - 1))).toArray 39 (0, 0)) := hB77
        have hst7 := hst.only ho77 (fun k hk he => by subst he; exact hn14 hk)
        have hR7 := hR.only ho77 (fun k hk he => by subst he; exact hr14 hk)
        have hx77 : Ext w0 w77 := hx6.trans' ho77 (fun _ h => h) (fun k hk he => by omega)
        have hC67 := ho77.blk hC6 (show ¬ w0.heap.size = c14 by have := hx29.size; omega)
        have hO7 := Sl.keep hO ho77 (fun b hb he => Sl.low hO0 b hb (by omega))
        have hM7 := Sl.keep hM ho77 (fun b hb he => Sl.low hM0 b hb (by omega))
        have hIo7 : In w77 (Uo (Q.length - 1)) Q[Q.length - 1].tab := Sl.only hIo ho77 (fun k hk he => by subst he; exact hr14 (.inr ⟨Q.length - 1, hlast, hk⟩))
        refine WL.nil ?_
        refine W.seq ?_
        refine W.region ?_
        refine WL.c rfl (o_mvh (by first | exact (show _ = Value.pointer _ from rfl) | exact rfl) ?_)
        refine WL.c rfl (o_ldA TI39 rfl rfl (show Cells _ w0.heap.size 0 (fcells of ofv) from Cells.of hC67 0 _ (by simp)) rfl ?_)
        refine WL.c rfl (o_call Try.call21 (lc rfl ln) ((rightl_spec of ofv _ hO7).mono ?_))
        rintro v80 w80 ⟨u1, rfl, hu1, hx80⟩
        rw [← hX0] at hu1 ⊢
        have hst8 := hst7.ext hx80
        have hR8 := hR7.ext hx80
        have hx8 := hx77.tr hx80
        have hB8 := hx80.blk hB77 (fun h => h)
        have hM8 := Sl.ext hM7 hx80
        refine WL.c rfl (o_call Try.call23 (lc rfl (lc rfl ln)) ((go_spec HB p (R.length + 1) R.length Q lv U X0 u1 _ hst8).mono ?_))
        rintro v81 w81 ⟨rfl, lv81, U81, t⟩
        have htq : (topF Q).tab = Q[Q.length - 1].tab := congrArg Fr.tab (topF_pos hq1)
        rw [goW hq1 hX0w, htq] at t ⊢
        have hx81 := t.ext hx8 hH0 hst8
        have hst81 : Stk _ _ _ _ _ (Q.set (Q.length - 1) { X0 with tab := Q[Q.length - 1].tab }) lv81 U81 := t.stk
        obtain ⟨hR81, hA81⟩ := hR8.turn t hA
        rw [List.length_set] at hA81
        obtain ⟨hC81, hn81⟩ := t.keep hB8 hn14
        rw [List.length_set] at hn81
        have hI81 : In w81 (Uo (Q.length - 1)) Q[Q.length - 1].tab := by have := hR81.tab (k := Q.length - 1) hlast; rw [tabl, getD_at hlast] at this; exact this
        have hM81 : In w81 mv ms := Sl.keep hM8 t.only (fun b hb hF => by have := Sl.low hM0 b hb (by have := (hst8.lt b hF).1; omega); exact this)
        refine WL.c rfl (o_call Try.call10 (lc rfl ln) ((num_spec _ _).mono ?_))
        rintro v82 w82 ⟨rfl, hw82⟩
        replace hw82 := hw82.symm
        subst hw82
        refine WL.c rfl (o_ne rfl rfl ?_)
        refine WL.nil ?_
        refine W.condF' rfl (by simp) ?_
        refine W.skip ?_
        first
          | exact ⟨X0, u0, lv67, U67, hX03, rfl, rfl, rfl, rfl, hM67, hst67, hR67, hA67, hC67, hn67, hr14, hI67, hx67⟩
          | exact ⟨{ X0 with tab := Q[Q.length - 1].tab }, Uo (Q.length - 1), lv81, U81, (show Q[Q.length - 1].tab.length ≤ 300 from hQw Q[Q.length - 1] (List.getElem_mem _)), rfl, rfl, rfl, rfl, hM81, hst81, hR81, hA81, hC81, hn81, hr14, hI81, hx81⟩
    rintro e w ⟨X, xv, lv', U', hX3, h3, h9, h10, h14, hM, hst, hR, hA, hC14, hn14, hr14, hI, hx6⟩
    refine W.seq ?_
    skip
    · skip
      have hw1s := hx6.size
      refine W.region ?_
      refine WL.c rfl (o_ldA TI39 rfl h14 (show Cells _ c14 0 (fcells X xv) from Cells.of hC14 0 _ (by simp)) rfl ?_)
      refine WL.c rfl (o_call Try.call24 (lc rfl ln) ((ownr_spec X xv _ hI (by omega)).mono ?_))
      rintro v85 w85 ⟨xu, rfl, hu, hx85⟩
      have hlts : ∀ k, SF p lv' U' Q.length k → k < w85.heap.size := fun k hk => by have := (hst.lt k (by rw [List.length_set]; exact hk)).2; have := hx85.size; omega
      have huo : ∀ j, xu.ownBlock = some j → ¬ SF p lv' U' Q.length j ∧ ¬ RF ov Uo Q.length j := fun j hj => ⟨fun hk => by have := (hst.lt j (by rw [List.length_set]; exact hk)).2; have := (hu.lt j hj).1; omega, fun hk => by have := (hR.lt j hk).2; have := (hu.lt j hj).1; omega⟩
      replace hu := own_mono hu hx6.size
      replace hst := hst.ext hx85
      replace hR := hR.ext hx85
      replace hC14 := hx85.blk hC14 (fun h => h)
      replace hM := Sl.ext hM hx85
      replace hx6 := hx6.tr hx85
      refine WL.u (o_stA TI39 h14 (show _ = Value.agg (fcells X xu).toArray from rfl) rfl (fcells_one (own_one hu)) hC14 rfl ?_)
      intro w15 hB14 ho14 hs15
      have hu14 := own_only hu ho14 (fun k hk he => by subst he; exact own_off hu hC14 (by decide) hk)
      have hst5 := hst.only ho14 (fun k hk he => by subst he; rw [List.length_set] at hk; exact hn14 hk)
      have hR5 := hR.only ho14 (fun k hk he => by subst he; exact hr14 hk)
      have hc14g : w0.heap.size ≤ c14 := hc14w
      have hx5 : Ext w0 w15 := hx6.trans' ho14 (fun _ h => h) (fun k hk he => by omega)
      have hM5 : In w15 mv ms := Sl.keep hM ho14 (fun b hb he => Sl.low hM0 b hb (by omega))
      clear hst hR hM hC14 hx6 hu
      refine WL.nil ?_
      refine W.seq ?_
      refine W.seq ?_
      refine W.region ?_
      refine WL.c rfl (o_ash (show _ = Value.int _ _ from rfl) ?_)
      refine WL.nil ?_
      refine W.block ?_
      refine W.loop (fun e w => ∃ (k : Nat) (X : Fr) (xu lv' : Value) (U' : Nat → Value), k ≤ ms.length ∧ k ≤ 100 ∧ X.tab.length ≤ 300 + k ∧ e 3 = mv ∧ e 9 = .pointer (some ⟨p, 0, none⟩) ∧ e 10 = ov ∧ e 14 = .pointer (some ⟨c14, 0, none⟩) ∧ e 15 = .int .i64 (k : Int) ∧ In w mv ms ∧ Stk w HB p (R.length + 1) R.length (Q.set (Q.length - 1) X) lv' U' ∧ Rows w HB Q ov Uo ∧ Apt p lv' U' Q.length ov Uo Q.length ∧ w.heap[c14]? = some (.cells (fcells X xu).toArray 39 (0, 0)) ∧ ¬ SF p lv' U' Q.length c14 ∧ ¬ RF ov Uo Q.length c14 ∧ w.ownsRow w0.heap.size 3 1 xu X.tab.length (ints X.tab) ∧ (∀ j, xu.ownBlock = some j → ¬ SF p lv' U' Q.length j ∧ ¬ RF ov Uo Q.length j) ∧ Ext w0 w) (fun e w => ms.length - (intOf (e 15)).toNat) ?_ ?_
      · exact ⟨0, X, xu, lv', U', Nat.zero_le _, Nat.zero_le _, by omega, h3, h9, h10, h14, rfl, hM5, hst5, hR5, hA, hB14, hn14, hr14, hu14, huo, hx5⟩
      rintro e w ⟨k, X, xu, lv', U', hk, hk100, hXl, h3, h9, h10, h14, h15, hM, hst, hR, hA, hC14, hn14, hr14, hu, huo, hx6⟩
      have hm15 := h15
      refine W.seq ?_
      refine W.seq ?_
      refine W.region ?_
      refine WL.cut (fun e1 w1 => e1 93 = .bool (decide (k < ms.length) && decide (k < 100)) ∧ e1 3 = mv ∧ e1 9 = .pointer (some ⟨p, 0, none⟩) ∧ e1 10 = ov ∧ e1 14 = .pointer (some ⟨c14, 0, none⟩) ∧ e1 15 = .int .i64 (k : Int) ∧ w1 = w) ?_ ?_
      · -- region 18
        refine WL.c rfl (o_mvh h15 ?_)
        refine WL.c rfl (o_mvh h3 ?_)
        refine WL.c rfl (o_lenR TI37 rfl hM ?_)
        refine WL.c rfl (o_lt rfl rfl ?_)
        refine WL.c rfl (o_mvh (show _ = Value.bool _ from rfl) ?_)
        refine WL.sp 4 rfl (fun g90 => ?_) (fun g90 => ?_)
        · skip
          refine WL.g rfl (g90) rfl (o_mvh h15 ?_)
          refine WL.g rfl (g90) rfl (o_lt rfl rfl ?_)
          refine WL.c rfl (o_pickA rfl rfl ?_)
          exact WL.nil (⟨congrArg Value.bool (by rw [Bool.eq_iff_iff]; simp only [decide_eq_true_eq, decide_eq_false_iff_not, Bool.and_eq_true, Bool.false_eq_true, false_iff, true_and] at g90 ⊢; omega), h3, h9, h10, h14, h15, rfl⟩)
        · skip
          refine WL.s rfl (g90) rfl ?_
          refine WL.s rfl (g90) rfl ?_
          refine WL.c rfl (o_pickF rfl (g90) ?_)
          exact WL.nil (⟨congrArg Value.bool (by rw [Bool.eq_iff_iff]; simp only [decide_eq_true_eq, decide_eq_false_iff_not, Bool.and_eq_true, Bool.false_eq_true, false_iff, true_and] at g90 ⊢; omega), h3, h9, h10, h14, h15, rfl⟩)
      rintro e w ⟨h93, h3, h9, h10, h14, h15, hw1⟩
      replace hw1 := hw1.symm
      subst hw1
      refine W.cond h93 (fun c93 => ?_) (fun c93 => ?_)
      · try simp only [decide_eq_true_eq, decide_eq_false_iff_not, Bool.not_eq_true', Bool.not_eq_false', Bool.and_eq_true, Bool.or_eq_true, Bool.and_eq_false_iff, Bool.or_eq_false_iff] at c93
        refine W.skip ?_
        refine W.seq ?_
        refine W.block ?_
        refine W.seq ?_
        have hk1 : k < ms.length := by omega
        have hk2 : k < 100 := by omega
        refine W.region ?_
        refine WL.c rfl (o_mvh h3 ?_)
        refine WL.c rfl (o_mvh h15 ?_)
        refine WL.c rfl (o_ix1 TI37 TI3 rfl rfl hM (by omega) ?_)
        intro b98 o98 hc98 hb98
        refine WL.c rfl (o_ld TI3 rfl rfl (hc98.trans (getint hk1)) ?_)
        refine WL.c rfl (o_call Try.call13 (lc rfl (lc rfl ln)) ((rest_spec ms[k] 4611686018427387904 _ (by decide) (by decide)).mono ?_))
        rintro v100 w100 ⟨rfl, hw100⟩
        replace hw100 := hw100.symm
        subst hw100
        rw [show ms[k] % 4611686018427387904 = rHuge ms[k] from rfl]
        refine WL.c rfl (o_ash (show _ = Value.int _ _ from rfl) ?_)
        refine WL.nil ?_
        refine W.seq ?_
        refine W.seq ?_
        have hRo := hR
        obtain ⟨wd, hwd⟩ : ∃ wd, wd = w.drew := ⟨_, rfl⟩
        have hxd : Ext w wd := hwd ▸ Only.drew w
        replace hst := hst.ext hxd
        replace hRo := hRo.ext hxd
        replace hC14 := hxd.blk hC14 (fun h => h)
        replace hM := Sl.ext hM hxd
        replace hu := own_ext hu hxd
        replace hx6 := hx6.tr hxd
        obtain ⟨LX, hLX⟩ : ∃ l, l = Q.set (Q.length - 1) X := ⟨_, rfl⟩
        obtain ⟨LY, hLY⟩ : ∃ l, l = Q.set (Q.length - 1) { X with tab := X.tab ++ [rHuge ms[k]] } := ⟨_, rfl⟩
        have hLXl : LX.length = Q.length := by rw [hLX, List.length_set]
        have hLYl : LY.length = Q.length := by rw [hLY, List.length_set]
        have hmk : markR LX (rHuge ms[k]) = (0, LY) := by rw [hLX, hLY]; exact markW hq1 (rHuge_inb _) (by omega)
        have hsl : (tabl LY (LY.length - 1)).length = X.tab.length + 1 := by rw [hLY, tabl_last hq1, List.length_append, List.length_singleton]
        rw [← hLX] at hst
        rw [← hLXl] at hn14
        refine W.drawF 13 [2] [SF p lv' U' LX.length] [(3, fun v _ => v = _), (9, fun v _ => v = _), (10, fun v _ => v = _), (14, fun v _ => v = _), (15, fun v _ => v = _), (16, fun v _ => v = _)] rfl (by kernel_rfl) (by kernel_rfl) ⟨Mono.eq, Mono.eq, Mono.eq, Mono.eq, Mono.eq, Mono.eq, trivial⟩ ⟨h3, h9, h10, h14, h15, rfl, trivial⟩ ?_
        refine WDS.p rfl (by decide) (fun e w hR hh => by obtain ⟨h9, -⟩ := hh; exact SG.n (o_mvh h9 ⟨rfl, Only.refl No _⟩)) ?_
        refine WDS.p rfl (by decide) (fun e w hR hh => by obtain ⟨h16, -⟩ := hh; exact SG.n (o_mvh h16 ⟨rfl, Only.refl No _⟩)) ?_
        refine WDS.mf 0 1 (fun v w => v = .int .i64 0 ∧ ∃ lv2 U2, Turn wd w HB p (R.length + 1) R.length LX lv' U' R.length LY lv2 U2) (fun v w w2 hR hh => by obtain ⟨h1, lv2, U2, h2⟩ := hh; exact ⟨h1, lv2, U2, h2.post hR⟩) (by kernel_rfl) rfl rfl rfl (fun e w hR hW hh => by obtain ⟨h102, h101, -⟩ := hh; rw [← hwd] at hW; have hW2 : Ext wd w := hW.mono (fun _ _ h => h); exact SGX.n (OP.x (o_call Try.call25 (lc h101 (lc h102 ln)) ((mark_spec HB p (R.length + 1) R.length LX lv' U' (rHuge ms[k]) w (hst.ext hW2)).mono (fun v w' hh => by obtain ⟨h1, lv2, U2, h2⟩ := hh; rw [hmk] at h1 h2; exact ⟨⟨h1, lv2, U2, h2.pre hW2⟩, h2.only⟩))))) ?_
        refine WDS.q 1 (fun v w => v = .int .i64 0 ∧ ∃ lv2 U2, Turn wd w HB p (R.length + 1) R.length LX lv' U' R.length LY lv2 U2) (fun v w w2 hR hh => by obtain ⟨h1, lv2, U2, h2⟩ := hh; exact ⟨h1, lv2, U2, h2.post hR⟩) (by kernel_rfl) rfl (by decide) (fun e w hR hh => by obtain ⟨h103, -⟩ := hh; obtain ⟨h103, hT⟩ := h103; exact SG.n (o_call Try.call10 (lc h103 ln) ((num_spec 0 _).mono (fun v w' hh => by obtain ⟨rfl, rfl⟩ := hh; exact ⟨⟨rfl, hT⟩, Only.refl No _⟩)))) ?_
        refine WDS.q 1 (fun v w => v = .bool false ∧ ∃ lv2 U2, Turn wd w HB p (R.length + 1) R.length LX lv' U' R.length LY lv2 U2) (fun v w w2 hR hh => by obtain ⟨h1, lv2, U2, h2⟩ := hh; exact ⟨h1, lv2, U2, h2.post hR⟩) (by kernel_rfl) rfl (by decide) (fun e w hR hh => by obtain ⟨h104, -⟩ := hh; obtain ⟨h104, hT⟩ := h104; exact SG.n (o_ne h104 rfl ⟨⟨rfl, hT⟩, Only.refl No _⟩)) ?_
        refine WDS.q 1 (fun v w => v = .bool false ∧ ∃ lv2 U2, Turn wd w HB p (R.length + 1) R.length LX lv' U' R.length LY lv2 U2) (fun v w w2 hR hh => by obtain ⟨h1, lv2, U2, h2⟩ := hh; exact ⟨h1, lv2, U2, h2.post hR⟩) (by kernel_rfl) rfl (by decide) (fun e w hR hh => by obtain ⟨h105, -⟩ := hh; skip; exact SG.n (o_mv ⟨h105, Only.refl No _⟩)) ?_
        refine WDS.p rfl (by decide) (fun e w hR hh => by obtain ⟨h106, h9, -⟩ := hh; obtain ⟨h106, lv2, U2, t⟩ := h106; exact SG.g h106 (rfl) (o_mvh h9 ⟨rfl, Only.refl No _⟩)) ?_
        refine WDS.p rfl (by decide) (fun e w hR hh => by obtain ⟨h107, h106, -⟩ := hh; obtain ⟨h106, lv2, U2, t⟩ := h106; exact SG.g h106 (rfl) (o_call Try.call22 (lc h107 ln) ((slots_spec HB p (R.length + 1) R.length LY lv2 U2 w t.stk).mono (fun v w' hh => by obtain ⟨h1, h2⟩ := hh; rw [hsl] at h1; exact ⟨h1, h2⟩)))) ?_
        refine WDS.p rfl (by decide) (fun e w hR hh => by obtain ⟨h106, h14, -⟩ := hh; obtain ⟨h106, lv2, U2, t⟩ := h106; exact SG.g h106 (rfl) (o_fa 6 TI39 rfl TI37 rfl h14 ⟨rfl, Only.refl No _⟩)) ?_
        refine WDS.p rfl (by decide) (fun e w hR hh => by obtain ⟨h109, h106, -⟩ := hh; obtain ⟨h106, -⟩ := h106; rw [← hwd] at hR; have hc := hR.blk hC14 (fun hF => by rcases hF with hF | hF; exact hn14 hF; exact hF); exact SG.g h106 (rfl) (o_ld TI37 rfl h109 (cell_of hc rfl) ⟨rfl, Only.refl No _⟩)) ?_
        refine WDS.p rfl (by decide) (fun e w hR hh => by obtain ⟨h110, h106, -⟩ := hh; obtain ⟨h106, -⟩ := h106; rw [← hwd] at hR; have hu2 := own_only hu hR (fun j hj hF => by rcases hF with hF | hF; exact (huo j hj).1 (by rw [← hLXl]; exact hF); exact hF); exact SG.g h106 (rfl) (o_lenR TI37 h110 (Sl.own hu2) ⟨rfl, Only.refl No _⟩)) ?_
        refine WDS.p rfl (by decide) (fun e w hR hh => by obtain ⟨h111, h106, -⟩ := hh; obtain ⟨h106, lv2, U2, t⟩ := h106; exact SG.g h106 (rfl) (o_addi h111 rfl (by omega) ⟨rfl, Only.refl No _⟩)) ?_
        refine WDS.p rfl (by decide) (fun e w hR hh => by obtain ⟨h112, h108, h106, -⟩ := hh; obtain ⟨h106, lv2, U2, t⟩ := h106; exact SG.g h106 (rfl) (o_ne h108 h112 ⟨rfl, Only.refl No _⟩)) ?_
        rintro e w hR ⟨h113, h112, h111, h110, h109, h108, h107, h106, h105, h104, h103, h102, h101, h3, h9, h10, h14, h15, h16, -⟩
        rw [← hwd] at hR
        obtain ⟨h106, lv2, U2, t⟩ := h106
        refine WL.c rfl (o_pickO h106 h113 ?_)
        refine WL.nil ?_
        have hst2 := t.stk
        obtain ⟨hRo2, hA2⟩ := hRo.turn t (by rw [hLXl]; exact hA)
        obtain ⟨hC2, hn2⟩ := t.keep hC14 hn14
        obtain ⟨hu2, hun2⟩ := t.row hu (fun j hj => by rw [hLXl]; exact (huo j hj).1)
        have hM2 : In w mv ms := Sl.keep hM t.only (fun b hb hF => Sl.low hM0 b hb (by have := (hst.lt b hF).1; omega))
        have hx2 := t.ext hx6 hH0 hst
        rw [hLYl] at hA2 hn2 hun2
        refine W.condF' rfl (by simp) ?_
        refine W.skip ?_
        refine W.seq ?_
        refine W.region ?_
        refine WL.c rfl (o_fa 6 TI39 rfl TI37 rfl h14 ?_)
        refine WL.c rfl (o_ld TI37 rfl rfl (cell_of hC2 rfl) ?_)
        refine WL.c rfl (o_mvh h16 ?_)
        refine WL.apO (w0.heap.size) rfl rfl TI37 TI3 (show _ = Value.int _ _ from rfl) rfl hu2 (by decide) (by decide) rfl (one1 rfl) rfl (by rw [maxLen_eq]; omega) (by omega) hx2.size ?_
        intro v119 w119 hown119 ho119 hb119 hk119
        have hst7 := hst2.only ho119 (fun j hj hF => hun2 j hF (by rw [← hLYl]; exact hj))
        have hR7 := hRo2.only ho119 (fun j hj hF => (huo j hF).2 hj)
        have hC7 := ho119.blk hC2 (own_off hu2 hC2 (by decide))
        have hM7 : In w119 mv ms := Sl.keep hM2 ho119 (fun b hb hF => Sl.low hM0 b hb (hu2.lt b hF).1)
        have hx7 : Ext w0 w119 := hx2.trans' ho119 (fun _ h => h) (fun j hj hF => by have := (hu2.lt j hF).1; omega)
        have huo8 : ∀ j, v119.ownBlock = some j → ¬ SF p lv2 U2 Q.length j ∧ ¬ RF ov Uo Q.length j := fun j hj => by
          rcases hb119 with hb | hb <;> rw [hb] at hj
          · exact ⟨hun2 j hj, (huo j hj).2⟩
          · cases hj
            exact ⟨fun h => by have := (hst2.lt _ (by rw [hLYl]; exact h)).2; omega, fun h => by have := (hRo2.lt _ h).2; omega⟩
        have hu7 : w119.ownsRow w0.heap.size 3 1 v119 (X.tab ++ [rHuge ms[k]]).length (ints (X.tab ++ [rHuge ms[k]])) := by
          rw [List.length_append, List.length_singleton, ints, List.map_append]; exact hown119
        refine WL.c rfl (o_fa 6 TI39 rfl TI37 rfl h14 ?_)
        refine WL.u (o_stB TI37 rfl (show _ = v119 from rfl) (own_one hown119) hC7 (show 6 < 7 by decide) ?_)
        intro w120 hB120 ho120 hs120
        have hC8 : w120.heap[c14]? = some (.cells (fcells { X with tab := X.tab ++ [rHuge ms[k]] } v119).toArray 39 (0, 0)) := hB120
        have hst8 := hst7.only ho120 (fun j hj he => by subst he; rw [hLYl] at hj; exact hn2 hj)
        have hR8 := hR7.only ho120 (fun j hj he => by subst he; exact hr14 hj)
        have hu8 := own_only hu7 ho120 (fun j hj he => by subst he; exact own_off hu7 hC7 (by decide) hj)
        have hM8 : In w120 mv ms := Sl.keep hM7 ho120 (fun b hb he => Sl.low hM0 b hb (by omega))
        have hx8 : Ext w0 w120 := hx7.trans' ho120 (fun _ h => h) (fun j hj he => by omega)
        have hn8 := hn2
        refine WL.nil ?_
        refine W.seq ?_
        refine W.region ?_
        refine WL.c rfl (o_mvh h9 ?_)
        refine WL.c rfl (o_fa 6 TI39 rfl TI37 rfl h14 ?_)
        refine WL.c rfl (o_ld TI37 rfl rfl (cell_of hC8 rfl) ?_)
        refine WL.c rfl (o_lenR TI37 rfl (Sl.own hu8) ?_)
        refine WL.c rfl (o_subi rfl rfl (by rw [List.length_append, List.length_singleton]; omega) ?_)
        rw [show (((X.tab ++ [rHuge ms[k]]).length : Nat) : Int) - 1 = (X.tab.length : Int) by rw [List.length_append, List.length_singleton]; omega]
        refine WL.c rfl (o_call Try.call26 (lc rfl (lc rfl ln)) ((slot_spec HB p (R.length + 1) R.length LY lv2 U2 (X.tab.length : Int) _ hst8).mono ?_))
        rintro v127 w127 ⟨rfl, hx127⟩
        rw [show slotR LY (X.tab.length : Int) = (rHuge ms[k], 0) by rw [hLY, slotW hq1 (by rw [List.length_append, List.length_singleton]; omega)]; simp]
        replace hst8 := hst8.ext hx127
        replace hR8 := hR8.ext hx127
        replace hu8 := own_ext hu8 hx127
        replace hM8 := Sl.ext hM8 hx127
        replace hC8 := hx127.blk hC8 (fun h => h)
        replace hx8 := hx8.tr hx127
        rw [hLY] at hst8
        refine WL.c rfl (o_mvh (by first | exact (show _ = Value.tuple _ from rfl) | exact rfl) ?_)
        refine WL.c rfl (o_ext rfl rfl ?_)
        refine WL.c rfl (o_ext rfl rfl ?_)
        refine WL.c rfl (o_ash (show _ = Value.int _ _ from rfl) ?_)
        refine WL.c rfl (o_ash (show _ = Value.int _ _ from rfl) ?_)
        refine WL.nil ?_
        refine W.seq ?_
        refine W.region ?_
        refine WL.c rfl (o_mvh (show _ = Value.int _ _ from rfl) ?_)
        refine WL.c rfl (o_mvh h16 ?_)
        refine WL.c rfl (o_ne rfl rfl ?_)
        refine WL.c rfl (o_mvh (show _ = Value.bool _ from rfl) ?_)
        refine WL.g rfl (by simp) rfl (o_mvh (show _ = Value.int _ _ from rfl) ?_)
        refine WL.g rfl (by simp) rfl (o_call Try.call10 (lc rfl ln) ((num_spec _ _).mono ?_))
        rintro v135 w135 ⟨rfl, hw135⟩
        replace hw135 := hw135.symm
        subst hw135
        refine WL.g rfl (by simp) rfl (o_ne rfl rfl ?_)
        refine WL.c rfl (o_pickO rfl rfl ?_)
        refine WL.nil ?_
        refine W.condF' rfl (by simp) ?_
        refine W.skip ?_
        refine W.region ?_
        refine WL.c rfl (o_mvh h15 ?_)
        refine WL.c rfl (o_addi rfl rfl (by omega) ?_)
        refine WL.c rfl (o_ash (show _ = Value.int _ _ from rfl) ?_)
        refine WL.nil ?_
        refine ⟨⟨k + 1, { X with tab := X.tab ++ [rHuge ms[k]] }, v119, lv2, U2, by omega, by omega, by rw [List.length_append, List.length_singleton]; omega, h3, h9, h10, h14, rfl, hM8, hst8, hR8, hA2, hC8, hn8, hr14, hu8, huo8, hx8⟩, ?_⟩
        show ms.length - ((k : Int) + 1).toNat < _
        rw [hm15]; simp only [intOf]; omega
      · try simp only [decide_eq_true_eq, decide_eq_false_iff_not, Bool.not_eq_true', Bool.not_eq_false', Bool.and_eq_true, Bool.or_eq_true, Bool.and_eq_false_iff, Bool.or_eq_false_iff] at c93
        refine W.exit ?_
        refine W.seq ?_
        obtain ⟨go, co, hov, hob, hoc⟩ := hR.at (k := Q.length - 1) (by omega)
        obtain ⟨LX, hLX⟩ : ∃ l, l = Q.set (Q.length - 1) X := ⟨_, rfl⟩
        have hLXl : LX.length = Q.length := by rw [hLX, List.length_set]
        have hLXt : ∀ f ∈ LX, f.tab.length ≤ 400 := fun f hf => by
          rw [hLX] at hf
          rcases List.mem_or_eq_of_mem_set hf with h | rfl
          · have := hQw f h; omega
          · omega
        obtain ⟨Un, hUn⟩ : ∃ u, u = (fun j => if j = Q.length - 1 then xu else Uo j) := ⟨_, rfl⟩
        refine W.region ?_
        refine WL.c rfl (o_mvh h10 ?_)
        refine WL.c rfl (o_mvh h10 ?_)
        refine WL.c rfl (o_lenR TI22 rfl (Sl.own hR.row) ?_)
        refine WL.c rfl (o_subi rfl rfl (by omega) ?_)
        refine WL.c rfl (o_ldA TI39 rfl h14 (show Cells _ c14 0 (fcells X xu) from Cells.of hC14 0 _ (by simp)) rfl ?_)
        refine WL.c rfl (o_ixB (i := Q.length - 1) TI22 TI39 (show _ = Value.slice (some ⟨go, 0, none⟩) Q.length co from hov) (by show Value.int _ ((Q.length : Int) - 1) = _; congr 1; omega) (by omega) ?_)
        refine WL.u (o_stRA TI39 rfl (Nat.zero_add _) (show _ = Value.agg (fcells X xu).toArray from rfl) rfl (fcells_one (own_one hu)) hR.row hob (show Q.length - 1 < Q.length by omega) ?_)
        intro w43 hr43 ho43 hs43
        have hRm := hR.mono hH0
        have hRn : Rows w43 w0.heap.size LX ov Un := by
          rw [hLX, hUn]
          exact Rows.put (f := X) (tv := xu) (by omega) (own_mono hr43 hH0) (Many.replD (hRm.tabs.only ho43 (fun j hj => own_row_off hR.row (hR.tabs.row j hj) (by decide))) (own_only hu ho43 (own_row_off hR.row hu (by decide))) (Nat.le_refl _) (fun j hj k hk hk2 => (huo k hk2).2 (.inr ⟨j, hj, hk⟩)))
        rw [← hLX] at hst
        have hstn := hst.only ho43 (fun j hj hF => hA j (by rw [← hLXl]; exact hj) (.inl hF))
        have hAn : Apt p lv' U' LX.length ov Un LX.length := fun j hj hF => by
          rw [hLXl] at hj hF
          rcases hF with hF | ⟨i, hi, hF⟩
          · exact hA j hj (.inl hF)
          · rw [hUn] at hF
            by_cases e : i = Q.length - 1
            · simp only [if_pos e] at hF; exact (huo j hF).1 hj
            · simp only [if_neg e] at hF; exact hA j hj (.inr ⟨i, hi, hF⟩)
        have hxn : Ext w0 w43 := hx6.trans' ho43 (fun _ h => h) (fun j hj hF => by have := (hR.row.lt j hF).1; omega)
        refine WL.nil ?_
        refine W.seq ?_
        refine W.seq ?_
        refine W.region ?_
        refine WL.c rfl (o_mvh h10 ?_)
        refine WL.c rfl (o_lenR TI22 rfl (Sl.own hRn.row) ?_)
        refine WL.c rfl (o_subi rfl rfl (by omega) ?_)
        refine WL.c rfl (o_ash (show _ = Value.int _ _ from rfl) ?_)
        refine WL.nil ?_
        refine W.block ?_
        refine W.loop (fun e w => ∃ (m : Nat) (lq : Value) (Vq : Nat → Value), m ≤ LX.length ∧ e 9 = .pointer (some ⟨p, 0, none⟩) ∧ e 10 = ov ∧ e 19 = .int .i64 ((m : Int) - 1) ∧ Stk w HB p (R.length + 1) R.length (LX.take m) lq Vq ∧ Rows w w0.heap.size LX ov Un ∧ Apt p lq Vq (LX.take m).length ov Un LX.length ∧ Ext w0 w) (fun e w => (intOf (e 19) + 1).toNat) ?_ ?_
        · exact ⟨LX.length, lv', U', Nat.le_refl _, h9, h10, rfl, by rw [List.take_length]; exact hstn, hRn, by rw [List.take_length]; exact hAn, hxn⟩
        rintro e w ⟨m, lq, Vq, hm, h9, h10, h19, hst2, hR2, hA2, hy⟩
        have hm19 := h19
        have hlk : (LX.take m).length = m := by rw [List.length_take]; omega
        refine W.seq ?_
        refine W.seq ?_
        refine W.region ?_
        refine WL.c rfl (o_mvh h19 ?_)
        refine WL.c rfl (o_ge rfl rfl ?_)
        refine WL.nil ?_
        refine W.cond rfl (fun c148 => ?_) (fun c148 => ?_)
        · try simp only [decide_eq_true_eq, decide_eq_false_iff_not, Bool.not_eq_true', Bool.not_eq_false', Bool.and_eq_true, Bool.or_eq_true, Bool.and_eq_false_iff, Bool.or_eq_false_iff] at c148
          refine W.skip ?_
          refine W.seq ?_
          refine W.block ?_
          refine W.seq ?_
          obtain ⟨m, rfl⟩ : ∃ m', m = m' + 1 := ⟨m - 1, by omega⟩
          have hm1 : m < LX.length := by omega
          have htop : topF (LX.take (m + 1)) = LX[m] := take_last hm1
          refine W.region ?_
          refine WL.c rfl (o_mvh h9 ?_)
          refine WL.c rfl (o_call Try.call14 (lc rfl ln) ((pop_spec HB p (R.length + 1) R.length (LX.take (m + 1)) lq Vq _ hst2).mono ?_))
          rintro v153 w153 ⟨tv, rfl, hcl, lq2, Vq2, t, htv⟩
          rw [htop] at hcl ⊢
          rw [show emptyE (LX.take (m + 1)) = 0 by rw [emptyE, if_neg (by omega)]]
          have htt : (LX.take (m + 1)).take ((LX.take (m + 1)).length - 1) = LX.take m := by rw [hlk, Nat.add_sub_cancel, List.take_take, Nat.min_eq_left (by omega)]
          obtain ⟨hR3, hA3⟩ := hR2.turn t hA2
          replace hy := t.ext hy hH0 hst2
          have hst3 := t.stk
          rw [htt] at hst3 hA3
          have hSt := Clipd.In hcl
          refine WL.c rfl (o_mvh (by first | exact (show _ = Value.tuple _ from rfl) | exact rfl) ?_)
          refine WL.c rfl (o_ext rfl rfl ?_)
          refine WL.c rfl (o_ext rfl rfl ?_)
          refine WL.c rfl (o_alB TI39 ?_)
          intro w12 hC12 hx12 hs12
          refine WL.u (o_stA TI39 rfl (show _ = Value.agg (fcells LX[m] tv).toArray from rfl) rfl (fcells_one (by obtain ⟨a, c, rfl⟩ := hSt.isSlice; rfl)) hC12 rfl ?_)
          intro w13 hB12 ho12 hs13
          have h80s := hy.size
          have hx13 : Ext w153 w13 := hx12.trans' ho12 (fun _ h => h) (fun k hk he => by omega)
          replace hSt := Sl.ext hSt hx13
          replace hst3 := hst3.ext hx13
          replace hR3 := hR3.ext hx13
          replace hy := hy.tr hx13
          obtain ⟨c12, hc12⟩ : ∃ c12, c12 = w153.heap.size := ⟨_, rfl⟩
          rw [← hc12] at hB12 ⊢
          refine WL.c rfl (o_ash (show _ = Value.int _ _ from rfl) ?_)
          refine WL.nil ?_
          refine W.seq ?_
          obtain ⟨wd, hwd⟩ : ∃ wd, wd = w13.drew := ⟨_, rfl⟩
          have hxd : Ext w13 wd := hwd ▸ Only.drew w13
          replace hSt := Sl.ext hSt hxd
          replace hst3 := hst3.ext hxd
          replace hR3 := hR3.ext hxd
          replace hy := hy.tr hxd
          replace hB12 := hxd.blk hB12 (fun h => h)
          obtain ⟨go, co, hov, hob, hoc⟩ := hR3.at (k := m) (by omega)
          rw [getD_at hm1] at hoc
          have hIo : In wd (Un m) LX[m].tab := by have := hR3.tab (k := m) (by omega); rw [tabl, getD_at hm1] at this; exact this
          have hRm := hLXt LX[m] (List.getElem_mem hm1)
          refine W.draw (Ext) [(9, fun v _ => v = _), (10, fun v _ => v = _), (19, fun v _ => v = _), (20, fun v _ => v = _), (21, fun v _ => v = _)] rfl (by kernel_rfl) (Only.refl No) (fun _ _ _ h k => h.trans k) ⟨Mono.eq, Mono.eq, Mono.eq, Mono.eq, Mono.eq, trivial⟩ ⟨h9, h10, h19, rfl, rfl, trivial⟩ ?_
          refine WD.p rfl (fun e w hR hh => by obtain ⟨h21, -⟩ := hh; exact SG.n (o_mvh h21 ⟨rfl, Only.refl No _⟩)) ?_
          refine WD.p rfl (fun e w hR hh => by obtain ⟨h156, -⟩ := hh; exact SG.n (o_call Try.call10 (lc h156 ln) ((num_spec _ _).mono (fun v w' ⟨h1, h2⟩ => ⟨h1, by rw [h2]; exact Only.refl No _⟩)))) ?_
          refine WD.p rfl (fun e w hR hh => by obtain ⟨h157, -⟩ := hh; exact SG.n (o_ne h157 rfl ⟨rfl, Only.refl No _⟩)) ?_
          refine WD.p rfl (fun e w hR hh => by obtain ⟨h158, -⟩ := hh; exact SG.n (o_mvh h158 ⟨rfl, Only.refl No _⟩)) ?_
          refine WD.p rfl (fun e w hR hh => by obtain ⟨h159, h20, -⟩ := hh; rw [← hwd] at hR; exact SG.g h159 (by simp) (o_ldA TI39 rfl h20 (show Cells w c12 0 (fcells LX[m] tv) from Cells.of (hR.blk hB12 (fun h => h)) 0 _ (by simp)) rfl ⟨rfl, Only.refl No _⟩)) ?_
          refine WD.p rfl (fun e w hR hh => by obtain ⟨h159, h10, -⟩ := hh; exact SG.g h159 (by simp) (o_mvh h10 ⟨rfl, Only.refl No _⟩)) ?_
          refine WD.p rfl (fun e w hR hh => by obtain ⟨h159, h19, -⟩ := hh; exact SG.g h159 (by simp) (o_mvh h19 ⟨rfl, Only.refl No _⟩)) ?_
          refine WD.p rfl (fun e w hR hh => by obtain ⟨h162, h161, h159, -⟩ := hh; exact SG.g h159 (by simp) (o_ixB (i := m) TI22 TI39 (h161.trans hov) (h162.trans (by congr 1; omega)) (by omega) ⟨rfl, Only.refl No _⟩)) ?_
          refine WD.p rfl (fun e w hR hh => by obtain ⟨h163, h159, -⟩ := hh; rw [← hwd] at hR; exact SG.g h159 (by simp) (o_ldA TI39 rfl h163 (show Cells w go (0 + m * 7) (fcells LX[m] (Un m)) by rw [Nat.zero_add]; exact hoc.only hR (fun h => h)) rfl ⟨rfl, Only.refl No _⟩)) ?_
          refine WD.p rfl (fun e w hR hh => by obtain ⟨h164, h160, h159, -⟩ := hh; rw [← hwd] at hR; exact SG.g h159 (by simp) (o_call Try.call15 (lc h160 (lc h164 ln)) ((same_spec LX[m] tv (Un m) w (Sl.ext hSt hR) (Sl.ext hIo hR) (by omega)).mono (fun v w' hh => hh)))) ?_
          refine WD.p rfl (fun e w hR hh => by obtain ⟨h165, h159, -⟩ := hh; exact SG.g h159 (by simp) (o_not' h165 ⟨rfl, Only.refl No _⟩)) ?_
          refine WD.p rfl (fun e w hR hh => by obtain ⟨h166, h159, -⟩ := hh; exact SG.n (o_pickO h159 h166 ⟨rfl, Only.refl No _⟩)) ?_
          refine WD.p rfl (fun e w hR hh => by obtain ⟨h167, -⟩ := hh; exact SG.n (o_mvh h167 ⟨rfl, Only.refl No _⟩)) ?_
          refine WD.p rfl (fun e w hR hh => by obtain ⟨h168, h9, -⟩ := hh; exact SG.g h168 (by simp) (o_mvh h9 ⟨rfl, Only.refl No _⟩)) ?_
          refine WD.p rfl (fun e w hR hh => by obtain ⟨h169, h168, -⟩ := hh; rw [← hwd] at hR; exact SG.g h168 (by simp) (o_call Try.call11 (lc h169 ln) ((len_spec HB p (R.length + 1) R.length (LX.take m) lq2 Vq2 w (hst3.ext hR)).mono (fun v w' ⟨h1, h2⟩ => ⟨h1, by rw [h2]; exact Only.refl No _⟩)))) ?_
          refine WD.p rfl (fun e w hR hh => by obtain ⟨h168, h19, -⟩ := hh; exact SG.g h168 (by simp) (o_mvh h19 ⟨rfl, Only.refl No _⟩)) ?_
          refine WD.p rfl (fun e w hR hh => by obtain ⟨h171, h170, h168, -⟩ := hh; exact SG.g h168 (by simp) (o_ne h170 h171 ⟨rfl, Only.refl No _⟩)) ?_
          refine WD.p rfl (fun e w hR hh => by obtain ⟨h172, h168, -⟩ := hh; exact SG.n (o_pickO h168 h172 ⟨rfl, Only.refl No _⟩)) ?_
          rintro e w hR ⟨h173, h172, h171, h170, h169, h168, h167, h166, h165, h164, h163, h162, h161, h160, h159, h158, h157, h156, h9, h10, h19, h20, h21, -⟩
          rw [← hwd] at hR
          refine W.condF' h173 (by simp; omega) ?_
          refine W.skip ?_
          refine W.region ?_
          refine WL.c rfl (o_mvh h19 ?_)
          refine WL.c rfl (o_subi rfl rfl (by omega) ?_)
          refine WL.c rfl (o_ash (show _ = Value.int _ _ from rfl) ?_)
          refine WL.nil ?_
          refine ⟨⟨m, lq2, Vq2, by omega, h9, h10, ?_, hst3.ext hR, hR3.ext hR, hA3, hy.tr hR⟩, ?_⟩
          · show Value.int _ (((m + 1 : Nat) : Int) - 1 - 1) = _; congr 1; omega
          · show (((m + 1 : Nat) : Int) - 1 - 1 + 1).toNat < _
            rw [hm19]; simp only [intOf]; omega
        · try simp only [decide_eq_true_eq, decide_eq_false_iff_not, Bool.not_eq_true', Bool.not_eq_false', Bool.and_eq_true, Bool.or_eq_true, Bool.and_eq_false_iff, Bool.or_eq_false_iff] at c148
          refine W.exit ?_
          refine W.seq ?_
          have hm0 : m = 0 := by omega
          subst hm0
          rw [List.take_zero] at hst2
          refine W.region ?_
          refine WL.c rfl (o_mvh h9 ?_)
          refine WL.c rfl (o_call Try.call14 (lc rfl ln) ((pop_spec HB p (R.length + 1) R.length [] lq Vq _ hst2).mono ?_))
          rintro v176 w176 ⟨tv, rfl, hcl, lq2, Vq2, t, htv⟩
          rw [show emptyE ([] : List Fr) = 220 from rfl]
          replace hy := t.ext hy hH0 hst2
          have hSt := Clipd.In hcl
          refine WL.c rfl (o_mvh (by first | exact (show _ = Value.tuple _ from rfl) | exact rfl) ?_)
          refine WL.c rfl (o_ext rfl rfl ?_)
          refine WL.c rfl (o_ext rfl rfl ?_)
          refine WL.c rfl (o_alB TI39 ?_)
          intro w22 hC22 hx22 hs22
          refine WL.u (o_stA TI39 rfl (show _ = Value.agg (fcells (topF []) tv).toArray from rfl) rfl (fcells_one (by obtain ⟨a, c, rfl⟩ := hSt.isSlice; rfl)) hC22 rfl ?_)
          intro w23 hB22 ho22 hs23
          have h80s := hy.size
          replace hy := (hy.tr hx22).trans' ho22 (fun _ h => h) (fun k hk he => by omega)
          refine WL.c rfl (o_ash (show _ = Value.int _ _ from rfl) ?_)
          refine WL.nil ?_
          refine W.seq ?_
          refine W.region ?_
          refine WL.c rfl (o_mvh (show _ = Value.int _ _ from rfl) ?_)
          refine WL.c rfl (o_call Try.call10 (lc rfl ln) ((num_spec _ _).mono ?_))
          rintro v180 w180 ⟨rfl, hw180⟩
          replace hw180 := hw180.symm
          subst hw180
          refine WL.c rfl (o_eq rfl rfl ?_)
          refine WL.c rfl (o_ash (show _ = Value.bool _ from rfl) ?_)
          refine WL.nil ?_
          refine W.ret ?_
          refine ret1v rfl (show _ = Value.bool _ from rfl) ?_
          exact ⟨congrArg Value.bool (by simp), hy⟩

theorem stack_walk' (w0 : World) (v : Value) (os : List FrD) (hol : os.length ≤ maxLen) (hS : Sl w0 7 v os.length (os.flatMap frV)) (ht : ∀ o ∈ os, In w0 o.2 o.1.tab) (gone : Int) (_ : -9223372036854775808 ≤ gone ∧ gone ≤ 9223372036854775807) (o2 : FrD) (hO : In w0 o2.2 o2.1.tab) (mv : Value) (ms : List Int) (hml : ms.length ≤ 9223372036854775807) (hM : In w0 mv ms) :
    Ca Try.prog 5 #[v, .int .i64 gone, .agg (frV o2).toArray, mv] w0 (fun r w' => r = .bool true ∧ Ext w0 w') :=
  stack_walk w0 v _ _ (Fs.open hS ht) gone o2.1 o2.2 hO mv ms hml hM

/-- the program's stack -/
structure RStk (w : World) (H p most high : Nat) (L : List Fr) (lv : Value) (V : Nat → Value) : Prop where
  cell : w.heap[p]? = some (.cells #[lv, .int .i64 (most : Int), .int .i64 (high : Int)] 95 (0, 0))
  rows : Rows w H L lv V
  lo : H ≤ p
  mb : most ≤ 1048576
  len : L.length ≤ most
  tl : ∀ k, k < L.length → (tabl L k).length ≤ 1048576
theorem RStk.p_off {w : World} {H p : Nat} {most high : Nat} {L : List Fr} {lv : Value} {V : Nat → Value} (h : RStk w H p most high L lv V) : ¬ RF lv V L.length p := by
  rintro (hk | ⟨j, hj, hk⟩)
  · exact own_off h.rows.row h.cell (by decide) hk
  · exact own_off (h.rows.tabs.row j hj) h.cell (by decide) hk
theorem RStk.only {w w' : World} {H p : Nat} {most high : Nat} {L : List Fr} {lv : Value} {V : Nat → Value} {F : Nat → Prop} (h : RStk w H p most high L lv V) (ho : Only F w w') (hn : ∀ k, SF p lv V L.length k → ¬ F k) : RStk w' H p most high L lv V :=
  ⟨ho.blk h.cell (hn p (.inl rfl)), h.rows.only ho (fun k hk => hn k (.inr hk)), h.lo, h.mb, h.len, h.tl⟩
theorem RStk.ext {w w' : World} {H p : Nat} {most high : Nat} {L : List Fr} {lv : Value} {V : Nat → Value} (h : RStk w H p most high L lv V) (ho : Ext w w') : RStk w' H p most high L lv V := h.only ho (fun _ _ h => h)
theorem RStk.lt {w : World} {H p : Nat} {most high : Nat} {L : List Fr} {lv : Value} {V : Nat → Value} (h : RStk w H p most high L lv V) : ∀ k, SF p lv V L.length k → H ≤ k ∧ k < w.heap.size := fun k hk => by
  rcases hk with rfl | hk
  · exact ⟨h.lo, (Array.getElem?_eq_some_iff.1 h.cell).1⟩
  · exact h.rows.lt k hk
/-- a call that turns a stack: what it has then, where it may have written, what it may hold -/
structure RTurn (w w' : World) (H p most high : Nat) (L : List Fr) (lv : Value) (V : Nat → Value) (high' : Nat) (L' : List Fr) (lv' : Value) (V' : Nat → Value) : Prop where
  stk : RStk w' H p most high' L' lv' V'
  only : Only (SF p lv V L.length) w w'
  new : ∀ k, SF p lv' V' L'.length k → SF p lv V L.length k ∨ w.heap.size ≤ k
theorem RTurn.same {w w' : World} {H p most high : Nat} {L : List Fr} {lv : Value} {V : Nat → Value} (h : RStk w H p most high L lv V) (hx : Ext w w') : RTurn w w' H p most high L lv V high L lv V :=
  ⟨h.ext hx, hx.mono (fun _ _ h => h.elim), fun _ h => .inl h⟩
theorem RTurn.keep {w w' : World} {H p most high high' : Nat} {L L' : List Fr} {lv lv' : Value} {V V' : Nat → Value} {c : Nat} {o : Obj} (t : RTurn w w' H p most high L lv V high' L' lv' V') (hC : w.heap[c]? = some o) (hn : ¬ SF p lv V L.length c) : w'.heap[c]? = some o ∧ ¬ SF p lv' V' L'.length c :=
  ⟨t.only.blk hC hn, fun h => by
    rcases t.new _ h with h | h
    · exact hn h
    · have := (Array.getElem?_eq_some_iff.1 hC).1; omega⟩
theorem RTurn.row {w w' : World} {H p most high high' B s n : Nat} {el : TypeId} {L L' : List Fr} {lv lv' v : Value} {V V' : Nat → Value} {xs : List Value} (t : RTurn w w' H p most high L lv V high' L' lv' V') (hr : w.ownsRow B el s v n xs) (hn : ∀ k, v.ownBlock = some k → ¬ SF p lv V L.length k) : w'.ownsRow B el s v n xs ∧ ∀ k, v.ownBlock = some k → ¬ SF p lv' V' L'.length k :=
  ⟨own_only hr t.only hn, fun k hk h => by
    rcases t.new _ h with h | h
    · exact hn k hk h
    · have := (hr.lt k hk).2; omega⟩
theorem RTurn.ext {w w' : World} {H p most high high' : Nat} {L L' : List Fr} {lv lv' : Value} {V V' : Nat → Value} (t : RTurn w w' H p most high L lv V high' L' lv' V') {w0 : World} (hx : Ext w0 w) (hH : w0.heap.size ≤ H) (h : RStk w H p most high L lv V) : Ext w0 w' :=
  hx.trans' t.only (fun _ h => h) (fun k hk hF => by have := (h.lt k hF).1; omega)
theorem Rows.rturn {w w' : World} {H p most high high' K : Nat} {L L' R : List Fr} {lv lv' ov : Value} {V V' U : Nat → Value} (hR : Rows w K R ov U) (t : RTurn w w' H p most high L lv V high' L' lv' V') (hA : Apt p lv V L.length ov U R.length) : Rows w' K R ov U ∧ Apt p lv' V' L'.length ov U R.length :=
  ⟨hR.only t.only (fun k hk hF => hA k hF hk), fun k hk hF => by
    rcases t.new _ hk with h | h
    · exact hA k h hF
    · have := (hR.lt k hF).2; omega⟩
theorem RTurn.post {w w' w2 : World} {H p most high high' : Nat} {L L' : List Fr} {lv lv' : Value} {V V' : Nat → Value} (t : RTurn w w' H p most high L lv V high' L' lv' V') (hx : Ext w' w2) : RTurn w w2 H p most high L lv V high' L' lv' V' := ⟨t.stk.ext hx, t.only.ext hx, t.new⟩
theorem RTurn.pre {w0 w w' : World} {H p most high high' : Nat} {L L' : List Fr} {lv lv' : Value} {V V' : Nat → Value} (t : RTurn w w' H p most high L lv V high' L' lv' V') (hx : Ext w0 w) : RTurn w0 w' H p most high L lv V high' L' lv' V' :=
  ⟨t.stk, hx.trans' t.only (fun _ h => h.elim) (fun _ _ h => h), fun k hk => (t.new k hk).imp id (fun h => by have := hx.size; omega)⟩

theorem rin_spec (n lo hi : Int) (w : World) : Ca Try.prog 54 #[.int .i64 n, .int .i64 lo, .int .i64 hi] w (fun v w' => v = .bool (inb n lo hi) ∧ w' = w) := by
  refine Ca.of Try.func54 Try.ntmps54 rfl rfl ?_
  refine W.seq ?_
  refine W.region ?_
  refine WL.c rfl (o_ash (show _ = Value.bool _ from rfl) ?_)
  refine WL.nil ?_
  refine W.seq ?_
  refine W.region ?_
  refine WL.c rfl (o_mvh (show _ = Value.int _ _ from rfl) ?_)
  refine WL.c rfl (o_mvh (show _ = Value.int _ _ from rfl) ?_)
  refine WL.c rfl (o_ge rfl rfl ?_)
  refine WL.c rfl (o_mvh (show _ = Value.bool _ from rfl) ?_)
  refine WL.sp 3 rfl (fun g10 => ?_) (fun g10 => ?_)
  · skip
    refine WL.g rfl (g10) rfl (o_mvh (show _ = Value.int _ _ from rfl) ?_)
    refine WL.g rfl (g10) rfl (o_mvh (show _ = Value.int _ _ from rfl) ?_)
    refine WL.g rfl (g10) rfl (o_le rfl rfl ?_)
    refine WL.c rfl (o_pickA rfl rfl ?_)
    refine WL.c rfl (o_ash (show _ = Value.bool _ from rfl) ?_)
    refine WL.nil ?_
    refine W.ret ?_
    refine ret1v rfl (show _ = Value.bool _ from rfl) ?_
    exact ⟨congrArg Value.bool (by rw [Bool.eq_iff_iff]; simp_all [inb] <;> omega), rfl⟩
  · skip
    refine WL.s rfl (g10) rfl ?_
    refine WL.s rfl (g10) rfl ?_
    refine WL.s rfl (g10) rfl ?_
    refine WL.c rfl (o_pickF rfl (g10) ?_)
    refine WL.c rfl (o_ash (show _ = Value.bool _ from rfl) ?_)
    refine WL.nil ?_
    refine W.ret ?_
    refine ret1v rfl (show _ = Value.bool _ from rfl) ?_
    exact ⟨congrArg Value.bool (by rw [Bool.eq_iff_iff]; simp_all [inb] <;> omega), rfl⟩
theorem rright_spec (f : Fr) (tv : Value) (w0 : World) (hS : In w0 tv f.tab) (hl : f.tab.length ≤ maxLen) : Ca Try.prog 72 #[.agg (fcells f tv).toArray] w0 (fun v w' => v = .bool (fwhole f) ∧ Ext w0 w') := by
  rw [maxLen_eq] at hl
  refine Ca.of Try.func72 Try.ntmps72 rfl rfl ?_
  refine W.seq ?_
  refine W.region ?_
  refine WL.c rfl (o_boxB rfl ?_)
  intro wb hC1 hx1 hs1
  replace hC1 : wb.heap[w0.heap.size]? = some (.cells (fcells f tv).toArray 39 (0, 0)) := hC1
  replace hS := Sl.ext hS hx1
  refine WL.c rfl (o_ash (show _ = Value.bool _ from rfl) ?_)
  refine WL.nil ?_
  refine W.seq ?_
  refine W.seq ?_
  refine W.region ?_
  refine WL.cut (fun e1 w1 => e1 1 = .pointer (some ⟨w0.heap.size, 0, none⟩) ∧ e1 43 = .bool (!(fright f && decide (f.tab.length ≤ 1048576))) ∧ w1 = wb) ?_ ?_
  · -- region 1
    refine WL.c rfl (o_fa 0 TI39 rfl TI3 rfl rfl ?_)
    refine WL.c rfl (o_ld TI3 rfl rfl (cell_of hC1 rfl) ?_)
    refine WL.c rfl (o_call Try.call54 (lc rfl (lc rfl (lc rfl ln))) ((rin_spec _ _ _ _).mono ?_))
    rintro v6 w6 ⟨rfl, hw6⟩
    replace hw6 := hw6.symm
    subst hw6
    refine WL.c rfl (o_not' rfl ?_)
    refine WL.c rfl (o_mvh (show _ = Value.bool _ from rfl) ?_)
    refine WL.sp 4 rfl (fun g8 => ?_) (fun g8 => ?_)
    · skip
      refine WL.s rfl (g8) rfl ?_
      refine WL.s rfl (g8) rfl ?_
      refine WL.s rfl (g8) rfl ?_
      refine WL.s rfl (g8) rfl ?_
      refine WL.c rfl (o_pickT rfl (g8) ?_)
      refine WL.c rfl (o_mvh (show _ = Value.bool _ from rfl) ?_)
      refine WL.s rfl (rfl) rfl ?_
      refine WL.s rfl (rfl) rfl ?_
      refine WL.s rfl (rfl) rfl ?_
      refine WL.s rfl (rfl) rfl ?_
      refine WL.c rfl (o_pickT rfl (rfl) ?_)
      refine WL.c rfl (o_mvh (show _ = Value.bool _ from rfl) ?_)
      refine WL.s rfl (rfl) rfl ?_
      refine WL.s rfl (rfl) rfl ?_
      refine WL.s rfl (rfl) rfl ?_
      refine WL.s rfl (rfl) rfl ?_
      refine WL.c rfl (o_pickT rfl (rfl) ?_)
      refine WL.c rfl (o_mvh (show _ = Value.bool _ from rfl) ?_)
      refine WL.s rfl (rfl) rfl ?_
      refine WL.s rfl (rfl) rfl ?_
      refine WL.s rfl (rfl) rfl ?_
      refine WL.s rfl (rfl) rfl ?_
      refine WL.c rfl (o_pickT rfl (rfl) ?_)
      refine WL.c rfl (o_mvh (show _ = Value.bool _ from rfl) ?_)
      refine WL.s rfl (rfl) rfl ?_
      refine WL.s rfl (rfl) rfl ?_
      refine WL.s rfl (rfl) rfl ?_
      refine WL.s rfl (rfl) rfl ?_
      refine WL.c rfl (o_pickT rfl (rfl) ?_)
      refine WL.c rfl (o_mvh (show _ = Value.bool _ from rfl) ?_)
      refine WL.s rfl (rfl) rfl ?_
      refine WL.s rfl (rfl) rfl ?_
      refine WL.s rfl (rfl) rfl ?_
      refine WL.s rfl (rfl) rfl ?_
      refine WL.c rfl (o_pickT rfl (rfl) ?_)
      exact WL.nil (⟨rfl, congrArg Value.bool (by rw [Bool.eq_iff_iff]; simp_all [fright] <;> omega), rfl⟩)
    · skip
      refine WL.g rfl (g8) rfl (o_fa 1 TI39 rfl TI3 rfl rfl ?_)
      refine WL.g rfl (g8) rfl (o_ld TI3 rfl rfl (cell_of hC1 rfl) ?_)
      refine WL.g rfl (g8) rfl (o_call Try.call54 (lc rfl (lc rfl (lc rfl ln))) ((rin_spec _ _ _ _).mono ?_))
      rintro v11 w11 ⟨rfl, hw11⟩
      replace hw11 := hw11.symm
      subst hw11
      refine WL.g rfl (g8) rfl (o_not' rfl ?_)
      refine WL.c rfl (o_pickO rfl rfl ?_)
      refine WL.c rfl (o_mvh (show _ = Value.bool _ from rfl) ?_)
      refine WL.sp 10 rfl (fun g14 => ?_) (fun g14 => ?_)
      · skip
        refine WL.s rfl (g14) rfl ?_
        refine WL.s rfl (g14) rfl ?_
        refine WL.s rfl (g14) rfl ?_
        refine WL.s rfl (g14) rfl ?_
        refine WL.c rfl (o_pickT rfl (g14) ?_)
        refine WL.c rfl (o_mvh (show _ = Value.bool _ from rfl) ?_)
        refine WL.s rfl (rfl) rfl ?_
        refine WL.s rfl (rfl) rfl ?_
        refine WL.s rfl (rfl) rfl ?_
        refine WL.s rfl (rfl) rfl ?_
        refine WL.c rfl (o_pickT rfl (rfl) ?_)
        refine WL.c rfl (o_mvh (show _ = Value.bool _ from rfl) ?_)
        refine WL.s rfl (rfl) rfl ?_
        refine WL.s rfl (rfl) rfl ?_
        refine WL.s rfl (rfl) rfl ?_
        refine WL.s rfl (rfl) rfl ?_
        refine WL.c rfl (o_pickT rfl (rfl) ?_)
        refine WL.c rfl (o_mvh (show _ = Value.bool _ from rfl) ?_)
        refine WL.s rfl (rfl) rfl ?_
        refine WL.s rfl (rfl) rfl ?_
        refine WL.s rfl (rfl) rfl ?_
        refine WL.s rfl (rfl) rfl ?_
        refine WL.c rfl (o_pickT rfl (rfl) ?_)
        refine WL.c rfl (o_mvh (show _ = Value.bool _ from rfl) ?_)
        refine WL.s rfl (rfl) rfl ?_
        refine WL.s rfl (rfl) rfl ?_
        refine WL.s rfl (rfl) rfl ?_
        refine WL.s rfl (rfl) rfl ?_
        refine WL.c rfl (o_pickT rfl (rfl) ?_)
        exact WL.nil (⟨rfl, congrArg Value.bool (by rw [Bool.eq_iff_iff]; simp_all [fright] <;> omega), rfl⟩)
      · skip
        refine WL.g rfl (g14) rfl (o_fa 2 TI39 rfl TI3 rfl rfl ?_)
        refine WL.g rfl (g14) rfl (o_ld TI3 rfl rfl (cell_of hC1 rfl) ?_)
        refine WL.g rfl (g14) rfl (o_call Try.call54 (lc rfl (lc rfl (lc rfl ln))) ((rin_spec _ _ _ _).mono ?_))
        rintro v17 w17 ⟨rfl, hw17⟩
        replace hw17 := hw17.symm
        subst hw17
        refine WL.g rfl (g14) rfl (o_not' rfl ?_)
        refine WL.c rfl (o_pickO rfl rfl ?_)
        refine WL.c rfl (o_mvh (show _ = Value.bool _ from rfl) ?_)
        refine WL.sp 16 rfl (fun g20 => ?_) (fun g20 => ?_)
        · skip
          refine WL.s rfl (g20) rfl ?_
          refine WL.s rfl (g20) rfl ?_
          refine WL.s rfl (g20) rfl ?_
          refine WL.s rfl (g20) rfl ?_
          refine WL.c rfl (o_pickT rfl (g20) ?_)
          refine WL.c rfl (o_mvh (show _ = Value.bool _ from rfl) ?_)
          refine WL.s rfl (rfl) rfl ?_
          refine WL.s rfl (rfl) rfl ?_
          refine WL.s rfl (rfl) rfl ?_
          refine WL.s rfl (rfl) rfl ?_
          refine WL.c rfl (o_pickT rfl (rfl) ?_)
          refine WL.c rfl (o_mvh (show _ = Value.bool _ from rfl) ?_)
          refine WL.s rfl (rfl) rfl ?_
          refine WL.s rfl (rfl) rfl ?_
          refine WL.s rfl (rfl) rfl ?_
          refine WL.s rfl (rfl) rfl ?_
          refine WL.c rfl (o_pickT rfl (rfl) ?_)
          refine WL.c rfl (o_mvh (show _ = Value.bool _ from rfl) ?_)
          refine WL.s rfl (rfl) rfl ?_
          refine WL.s rfl (rfl) rfl ?_
          refine WL.s rfl (rfl) rfl ?_
          refine WL.s rfl (rfl) rfl ?_
          refine WL.c rfl (o_pickT rfl (rfl) ?_)
          exact WL.nil (⟨rfl, congrArg Value.bool (by rw [Bool.eq_iff_iff]; simp_all [fright] <;> omega), rfl⟩)
        · skip
          refine WL.g rfl (g20) rfl (o_fa 5 TI39 rfl TI3 rfl rfl ?_)
          refine WL.g rfl (g20) rfl (o_ld TI3 rfl rfl (cell_of hC1 rfl) ?_)
          refine WL.g rfl (g20) rfl (o_call Try.call54 (lc rfl (lc rfl (lc rfl ln))) ((rin_spec _ _ _ _).mono ?_))
          rintro v23 w23 ⟨rfl, hw23⟩
          replace hw23 := hw23.symm
          subst hw23
          refine WL.g rfl (g20) rfl (o_not' rfl ?_)
          refine WL.c rfl (o_pickO rfl rfl ?_)
          refine WL.c rfl (o_mvh (show _ = Value.bool _ from rfl) ?_)
          refine WL.sp 22 rfl (fun g26 => ?_) (fun g26 => ?_)
          · skip
            refine WL.s rfl (g26) rfl ?_
            refine WL.s rfl (g26) rfl ?_
            refine WL.s rfl (g26) rfl ?_
            refine WL.s rfl (g26) rfl ?_
            refine WL.c rfl (o_pickT rfl (g26) ?_)
            refine WL.c rfl (o_mvh (show _ = Value.bool _ from rfl) ?_)
            refine WL.s rfl (rfl) rfl ?_
            refine WL.s rfl (rfl) rfl ?_
            refine WL.s rfl (rfl) rfl ?_
            refine WL.s rfl (rfl) rfl ?_
            refine WL.c rfl (o_pickT rfl (rfl) ?_)
            refine WL.c rfl (o_mvh (show _ = Value.bool _ from rfl) ?_)
            refine WL.s rfl (rfl) rfl ?_
            refine WL.s rfl (rfl) rfl ?_
            refine WL.s rfl (rfl) rfl ?_
            refine WL.s rfl (rfl) rfl ?_
            refine WL.c rfl (o_pickT rfl (rfl) ?_)
            exact WL.nil (⟨rfl, congrArg Value.bool (by rw [Bool.eq_iff_iff]; simp_all [fright] <;> omega), rfl⟩)
          · skip
            refine WL.g rfl (g26) rfl (o_fa 3 TI39 rfl TI3 rfl rfl ?_)
            refine WL.g rfl (g26) rfl (o_ld TI3 rfl rfl (cell_of hC1 rfl) ?_)
            refine WL.g rfl (g26) rfl (o_call Try.call54 (lc rfl (lc rfl (lc rfl ln))) ((rin_spec _ _ _ _).mono ?_))
            rintro v29 w29 ⟨rfl, hw29⟩
            replace hw29 := hw29.symm
            subst hw29
            refine WL.g rfl (g26) rfl (o_not' rfl ?_)
            refine WL.c rfl (o_pickO rfl rfl ?_)
            refine WL.c rfl (o_mvh (show _ = Value.bool _ from rfl) ?_)
            refine WL.sp 28 rfl (fun g32 => ?_) (fun g32 => ?_)
            · skip
              refine WL.s rfl (g32) rfl ?_
              refine WL.s rfl (g32) rfl ?_
              refine WL.s rfl (g32) rfl ?_
              refine WL.s rfl (g32) rfl ?_
              refine WL.c rfl (o_pickT rfl (g32) ?_)
              refine WL.c rfl (o_mvh (show _ = Value.bool _ from rfl) ?_)
              refine WL.s rfl (rfl) rfl ?_
              refine WL.s rfl (rfl) rfl ?_
              refine WL.s rfl (rfl) rfl ?_
              refine WL.s rfl (rfl) rfl ?_
              refine WL.c rfl (o_pickT rfl (rfl) ?_)
              exact WL.nil (⟨rfl, congrArg Value.bool (by rw [Bool.eq_iff_iff]; simp_all [fright] <;> omega), rfl⟩)
            · skip
              refine WL.g rfl (g32) rfl (o_fa 4 TI39 rfl TI3 rfl rfl ?_)
              refine WL.g rfl (g32) rfl (o_ld TI3 rfl rfl (cell_of hC1 rfl) ?_)
              refine WL.g rfl (g32) rfl (o_call Try.call54 (lc rfl (lc rfl (lc rfl ln))) ((rin_spec _ _ _ _).mono ?_))
              rintro v35 w35 ⟨rfl, hw35⟩
              replace hw35 := hw35.symm
              subst hw35
              refine WL.g rfl (g32) rfl (o_not' rfl ?_)
              refine WL.c rfl (o_pickO rfl rfl ?_)
              refine WL.c rfl (o_mvh (show _ = Value.bool _ from rfl) ?_)
              refine WL.sp 34 rfl (fun g38 => ?_) (fun g38 => ?_)
              · skip
                refine WL.s rfl (g38) rfl ?_
                refine WL.s rfl (g38) rfl ?_
                refine WL.s rfl (g38) rfl ?_
                refine WL.s rfl (g38) rfl ?_
                refine WL.c rfl (o_pickT rfl (g38) ?_)
                exact WL.nil (⟨rfl, congrArg Value.bool (by rw [Bool.eq_iff_iff]; simp_all [fright] <;> omega), rfl⟩)
              · skip
                refine WL.g rfl (g38) rfl (o_fa 6 TI39 rfl TI37 rfl rfl ?_)
                refine WL.g rfl (g38) rfl (o_ld TI37 rfl rfl (cell_of hC1 rfl) ?_)
                refine WL.g rfl (g38) rfl (o_lenR TI37 rfl hS ?_)
                refine WL.g rfl (g38) rfl (o_gt rfl rfl ?_)
                refine WL.c rfl (o_pickO rfl rfl ?_)
                exact WL.nil (⟨rfl, congrArg Value.bool (by rw [Bool.eq_iff_iff]; simp_all [fright] <;> omega), rfl⟩)
  rintro e w ⟨h1, h43, hw1⟩
  replace hw1 := hw1.symm
  subst hw1
  refine W.cond h43 (fun c43 => ?_) (fun c43 => ?_)
  · try simp only [decide_eq_true_eq, decide_eq_false_iff_not, Bool.not_eq_true', Bool.not_eq_false', Bool.and_eq_true, Bool.or_eq_true, Bool.and_eq_false_iff, Bool.or_eq_false_iff] at c43
    skip
    refine W.seq ?_
    refine W.region ?_
    refine WL.c rfl (o_ash (show _ = Value.bool _ from rfl) ?_)
    refine WL.nil ?_
    refine W.ret ?_
    refine ret1v rfl (show _ = Value.bool _ from rfl) ?_
    exact ⟨congrArg Value.bool (by rw [Bool.eq_iff_iff]; simp [fwhole, tright]; intro h1 h2; simp_all), hx1⟩
  · try simp only [decide_eq_true_eq, decide_eq_false_iff_not, Bool.not_eq_true', Bool.not_eq_false', Bool.and_eq_true, Bool.or_eq_true, Bool.and_eq_false_iff, Bool.or_eq_false_iff] at c43
    have hfr : fright f = true ∧ f.tab.length ≤ 1048576 := by simpa using c43
    refine W.skip ?_
    refine W.seq ?_
    refine W.seq ?_
    refine W.region ?_
    refine WL.c rfl (o_ash (show _ = Value.int _ _ from rfl) ?_)
    refine WL.nil ?_
    refine W.block ?_
    refine W.loop (fun e w => ∃ k : Nat, k ≤ f.tab.length ∧ e 1 = .pointer (some ⟨w0.heap.size, 0, none⟩) ∧ e 3 = .int .i64 (k : Int) ∧ w = wb ∧ (f.tab.all fun n => inb n 0 Huge) = ((f.tab.drop k).all fun n => inb n 0 Huge)) (fun e w => f.tab.length - (intOf (e 3)).toNat) ?_ ?_
    · exact ⟨0, Nat.zero_le _, h1, rfl, rfl, by simp⟩
    rintro e w ⟨k, hk, h1, h3, hw1, hg⟩
    have hm3 := h3
    replace hw1 := hw1.symm
    subst hw1
    refine W.seq ?_
    refine W.seq ?_
    refine W.region ?_
    refine WL.c rfl (o_mvh h3 ?_)
    refine WL.c rfl (o_fa 6 TI39 rfl TI37 rfl h1 ?_)
    refine WL.c rfl (o_ld TI37 rfl rfl (cell_of hC1 rfl) ?_)
    refine WL.c rfl (o_lenR TI37 rfl hS ?_)
    refine WL.c rfl (o_lt rfl rfl ?_)
    refine WL.nil ?_
    refine W.cond rfl (fun c48 => ?_) (fun c48 => ?_)
    · try simp only [decide_eq_true_eq, decide_eq_false_iff_not, Bool.not_eq_true', Bool.not_eq_false', Bool.and_eq_true, Bool.or_eq_true, Bool.and_eq_false_iff, Bool.or_eq_false_iff] at c48
      refine W.skip ?_
      refine W.seq ?_
      refine W.block ?_
      refine W.seq ?_
      have hk1 : k < f.tab.length := by omega
      refine W.region ?_
      refine WL.c rfl (o_fa 6 TI39 rfl TI37 rfl h1 ?_)
      refine WL.c rfl (o_ld TI37 rfl rfl (cell_of hC1 rfl) ?_)
      refine WL.c rfl (o_mvh h3 ?_)
      refine WL.c rfl (o_ix1 TI37 TI3 rfl rfl hS (by omega) ?_)
      intro b54 o54 hc54 hb54
      refine WL.c rfl (o_ld TI3 rfl rfl (hc54.trans (getint hk1)) ?_)
      refine WL.c rfl (o_call Try.call54 (lc rfl (lc rfl (lc rfl ln))) ((rin_spec _ _ _ _).mono ?_))
      rintro v56 w56 ⟨rfl, hw56⟩
      replace hw56 := hw56.symm
      subst hw56
      refine WL.c rfl (o_not' rfl ?_)
      refine WL.nil ?_
      refine W.cond rfl (fun c57 => ?_) (fun c57 => ?_)
      · try simp only [decide_eq_true_eq, decide_eq_false_iff_not, Bool.not_eq_true', Bool.not_eq_false', Bool.and_eq_true, Bool.or_eq_true, Bool.and_eq_false_iff, Bool.or_eq_false_iff] at c57
        refine W.seq ?_
        refine W.region ?_
        refine WL.c rfl (o_ash (show _ = Value.bool _ from rfl) ?_)
        refine WL.nil ?_
        refine W.ret ?_
        refine ret1v rfl (show _ = Value.bool _ from rfl) ?_
        refine ⟨congrArg Value.bool ?_, hx1⟩
        have : (f.tab.all fun n => inb n 0 Huge) = false := by rw [hg, ← List.getElem_cons_drop hk1, List.all_cons, c57]; rfl
        rw [fwhole, tright, this]; simp
      · try simp only [decide_eq_true_eq, decide_eq_false_iff_not, Bool.not_eq_true', Bool.not_eq_false', Bool.and_eq_true, Bool.or_eq_true, Bool.and_eq_false_iff, Bool.or_eq_false_iff] at c57
        refine W.skip ?_
        refine W.region ?_
        refine WL.c rfl (o_mvh h3 ?_)
        refine WL.c rfl (o_addi rfl rfl (by omega) ?_)
        refine WL.c rfl (o_ash (show _ = Value.int _ _ from rfl) ?_)
        refine WL.nil ?_
        refine ⟨⟨k + 1, by omega, h1, rfl, rfl, ?_⟩, ?_⟩
        · rw [hg, ← List.getElem_cons_drop hk1, List.all_cons, c57]; rfl
        · show f.tab.length - ((k : Int) + 1).toNat < _
          rw [hm3]; simp [intOf]; omega
    · try simp only [decide_eq_true_eq, decide_eq_false_iff_not, Bool.not_eq_true', Bool.not_eq_false', Bool.and_eq_true, Bool.or_eq_true, Bool.and_eq_false_iff, Bool.or_eq_false_iff] at c48
      refine W.exit ?_
      refine W.seq ?_
      refine W.region ?_
      refine WL.c rfl (o_ash (show _ = Value.bool _ from rfl) ?_)
      refine WL.nil ?_
      refine W.ret ?_
      refine ret1v rfl (show _ = Value.bool _ from rfl) ?_
      refine ⟨congrArg Value.bool ?_, hx1⟩
      have hkl : k = f.tab.length := by omega
      subst hkl
      rw [List.drop_length] at hg
      rw [fwhole, tright, hg, hfr.1]; simp [hfr.2]
theorem rpush_spec (H p most high : Nat) (L : List Fr) (lv : Value) (V : Nat → Value) (f : Fr) (tv : Value) (w0 : World) (h : RStk w0 H p most high L lv V) (hS : In w0 tv f.tab) (hl : f.tab.length ≤ 16000000000000) : Ca Try.prog 56 #[.pointer (some ⟨p, 0, none⟩), .agg (fcells f tv).toArray] w0 (fun v w' => v = .int .i64 (pushR most high L f).1 ∧ ∃ lv' V', RTurn w0 w' H p most high L lv V (pushR most high L f).2.1 (pushR most high L f).2.2 lv' V') := by
  refine Ca.of Try.func56 Try.ntmps56 rfl rfl ?_
  refine W.seq ?_
  refine W.region ?_
  refine WL.c rfl (o_boxB rfl ?_)
  have h00 := h
  intro w3 hC3 hx3 hs3
  replace hC3 : w3.heap[w0.heap.size]? = some (.cells (fcells f tv).toArray 39 (0, 0)) := hC3
  replace h := h.ext hx3
  replace hS := hS.ext hx3
  have hcell := h.cell
  refine WL.c rfl (o_as ?_)
  refine WL.nil ?_
  refine W.seq ?_
  refine W.seq ?_
  refine W.quiet rfl (by kernel_rfl) ?_
  refine WQ.c rfl ((QO.o rfl fun _ => o_mv ⟨rfl, rfl⟩)) ?_
  refine WQ.c rfl ((QO.r fun _ => r_nil rfl)) ?_
  refine WQ.c rfl ((QO.o rfl fun _ => o_fa 0 TI95 rfl TI22 rfl rfl ⟨rfl, rfl⟩)) ?_
  refine WQ.c rfl ((QO.o rfl fun _ => o_ld TI22 rfl rfl (cell_of hcell rfl) ⟨rfl, rfl⟩)) ?_
  refine WQ.c rfl ((QO.r fun _ => r_lenR TI22 rfl (Sl.own h.rows.row))) ?_
  refine WQ.c rfl ((QO.o rfl fun _ => o_mv ⟨rfl, rfl⟩)) ?_
  refine WQ.c rfl ((QO.r fun _ => r_nil rfl)) ?_
  refine WQ.c rfl ((QO.o rfl fun _ => o_fa 1 TI95 rfl TI3 rfl rfl ⟨rfl, rfl⟩)) ?_
  refine WQ.c rfl ((QO.o rfl fun _ => o_ld TI3 rfl rfl (cell_of hcell rfl) ⟨rfl, rfl⟩)) ?_
  refine WQ.c rfl ((QO.o rfl fun _ => o_ge rfl rfl ⟨rfl, rfl⟩)) ?_
  refine WQ.nil ?_
  intro nq
  have hq := Only.drewN w3 nq
  have hxq := hx3.tr hq
  replace h := h.ext hq
  replace hS := hS.ext hq
  replace hC3 := hq.blk hC3 (fun h => h)
  generalize w3.drewN nq = wq at *
  refine W.cond rfl (fun c14 => ?_) (fun c14 => ?_)
  · try simp only [decide_eq_true_eq, decide_eq_false_iff_not, Bool.not_eq_true', Bool.not_eq_false', Bool.and_eq_true, Bool.or_eq_true, Bool.and_eq_false_iff, Bool.or_eq_false_iff] at c14
    refine W.seq ?_
    refine W.region ?_
    refine WL.c rfl (o_as ?_)
    refine WL.nil ?_
    refine W.ret ?_
    refine ret1v rfl (show _ = Value.int _ _ from rfl) ?_
    exact ⟨by rw [pushR, if_pos (by omega)], lv, V, by rw [pushR, if_pos (by omega)]; exact RTurn.same h00 hxq⟩
  · try simp only [decide_eq_true_eq, decide_eq_false_iff_not, Bool.not_eq_true', Bool.not_eq_false', Bool.and_eq_true, Bool.or_eq_true, Bool.and_eq_false_iff, Bool.or_eq_false_iff] at c14
    refine W.skip ?_
    refine W.seq ?_
    refine W.seq ?_
    refine W.region ?_
    refine WL.c rfl (o_ldA TI39 rfl rfl (show Cells wq w0.heap.size 0 (fcells f tv) from Cells.of hC3 0 _ (by simp)) rfl ?_)
    refine WL.c rfl (o_call Try.call72 (lc rfl ln) ((rright_spec f tv _ hS (by rw [maxLen_eq]; omega)).mono ?_))
    rintro v16 w16 ⟨rfl, hx16⟩
    have hx := hxq.tr hx16
    replace h := h.ext hx16
    replace hS := hS.ext hx16
    replace hC3 := hx16.blk hC3 (fun h => h)
    have hcell := h.cell
    refine WL.c rfl (o_not' rfl ?_)
    refine WL.nil ?_
    refine W.cond rfl (fun c17 => ?_) (fun c17 => ?_)
    · try simp only [decide_eq_true_eq, decide_eq_false_iff_not, Bool.not_eq_true', Bool.not_eq_false', Bool.and_eq_true, Bool.or_eq_true, Bool.and_eq_false_iff, Bool.or_eq_false_iff] at c17
      refine W.seq ?_
      refine W.region ?_
      refine WL.c rfl (o_as ?_)
      refine WL.nil ?_
      refine W.ret ?_
      refine ret1v rfl (show _ = Value.int _ _ from rfl) ?_
      exact ⟨by rw [pushR, if_neg (by omega), if_neg (by simp_all)], lv, V, by rw [pushR, if_neg (by omega), if_neg (by simp_all)]; exact RTurn.same h00 hx⟩
    · try simp only [decide_eq_true_eq, decide_eq_false_iff_not, Bool.not_eq_true', Bool.not_eq_false', Bool.and_eq_true, Bool.or_eq_true, Bool.and_eq_false_iff, Bool.or_eq_false_iff] at c17
      refine W.skip ?_
      refine W.seq ?_
      obtain ⟨wd, hwd⟩ : ∃ wd, wd = w16.drew := ⟨_, rfl⟩
      have hxd : Ext w16 wd := hwd ▸ Only.drew w16
      replace h := h.ext hxd
      replace hS := hS.ext hxd
      replace hC3 := hxd.blk hC3 (fun h => h)
      replace hcell := h.cell
      have hlt : ∀ k, lv.ownBlock = some k → k < wd.heap.size := fun k hk => (h.rows.row.lt k hk).2
      have hltV : ∀ j, j < L.length → ∀ k, (V j).ownBlock = some k → k < wd.heap.size := fun j hj k hk => (h.rows.tabs.lt hj hk).2
      have hoff : ¬ lv.ownBlock = some w0.heap.size := fun hk => by have := (h00.rows.row.lt _ hk).2; omega
      refine W.drawF 9 [6, 8] [No, fun k => lv.ownBlock = some k] [(0, fun v _ => v = _), (3, fun v _ => v = _)] rfl (by kernel_rfl) (by kernel_rfl) ⟨Mono.eq, Mono.eq, trivial⟩ ⟨rfl, rfl, trivial⟩ ?_
      refine WDS.p rfl (by decide) (fun e w hR hh => by obtain ⟨h0, -⟩ := hh; exact SG.n (o_mvh h0 ⟨rfl, Only.refl No _⟩)) ?_
      refine WDS.p rfl (by decide) (fun e w hR hh => by obtain ⟨h0, -⟩ := hh; exact SG.n (o_mvh h0 ⟨rfl, Only.refl No _⟩)) ?_
      refine WDS.p rfl (by decide) (fun e w hR hh => by obtain ⟨h19, -⟩ := hh; exact SG.n (o_nil h19 ⟨rfl, Only.refl No _⟩)) ?_
      refine WDS.p rfl (by decide) (fun e w hR hh => by obtain ⟨h20, -⟩ := hh; exact SG.n (o_fa 0 TI95 rfl TI22 rfl h20 ⟨rfl, Only.refl No _⟩)) ?_
      refine WDS.p rfl (by decide) (fun e w hR hh => by obtain ⟨h21, -⟩ := hh; rw [← hwd] at hR; have hc := hR.blk hcell (fun hF => by rcases hF with hF | hF | hF <;> first | exact hF | exact h.p_off (.inl hF)); exact SG.n (o_ld TI22 rfl h21 (cell_of hc rfl) ⟨rfl, Only.refl No _⟩)) ?_
      refine WDS.p rfl (by decide) (fun e w hR hh => by obtain ⟨h3, -⟩ := hh; rw [← hwd] at hR; have hc := hR.blk hC3 (fun hF => by rcases hF with hF | hF | hF <;> first | exact hF | exact hoff hF); exact SG.n (o_ldA TI39 rfl h3 (show Cells w w0.heap.size 0 (fcells f tv) from Cells.of hc 0 _ (by simp)) rfl ⟨rfl, Only.refl No _⟩)) ?_
      refine WDS.mf 0 1 (fun v w => ∃ u, v = .agg (fcells f u).toArray ∧ w.ownsRow wd.heap.size 3 1 u f.tab.length (ints f.tab)) (fun v w w2 hR hh => by obtain ⟨u, hv, ho⟩ := hh; exact ⟨u, hv, own_only ho hR (fun k hk hF => by rcases hF with hF | hF <;> first | exact hF | (have := hlt k hF; have := (ho.lt k hk).1; omega))⟩) (by kernel_rfl) rfl rfl rfl (fun e w hR hW hh => by obtain ⟨h23, -⟩ := hh; rw [← hwd] at hR hW; have hS2 := hS.ext (show Ext wd w from hW); exact SGX.n (OP.x (o_call Try.call24 (lc h23 ln) ((ownr_spec f tv w hS2 hl).mono (fun v w' hh => by obtain ⟨u, h1, h2, h3⟩ := hh; exact ⟨⟨u, h1, own_mono h2 hW.size⟩, h3⟩))))) ?_
      refine WDS.q 1 (fun v w => ∃ u, w.ownsRow wd.heap.size 39 7 v 1 (fcells f u) ∧ w.ownsRow wd.heap.size 3 1 u f.tab.length (ints f.tab)) (fun v w w2 hR hh => by obtain ⟨u, hv, ho⟩ := hh; exact ⟨u, own_only hv hR (fun k hk hF => by rcases hF with hF | hF <;> first | exact hF | (have := hlt k hF; have := (hv.lt k hk).1; omega)), own_only ho hR (fun k hk hF => by rcases hF with hF | hF <;> first | exact hF | (have := hlt k hF; have := (ho.lt k hk).1; omega))⟩) (by kernel_rfl) rfl (by decide) (fun e w hR hh => by obtain ⟨h24, -⟩ := hh; rw [← hwd] at hR; have hw2 := hR.size; obtain ⟨u, hu24, h24o⟩ := h24; exact SG.n (o_bs1 TI22 TI39 hu24 (by decide) (by decide) rfl ⟨⟨u, own_mono (own_new1 rfl) hw2, own_ext h24o (Only.alloc w _)⟩, Only.alloc w _⟩)) ?_
      refine WDS.mf 1 2 (fun v w => ∃ u, w.ownsRow H 39 7 v (L.length + 1) (frows L V ++ fcells f u) ∧ w.ownsRow wd.heap.size 3 1 u f.tab.length (ints f.tab) ∧ (v.ownBlock = lv.ownBlock ∨ ∃ g, wd.heap.size ≤ g ∧ v.ownBlock = some g)) (fun v w w2 hR hh => by obtain ⟨u, hv, ho, hb⟩ := hh; exact ⟨u, own_ext hv hR, own_ext ho hR, hb⟩) (by kernel_rfl) rfl rfl rfl (fun e w hR hW hh => by obtain ⟨h25, h22, -⟩ := hh; rw [← hwd] at hR hW; have hw2 := hR.size; have hW2 : Ext wd w := hW.mono (fun k _ hF => by rcases hF with hF | hF <;> exact hF); obtain ⟨u, h25r, ho25⟩ := h25; exact SGX.n (OP.x (o_apO H TI22 TI39 h22 rfl (own_ext h.rows.row hW2) (Sl.own h25r) rfl (by decide) (fcells_all (own_one ho25)) (by rw [maxLen_eq]; have := h.len; have := h.mb; omega) (by have := h.len; have := h.mb; omega) (by have := h.lt p (.inl rfl); have := h.lo; omega) (fun v' w' h1 h2 h3 _ => ⟨⟨u, h1, own_only ho25 h2 (fun k hk hF => by have := hlt k hF; have := (ho25.lt k hk).1; omega), h3.imp id (fun h => ⟨_, hw2, h⟩)⟩, h2⟩)))) ?_
      rintro e w hR ⟨h26, h25, h24, h23, h22, h21, h20, h19, h18, h0, h3, -⟩
      rw [← hwd] at hR
      obtain ⟨u, hr26, hou, hb26⟩ := h26
      obtain ⟨v26, hv26⟩ : ∃ v, v = e 26 := ⟨_, rfl⟩
      rw [← hv26] at hr26 hb26
      have hc5 := hR.blk hcell (fun hF => by rcases hF with hF | hF | hF <;> first | exact hF | exact h.p_off (.inl hF))
      have hrow5 : Rows w H (L ++ [f]) v26 (fun j => if j = L.length then u else V j) := Rows.snoc hr26 (h.rows.tabs.only hR (fun j hj k hk hF => by rcases hF with hF | hF | hF <;> first | exact hF | exact own_row_off h.rows.row (h.rows.tabs.row j hj) (by decide) k hk hF)) hou (by have := h.lt p (.inl rfl); have := h.lo; omega) hltV
      refine WL.c rfl (o_nil h18 ?_)
      refine WL.c rfl (o_fa 0 TI95 rfl TI22 rfl rfl ?_)
      refine WL.u (o_stB TI22 rfl (show _ = v26 from hv26.symm) (own_one hr26) hc5 (show 0 < 3 by decide) ?_)
      intro w6 hB6 ho6 hs6
      replace hB6 : w6.heap[p]? = some (.cells #[v26, .int .i64 (most : Int), .int .i64 (high : Int)] 95 (0, 0)) := hB6
      have hrow6 := hrow5.only ho6 (fun k hk he => by subst he; exact hrow5.off hc5 (by decide) (by decide) hk)
      refine WL.nil ?_
      refine W.seq ?_
      refine W.tail 13 rfl (by kernel_rfl) ?_
      refine WS.c rfl ((SO.o rfl (o_mvh h0 ⟨rfl, rfl⟩))) ?_
      refine WS.c rfl ((SO.o rfl (o_mvh h0 ⟨rfl, rfl⟩))) ?_
      refine WS.c rfl ((SO.r (r_nil rfl))) ?_
      refine WS.c rfl ((SO.o rfl (o_fa 2 TI95 rfl TI3 rfl rfl ⟨rfl, rfl⟩))) ?_
      refine WS.c rfl ((SO.o rfl (o_ld TI3 rfl rfl (cell_of hB6 rfl) ⟨rfl, rfl⟩))) ?_
      refine WS.c rfl ((SO.o rfl (o_mvh h0 ⟨rfl, rfl⟩))) ?_
      refine WS.c rfl ((SO.r (r_nil rfl))) ?_
      refine WS.c rfl ((SO.o rfl (o_fa 0 TI95 rfl TI22 rfl rfl ⟨rfl, rfl⟩))) ?_
      refine WS.c rfl ((SO.o rfl (o_ld TI22 rfl rfl (cell_of hB6 rfl) ⟨rfl, rfl⟩))) ?_
      refine WS.c rfl ((SO.r (r_lenR TI22 rfl (Sl.own hrow6.row)))) ?_
      refine WS.c rfl ((SO.r (r_max rfl rfl))) ?_
      refine WS.c rfl ((SO.r (r_nil rfl))) ?_
      refine WS.c rfl ((SO.o rfl (o_fa 2 TI95 rfl TI3 rfl rfl ⟨rfl, rfl⟩))) ?_
      refine WS.nil ?_
      refine WL.u (o_stB TI3 rfl (show _ = Value.int _ _ from rfl) rfl hB6 (show 2 < 3 by decide) ?_)
      intro w7 hB7 ho7 hs7
      have hrow7 := (hrow6.ext (Only.drew w6)).only ho7 (fun k hk he => by subst he; exact hrow6.off hB6 (by decide) (by decide) hk)
      refine WL.nil ?_
      refine W.seq ?_
      refine W.region ?_
      refine WL.c rfl (o_as ?_)
      refine WL.nil ?_
      refine W.ret ?_
      refine ret1v rfl (show _ = Value.int _ _ from rfl) ?_
      have hp : pushR most high L f = (0, max high (L.length + 1), L ++ [f]) := by rw [pushR, if_neg (by omega), if_pos c17]
      rw [hp]
      have hlen2 : (L ++ [f]).length = L.length + 1 := by simp
      rw [hlen2] at hB7
      refine ⟨rfl, v26, _, ⟨hB7, hrow7, h.lo, h.mb, by rw [hlen2]; omega, tl_snoc h.tl c17⟩, ?_, fun k hk => ?_⟩
      · refine ((((hx.tr hxd).trans' (H := SF p lv V L.length) hR (fun _ hF => hF.elim) ?_).trans' ho6 (fun _ hF => hF) ?_).trans' (Only.drew w6) (fun _ hF => hF) (fun _ _ hF => hF.elim)).trans' ho7 (fun _ hF => hF) ?_
        · rintro k - (hF | hF | hF)
          · exact hF.elim
          · exact .inr (.inl hF)
          · exact hF.elim
        · rintro k - rfl; exact .inl rfl
        · rintro k - rfl; exact .inl rfl
      · rw [hlen2] at hk
        exact ite_SF (B := wd.heap.size) (m := 0) (hx.tr hxd).size hb26 (fun k hk => .inl (by have := (hou.lt k hk).1; have := (hx.tr hxd).size; omega)) (Nat.zero_le _) (.inr hk)
theorem rlen_spec (H p most high : Nat) (L : List Fr) (lv : Value) (V : Nat → Value) (w0 : World) (h : RStk w0 H p most high L lv V) : Ca Try.prog 42 #[.pointer (some ⟨p, 0, none⟩)] w0 (fun v w' => v = .int .i64 (L.length : Int) ∧ w' = w0) := by
  have hcell := h.cell
  refine Ca.of Try.func42 Try.ntmps42 rfl rfl ?_
  refine W.seq ?_
  refine W.region ?_
  refine WL.c rfl (o_ash (show _ = Value.int _ _ from rfl) ?_)
  refine WL.nil ?_
  refine W.seq ?_
  refine W.region ?_
  refine WL.c rfl (o_mvh (by first | exact (show _ = Value.pointer _ from rfl) | exact rfl) ?_)
  refine WL.c rfl (o_nil rfl ?_)
  refine WL.c rfl (o_fa 0 TI95 rfl TI22 rfl rfl ?_)
  refine WL.c rfl (o_ld TI22 rfl rfl (cell_of hcell rfl) ?_)
  refine WL.c rfl (o_lenR TI22 rfl (Sl.own h.rows.row) ?_)
  refine WL.c rfl (o_ash (show _ = Value.int _ _ from rfl) ?_)
  refine WL.nil ?_
  refine W.ret ?_
  refine ret1v rfl (show _ = Value.int _ _ from rfl) ?_
  exact ⟨rfl, rfl⟩
theorem rhigh_spec (H p most high : Nat) (L : List Fr) (lv : Value) (V : Nat → Value) (w0 : World) (h : RStk w0 H p most high L lv V) : Ca Try.prog 43 #[.pointer (some ⟨p, 0, none⟩)] w0 (fun v w' => v = .int .i64 (high : Int) ∧ w' = w0) := by
  have hcell := h.cell
  refine Ca.of Try.func43 Try.ntmps43 rfl rfl ?_
  refine W.seq ?_
  refine W.region ?_
  refine WL.c rfl (o_ash (show _ = Value.int _ _ from rfl) ?_)
  refine WL.nil ?_
  refine W.seq ?_
  refine W.region ?_
  refine WL.c rfl (o_mvh (by first | exact (show _ = Value.pointer _ from rfl) | exact rfl) ?_)
  refine WL.c rfl (o_nil rfl ?_)
  refine WL.c rfl (o_fa 2 TI95 rfl TI3 rfl rfl ?_)
  refine WL.c rfl (o_ld TI3 rfl rfl (cell_of hcell rfl) ?_)
  refine WL.c rfl (o_ash (show _ = Value.int _ _ from rfl) ?_)
  refine WL.nil ?_
  refine W.ret ?_
  refine ret1v rfl (show _ = Value.int _ _ from rfl) ?_
  exact ⟨rfl, rfl⟩
theorem rnew_spec (m : Int) (w0 : World) : Ca Try.prog 39 #[.int .i64 m] w0 (fun v w' => (inb m 1 1048576 = true → v = .tuple #[.pointer (some ⟨w0.heap.size, 0, none⟩), .int .i64 0] ∧ RStk w' w0.heap.size w0.heap.size m.toNat 0 [] (.slice none 0 0) (fun _ => undef)) ∧ (inb m 1 1048576 = false → v = .tuple #[.pointer none, .int .i64 3]) ∧ Ext w0 w') := by
  refine Ca.of Try.func39 Try.ntmps39 rfl rfl ?_
  refine W.seq ?_
  refine W.region ?_
  refine WL.c rfl (o_ash (by first | exact (show _ = Value.pointer _ from rfl) | exact rfl) ?_)
  refine WL.c rfl (o_ash (show _ = Value.int _ _ from rfl) ?_)
  refine WL.nil ?_
  refine W.seq ?_
  refine W.seq ?_
  refine W.region ?_
  refine WL.c rfl (o_mvh (show _ = Value.int _ _ from rfl) ?_)
  refine WL.c rfl (o_call Try.call54 (lc rfl (lc rfl (lc rfl ln))) ((rin_spec m 1 1048576 _).mono ?_))
  rintro v5 w5 ⟨rfl, rfl⟩
  refine WL.c rfl (o_not' rfl ?_)
  refine WL.nil ?_
  refine W.cond rfl (fun c6 => ?_) (fun c6 => ?_)
  · try simp only [decide_eq_true_eq, decide_eq_false_iff_not, Bool.not_eq_true', Bool.not_eq_false', Bool.and_eq_true, Bool.or_eq_true, Bool.and_eq_false_iff, Bool.or_eq_false_iff] at c6
    refine W.seq ?_
    refine W.region ?_
    refine WL.c rfl (o_ash (by first | exact (show _ = Value.pointer _ from rfl) | exact rfl) ?_)
    refine WL.c rfl (o_ash (show _ = Value.int _ _ from rfl) ?_)
    refine WL.nil ?_
    refine W.ret ?_
    refine ret2v rfl (show _ = Value.pointer _ from rfl) (show _ = Value.int _ _ from rfl) ?_
    exact ⟨fun h => (by rw [h] at c6; cases c6), fun _ => rfl, Only.refl _ _⟩
  · try simp only [decide_eq_true_eq, decide_eq_false_iff_not, Bool.not_eq_true', Bool.not_eq_false', Bool.and_eq_true, Bool.or_eq_true, Bool.and_eq_false_iff, Bool.or_eq_false_iff] at c6
    refine W.skip ?_
    refine W.seq ?_
    refine W.region ?_
    refine WL.c rfl (o_mvh (show _ = Value.int _ _ from rfl) ?_)
    refine WL.c rfl (o_bldC (cs := [(.slice none 0 0), _, (.int .i64 0)]) TI95 (Sizes.cons TI22 (Sizes.cons TI3 (Sizes.cons TI3 Sizes.nil))) rfl (lcp (show _ = Value.int _ _ from rfl) lnp) rfl rfl ?_)
    refine WL.c rfl (o_boxB rfl ?_)
    intro w9 hC9 hx9 hs9
    refine WL.c rfl (o_ash (by first | exact (show _ = Value.pointer _ from rfl) | exact rfl) ?_)
    refine WL.c rfl (o_ash (show _ = Value.int _ _ from rfl) ?_)
    refine WL.nil ?_
    refine W.ret ?_
    refine ret2v rfl (show _ = Value.pointer _ from rfl) (show _ = Value.int _ _ from rfl) ?_
    exact ⟨fun hi => ⟨rfl, ⟨by rw [Int.toNat_of_nonneg (by simp [inb] at hi; omega)]; exact hC9, Rows.nil _ _ _, Nat.le_refl _, by simp [inb] at hi; omega, by simp, by simp⟩⟩, fun h => (by rw [h] at c6; cases c6), hx9⟩
theorem rslots_spec (H p most high : Nat) (L : List Fr) (lv : Value) (V : Nat → Value) (w0 : World) (h : RStk w0 H p most high L lv V) : Ca Try.prog 66 #[.pointer (some ⟨p, 0, none⟩)] w0 (fun v w' => v = .int .i64 ((tabl L (L.length - 1)).length : Int) ∧ Ext w0 w') := by
  have hcell := h.cell
  refine Ca.of Try.func66 Try.ntmps66 rfl rfl ?_
  refine W.seq ?_
  refine W.region ?_
  refine WL.c rfl (o_ash (show _ = Value.int _ _ from rfl) ?_)
  refine WL.nil ?_
  refine W.seq ?_
  refine W.seq ?_
  refine W.region ?_
  refine WL.c rfl (o_mvh (by first | exact (show _ = Value.pointer _ from rfl) | exact rfl) ?_)
  refine WL.c rfl (o_nil rfl ?_)
  refine WL.c rfl (o_fa 0 TI95 rfl TI22 rfl rfl ?_)
  refine WL.c rfl (o_ld TI22 rfl rfl (cell_of hcell rfl) ?_)
  refine WL.c rfl (o_lenR TI22 rfl (Sl.own h.rows.row) ?_)
  refine WL.c rfl (o_eq rfl rfl ?_)
  refine WL.nil ?_
  refine W.cond rfl (fun c8 => ?_) (fun c8 => ?_)
  · try simp only [decide_eq_true_eq, decide_eq_false_iff_not, Bool.not_eq_true', Bool.not_eq_false', Bool.and_eq_true, Bool.or_eq_true, Bool.and_eq_false_iff, Bool.or_eq_false_iff] at c8
    refine W.seq ?_
    refine W.region ?_
    refine WL.c rfl (o_ash (show _ = Value.int _ _ from rfl) ?_)
    refine WL.nil ?_
    refine W.ret ?_
    refine ret1v rfl (show _ = Value.int _ _ from rfl) ?_
    exact ⟨by rw [tabl_nil (by omega)]; rfl, Only.refl _ _⟩
  · try simp only [decide_eq_true_eq, decide_eq_false_iff_not, Bool.not_eq_true', Bool.not_eq_false', Bool.and_eq_true, Bool.or_eq_true, Bool.and_eq_false_iff, Bool.or_eq_false_iff] at c8
    refine W.skip ?_
    refine W.seq ?_
    obtain ⟨g, cap, rfl, hb, hcs⟩ := h.rows.at (k := L.length - 1) (by omega)
    obtain ⟨T, hT⟩ : ∃ T, T = topF L := ⟨_, rfl⟩
    rw [show L.getD (L.length - 1) Fr.nil = T from hT.symm, ← Nat.zero_add ((L.length - 1) * 7)] at hcs
    have htab := h.rows.tab (k := L.length - 1) (by omega)
    rw [show tabl L (L.length - 1) = T.tab from congrArg Fr.tab hT.symm] at htab
    have htl := h.tl (L.length - 1) (by omega)
    rw [show tabl L (L.length - 1) = T.tab from congrArg Fr.tab hT.symm] at htl
    have hmb := h.mb
    have hlen := h.len
    obtain ⟨tv, htv⟩ : ∃ tv, tv = V (L.length - 1) := ⟨_, rfl⟩
    rw [← htv] at hcs htab
    refine W.quiet rfl (by kernel_rfl) ?_
    refine WQ.c rfl ((QO.o rfl fun _ => o_mvh (by first | exact (show _ = Value.pointer _ from rfl) | exact rfl) ⟨rfl, rfl⟩)) ?_
    refine WQ.c rfl ((QO.r fun _ => r_nil rfl)) ?_
    refine WQ.c rfl ((QO.o rfl fun _ => o_fa 0 TI95 rfl TI22 rfl rfl ⟨rfl, rfl⟩)) ?_
    refine WQ.c rfl ((QO.o rfl fun _ => o_ld TI22 rfl rfl (cell_of hcell rfl) ⟨rfl, rfl⟩)) ?_
    refine WQ.c rfl ((QO.o rfl fun _ => o_mvh (by first | exact (show _ = Value.pointer _ from rfl) | exact rfl) ⟨rfl, rfl⟩)) ?_
    refine WQ.c rfl ((QO.r fun _ => r_nil rfl)) ?_
    refine WQ.c rfl ((QO.o rfl fun _ => o_fa 0 TI95 rfl TI22 rfl rfl ⟨rfl, rfl⟩)) ?_
    refine WQ.c rfl ((QO.o rfl fun _ => o_ld TI22 rfl rfl (cell_of hcell rfl) ⟨rfl, rfl⟩)) ?_
    refine WQ.c rfl ((QO.r fun _ => r_lenR TI22 rfl (Sl.own h.rows.row))) ?_
    refine WQ.c rfl ((QO.o rfl fun _ => o_subi rfl rfl (by have := h.len; have := h.mb; omega) ⟨rfl, rfl⟩)) ?_
    refine WQ.c rfl ((QO.o rfl fun _ => o_ixB (i := L.length - 1) TI22 TI39 rfl (by show Value.int _ ((L.length : Int) - 1) = _; congr 1; omega) (by omega) ⟨rfl, rfl⟩)) ?_
    refine WQ.c rfl ((QO.o rfl fun _ => o_fa 6 TI39 rfl TI37 rfl rfl ⟨rfl, rfl⟩)) ?_
    refine WQ.c rfl ((QO.o rfl fun _ => o_ld TI37 rfl rfl (hcs 6 _ rfl) ⟨rfl, rfl⟩)) ?_
    refine WQ.c rfl ((QO.r fun _ => r_lenR TI37 rfl htab)) ?_
    refine WQ.c rfl ((QO.o rfl fun _ => o_ash (show _ = Value.int _ _ from rfl) ⟨rfl, rfl⟩)) ?_
    refine WQ.nil ?_
    intro nq
    refine W.ret ?_
    refine ret1v rfl (show _ = Value.int _ _ from rfl) ?_
    exact ⟨by rw [show tabl L (L.length - 1) = T.tab from congrArg Fr.tab hT.symm], Only.drewN w0 nq⟩
theorem rslot_spec (H p most high : Nat) (L : List Fr) (lv : Value) (V : Nat → Value) (k : Int) (w0 : World) (h : RStk w0 H p most high L lv V) : Ca Try.prog 63 #[.pointer (some ⟨p, 0, none⟩), .int .i64 k] w0 (fun v w' => v = .tuple #[.int .i64 (slotR L k).1, .int .i64 (slotR L k).2] ∧ Ext w0 w') := by
  have hcell := h.cell
  refine Ca.of Try.func63 Try.ntmps63 rfl rfl ?_
  refine W.seq ?_
  refine W.region ?_
  refine WL.c rfl (o_ash (show _ = Value.int _ _ from rfl) ?_)
  refine WL.c rfl (o_ash (show _ = Value.int _ _ from rfl) ?_)
  refine WL.nil ?_
  refine W.seq ?_
  refine W.seq ?_
  refine W.region ?_
  refine WL.c rfl (o_mvh (by first | exact (show _ = Value.pointer _ from rfl) | exact rfl) ?_)
  refine WL.c rfl (o_nil rfl ?_)
  refine WL.c rfl (o_fa 0 TI95 rfl TI22 rfl rfl ?_)
  refine WL.c rfl (o_ld TI22 rfl rfl (cell_of hcell rfl) ?_)
  refine WL.c rfl (o_lenR TI22 rfl (Sl.own h.rows.row) ?_)
  refine WL.c rfl (o_eq rfl rfl ?_)
  refine WL.nil ?_
  refine W.cond rfl (fun c11 => ?_) (fun c11 => ?_)
  · try simp only [decide_eq_true_eq, decide_eq_false_iff_not, Bool.not_eq_true', Bool.not_eq_false', Bool.and_eq_true, Bool.or_eq_true, Bool.and_eq_false_iff, Bool.or_eq_false_iff] at c11
    refine W.seq ?_
    refine W.region ?_
    refine WL.c rfl (o_ash (show _ = Value.int _ _ from rfl) ?_)
    refine WL.c rfl (o_ash (show _ = Value.int _ _ from rfl) ?_)
    refine WL.nil ?_
    refine W.ret ?_
    refine ret2v rfl (show _ = Value.int _ _ from rfl) (show _ = Value.int _ _ from rfl) ?_
    exact ⟨by rw [slotR, if_pos (by omega)], Only.refl _ _⟩
  · try simp only [decide_eq_true_eq, decide_eq_false_iff_not, Bool.not_eq_true', Bool.not_eq_false', Bool.and_eq_true, Bool.or_eq_true, Bool.and_eq_false_iff, Bool.or_eq_false_iff] at c11
    refine W.skip ?_
    refine W.seq ?_
    refine W.seq ?_
    obtain ⟨g, cap, rfl, hb, hcs⟩ := h.rows.at (k := L.length - 1) (by omega)
    obtain ⟨T, hT⟩ : ∃ T, T = topF L := ⟨_, rfl⟩
    rw [show L.getD (L.length - 1) Fr.nil = T from hT.symm, ← Nat.zero_add ((L.length - 1) * 7)] at hcs
    have htab := h.rows.tab (k := L.length - 1) (by omega)
    rw [show tabl L (L.length - 1) = T.tab from congrArg Fr.tab hT.symm] at htab
    have htl := h.tl (L.length - 1) (by omega)
    rw [show tabl L (L.length - 1) = T.tab from congrArg Fr.tab hT.symm] at htl
    have hmb := h.mb
    have hlen := h.len
    obtain ⟨tv, htv⟩ : ∃ tv, tv = V (L.length - 1) := ⟨_, rfl⟩
    rw [← htv] at hcs htab
    refine W.region ?_
    refine WL.c rfl (o_mvh (show _ = Value.int _ _ from rfl) ?_)
    refine WL.c rfl (o_mvh (by first | exact (show _ = Value.pointer _ from rfl) | exact rfl) ?_)
    refine WL.c rfl (o_call Try.call66 (lc rfl ln) ((rslots_spec H p most high L _ V _ h).mono ?_))
    rintro v14 w14 ⟨rfl, hx14⟩
    rw [show tabl L (L.length - 1) = T.tab from congrArg Fr.tab hT.symm]
    replace hcell := hx14.blk hcell (fun h => h)
    replace hcs := hcs.only hx14 (fun h => h)
    replace htab := Sl.ext htab hx14
    refine WL.c rfl (o_subi rfl rfl (by omega) ?_)
    refine WL.c rfl (o_call Try.call54 (lc rfl (lc rfl (lc rfl ln))) ((rin_spec _ _ _ _).mono ?_))
    rintro v16 w16 ⟨rfl, hw16⟩
    replace hw16 := hw16.symm
    subst hw16
    refine WL.c rfl (o_not' rfl ?_)
    refine WL.nil ?_
    refine W.cond rfl (fun c17 => ?_) (fun c17 => ?_)
    · try simp only [decide_eq_true_eq, decide_eq_false_iff_not, Bool.not_eq_true', Bool.not_eq_false', Bool.and_eq_true, Bool.or_eq_true, Bool.and_eq_false_iff, Bool.or_eq_false_iff] at c17
      refine W.seq ?_
      refine W.region ?_
      refine WL.c rfl (o_ash (show _ = Value.int _ _ from rfl) ?_)
      refine WL.c rfl (o_ash (show _ = Value.int _ _ from rfl) ?_)
      refine WL.nil ?_
      refine W.ret ?_
      refine ret2v rfl (show _ = Value.int _ _ from rfl) (show _ = Value.int _ _ from rfl) ?_
      refine ⟨?_, hx14⟩
      rw [slotR, if_neg (by omega), ← hT, if_neg (by rw [c17]; simp)]
    · try simp only [decide_eq_true_eq, decide_eq_false_iff_not, Bool.not_eq_true', Bool.not_eq_false', Bool.and_eq_true, Bool.or_eq_true, Bool.and_eq_false_iff, Bool.or_eq_false_iff] at c17
      have hk0 : 0 ≤ k ∧ k < T.tab.length := by simp [inb] at c17; omega
      obtain ⟨kn, rfl⟩ : ∃ n : Nat, k = (n : Int) := ⟨k.toNat, by omega⟩
      refine W.skip ?_
      refine W.seq ?_
      obtain ⟨tb, to_, tc, htf, htc, hct⟩ := In.at htab (by omega)
      refine W.quiet rfl (by kernel_rfl) ?_
      refine WQ.c rfl ((QO.o rfl fun _ => o_mvh (by first | exact (show _ = Value.pointer _ from rfl) | exact rfl) ⟨rfl, rfl⟩)) ?_
      refine WQ.c rfl ((QO.r fun _ => r_nil rfl)) ?_
      refine WQ.c rfl ((QO.o rfl fun _ => o_fa 0 TI95 rfl TI22 rfl rfl ⟨rfl, rfl⟩)) ?_
      refine WQ.c rfl ((QO.o rfl fun _ => o_ld TI22 rfl rfl (cell_of hcell rfl) ⟨rfl, rfl⟩)) ?_
      refine WQ.c rfl ((QO.o rfl fun _ => o_mvh (by first | exact (show _ = Value.pointer _ from rfl) | exact rfl) ⟨rfl, rfl⟩)) ?_
      refine WQ.c rfl ((QO.r fun _ => r_nil rfl)) ?_
      refine WQ.c rfl ((QO.o rfl fun _ => o_fa 0 TI95 rfl TI22 rfl rfl ⟨rfl, rfl⟩)) ?_
      refine WQ.c rfl ((QO.o rfl fun _ => o_ld TI22 rfl rfl (cell_of hcell rfl) ⟨rfl, rfl⟩)) ?_
      refine WQ.c rfl ((QO.r fun _ => r_lenR TI22 rfl (Sl.own h.rows.row))) ?_
      refine WQ.c rfl ((QO.o rfl fun _ => o_subi rfl rfl (by have := h.len; have := h.mb; omega) ⟨rfl, rfl⟩)) ?_
      refine WQ.c rfl ((QO.o rfl fun _ => o_ixB (i := L.length - 1) TI22 TI39 rfl (by show Value.int _ ((L.length : Int) - 1) = _; congr 1; omega) (by omega) ⟨rfl, rfl⟩)) ?_
      refine WQ.c rfl ((QO.o rfl fun _ => o_fa 6 TI39 rfl TI37 rfl rfl ⟨rfl, rfl⟩)) ?_
      refine WQ.c rfl ((QO.o rfl fun _ => o_ld TI37 rfl rfl (hcs 6 _ rfl) ⟨rfl, rfl⟩)) ?_
      refine WQ.c rfl ((QO.o rfl fun _ => o_mvh (show _ = Value.int _ _ from rfl) ⟨rfl, rfl⟩)) ?_
      refine WQ.c rfl ((QO.o rfl fun _ => o_ixB (i := kn) TI37 TI3 (show _ = Value.slice (some ⟨tb, to_, none⟩) T.tab.length tc from htf) rfl (by omega) ⟨rfl, rfl⟩)) ?_
      refine WQ.c rfl ((QO.o rfl fun _ => o_ld TI3 rfl rfl (show _ = some (Value.int .i64 T.tab[kn]) by rw [Nat.mul_one]; exact hct kn _ (getint (by omega))) ⟨rfl, rfl⟩)) ?_
      refine WQ.c rfl ((QO.o rfl fun _ => o_ash (show _ = Value.int _ _ from rfl) ⟨rfl, rfl⟩)) ?_
      refine WQ.c rfl ((QO.o rfl fun _ => o_ash (show _ = Value.int _ _ from rfl) ⟨rfl, rfl⟩)) ?_
      refine WQ.nil ?_
      intro nq
      refine W.ret ?_
      refine ret2v rfl (show _ = Value.int _ _ from rfl) (show _ = Value.int _ _ from rfl) ?_
      refine ⟨?_, hx14.tr (Only.drewN _ _)⟩
      rw [slotR, if_neg (by omega), ← hT, if_pos (by rw [inb_iff]; omega), Int.toNat_natCast, List.getD_eq_getElem?_getD, List.getElem?_eq_getElem (by omega), Option.getD_some]
theorem rtop_spec (H p most high : Nat) (L : List Fr) (lv : Value) (V : Nat → Value) (w0 : World) (h : RStk w0 H p most high L lv V) : Ca Try.prog 64 #[.pointer (some ⟨p, 0, none⟩)] w0 (fun v w' => ∃ tv, v = .tuple #[.agg (fcells (topF L) tv).toArray, .int .i64 (emptyE L)] ∧ w'.ownsRow w0.heap.size 3 1 tv (topF L).tab.length (ints (topF L).tab) ∧ Ext w0 w') := by
  refine Ca.of Try.func64 Try.ntmps64 rfl rfl ?_
  refine W.seq ?_
  refine W.region ?_
  refine WL.c rfl (o_alB TI39 ?_)
  intro w2 hC2 hx2 hs2
  replace h := h.ext hx2
  have hcell := h.cell
  refine WL.c rfl (o_ash (show _ = Value.int _ _ from rfl) ?_)
  refine WL.nil ?_
  refine W.seq ?_
  refine W.seq ?_
  refine W.region ?_
  refine WL.c rfl (o_mvh (by first | exact (show _ = Value.pointer _ from rfl) | exact rfl) ?_)
  refine WL.c rfl (o_nil rfl ?_)
  refine WL.c rfl (o_fa 0 TI95 rfl TI22 rfl rfl ?_)
  refine WL.c rfl (o_ld TI22 rfl rfl (cell_of hcell rfl) ?_)
  refine WL.c rfl (o_lenR TI22 rfl (Sl.own h.rows.row) ?_)
  refine WL.c rfl (o_eq rfl rfl ?_)
  refine WL.nil ?_
  refine W.cond rfl (fun c9 => ?_) (fun c9 => ?_)
  · try simp only [decide_eq_true_eq, decide_eq_false_iff_not, Bool.not_eq_true', Bool.not_eq_false', Bool.and_eq_true, Bool.or_eq_true, Bool.and_eq_false_iff, Bool.or_eq_false_iff] at c9
    refine W.seq ?_
    skip
    · skip
      have h0 : L.length = 0 := by omega
      refine W.region ?_
      refine WL.c rfl (o_bldC (cs := [(.int .i64 0), (.int .i64 0), (.int .i64 0), (.int .i64 0), (.int .i64 0), (.int .i64 0), (.slice none 0 0)]) TI39 (Sizes.cons TI3 (Sizes.cons TI3 (Sizes.cons TI3 (Sizes.cons TI3 (Sizes.cons TI3 (Sizes.cons TI3 (Sizes.cons TI37 Sizes.nil))))))) rfl lnp rfl rfl ?_)
      refine WL.u (o_stA TI39 rfl (show _ = Value.agg (fcells Fr.nil (.slice none 0 0)).toArray from rfl) rfl rfl hC2 rfl ?_)
      intro w9 hB9 ho9 hs9
      refine WL.c rfl (o_ash (show _ = Value.int _ _ from rfl) ?_)
      refine WL.nil ?_
      refine W.ret ?_
      refine retCT rfl TI39 rfl (show _ = Value.int _ _ from rfl) rfl (show Cells w9 w0.heap.size 0 (fcells Fr.nil (.slice none 0 0)) from Cells.of hB9 0 _ (by simp)) rfl ?_
      rw [topF_nil h0, emptyE, if_pos h0]
      exact ⟨.slice none 0 0, rfl, World.ownsRow_nil _ _ _ _, hx2.trans' ho9 (fun _ h => h) (fun j hj he => by omega)⟩
  · try simp only [decide_eq_true_eq, decide_eq_false_iff_not, Bool.not_eq_true', Bool.not_eq_false', Bool.and_eq_true, Bool.or_eq_true, Bool.and_eq_false_iff, Bool.or_eq_false_iff] at c9
    refine W.skip ?_
    refine W.seq ?_
    obtain ⟨g, cap, rfl, hb, hcs⟩ := h.rows.at (k := L.length - 1) (by omega)
    obtain ⟨T, hT⟩ : ∃ T, T = topF L := ⟨_, rfl⟩
    rw [show L.getD (L.length - 1) Fr.nil = T from hT.symm, ← Nat.zero_add ((L.length - 1) * 7)] at hcs
    have htab := h.rows.tab (k := L.length - 1) (by omega)
    rw [show tabl L (L.length - 1) = T.tab from congrArg Fr.tab hT.symm] at htab
    have htl := h.tl (L.length - 1) (by omega)
    rw [show tabl L (L.length - 1) = T.tab from congrArg Fr.tab hT.symm] at htl
    have hmb := h.mb
    have hlen := h.len
    obtain ⟨tv, htv⟩ : ∃ tv, tv = V (L.length - 1) := ⟨_, rfl⟩
    rw [← htv] at hcs htab
    obtain ⟨wd, hwd⟩ : ∃ wd, wd = w2.drew := ⟨_, rfl⟩
    have hxd : Ext w2 wd := hwd ▸ Only.drew w2
    replace hC2 := hxd.blk hC2 (fun h => h)
    replace hcell := hxd.blk hcell (fun h => h)
    replace hcs := hcs.only hxd (fun h => h)
    replace htab := Sl.ext htab hxd
    replace hx2 := hx2.tr hxd
    refine W.drawT 13 (Ext) [(0, fun v _ => v = _), (2, fun v _ => v = _)] rfl (by kernel_rfl) (Only.refl No) (fun _ _ _ h k => h.trans k) ⟨Mono.eq, Mono.eq, trivial⟩ ⟨rfl, rfl, trivial⟩ ?_
    refine WD.p rfl (fun e w hR hh => by obtain ⟨h0, -⟩ := hh; exact SG.n (o_mvh h0 ⟨rfl, Only.refl No _⟩)) ?_
    refine WD.p rfl (fun e w hR hh => by obtain ⟨h11, -⟩ := hh; exact SG.n (o_nil h11 ⟨rfl, Only.refl No _⟩)) ?_
    refine WD.p rfl (fun e w hR hh => by obtain ⟨h12, -⟩ := hh; exact SG.n (o_fa 0 TI95 rfl TI22 rfl h12 ⟨rfl, Only.refl No _⟩)) ?_
    refine WD.p rfl (fun e w hR hh => by obtain ⟨h13, -⟩ := hh; rw [← hwd] at hR; have hc := hR.blk hcell (fun h => h); exact SG.n (o_ld TI22 rfl h13 (cell_of hc rfl) ⟨rfl, Only.refl No _⟩)) ?_
    refine WD.p rfl (fun e w hR hh => by obtain ⟨h0, -⟩ := hh; exact SG.n (o_mvh h0 ⟨rfl, Only.refl No _⟩)) ?_
    refine WD.p rfl (fun e w hR hh => by obtain ⟨h15, -⟩ := hh; exact SG.n (o_nil h15 ⟨rfl, Only.refl No _⟩)) ?_
    refine WD.p rfl (fun e w hR hh => by obtain ⟨h16, -⟩ := hh; exact SG.n (o_fa 0 TI95 rfl TI22 rfl h16 ⟨rfl, Only.refl No _⟩)) ?_
    refine WD.p rfl (fun e w hR hh => by obtain ⟨h17, -⟩ := hh; rw [← hwd] at hR; have hc := hR.blk hcell (fun h => h); exact SG.n (o_ld TI22 rfl h17 (cell_of hc rfl) ⟨rfl, Only.refl No _⟩)) ?_
    refine WD.p rfl (fun e w hR hh => by obtain ⟨h18, -⟩ := hh; skip; exact SG.n (o_lenR TI22 h18 (Sl.own (h.rows.ext (hxd.tr (hwd ▸ hR))).row) ⟨rfl, Only.refl No _⟩)) ?_
    refine WD.p rfl (fun e w hR hh => by obtain ⟨h19, -⟩ := hh; exact SG.n (o_subi h19 rfl (by have := h.len; have := h.mb; omega) ⟨rfl, Only.refl No _⟩)) ?_
    refine WD.p rfl (fun e w hR hh => by obtain ⟨h20, h14, -⟩ := hh; exact SG.n (o_ixB (i := L.length - 1) TI22 TI39 h14 (h20.trans (by congr 1; omega)) (by omega) ⟨rfl, Only.refl No _⟩)) ?_
    refine WD.p rfl (fun e w hR hh => by obtain ⟨h21, -⟩ := hh; rw [← hwd] at hR; exact SG.n (o_ldA TI39 rfl h21 (hcs.only hR (fun h => h)) rfl ⟨rfl, Only.refl No _⟩)) ?_
    refine WD.q (fun v w => ∃ u, v = .agg (fcells T u).toArray ∧ w.ownsRow wd.heap.size 3 1 u T.tab.length (ints T.tab)) (fun v w w2 hR hh => by obtain ⟨u, h1, h2⟩ := hh; exact ⟨u, h1, own_ext h2 hR⟩) rfl (fun e w hR hh => by obtain ⟨h22, -⟩ := hh; rw [← hwd] at hR; exact SG.n (o_call Try.call24 (lc h22 ln) ((ownr_spec T tv w (Sl.ext htab hR) (by omega)).mono (fun v w' hh => by obtain ⟨u, h1, h2, h3⟩ := hh; exact ⟨⟨u, h1, own_mono h2 hR.size⟩, h3⟩)))) ?_
    rintro e w hR ⟨h23, h22, h21, h20, h19, h18, h17, h16, h15, h14, h13, h12, h11, h0, h2, -⟩
    rw [← hwd] at hR
    obtain ⟨u, h23, hu⟩ := h23
    have hC2b := hR.blk hC2 (fun h => h)
    refine WL.u (o_stA TI39 h2 (show _ = Value.agg (fcells T u).toArray from h23) rfl (fcells_one (own_one hu)) hC2b rfl ?_)
    intro w9 hB9 ho9 hs9
    refine WL.c rfl (o_ash (show _ = Value.int _ _ from rfl) ?_)
    refine WL.nil ?_
    refine W.ret ?_
    refine retCT rfl TI39 rfl (show _ = Value.int _ _ from rfl) h2 (show Cells w9 w0.heap.size 0 (fcells T u) from Cells.of hB9 0 _ (by simp)) rfl ?_
    rw [← hT, emptyE, if_neg (show ¬ L.length = 0 by omega)]
    exact ⟨u, rfl, own_mono (own_only hu ho9 (fun k hk he => by subst he; exact own_off hu hC2b (by decide) hk)) hx2.size, (hx2.tr hR).trans' ho9 (fun _ h => h) (fun j hj he => by omega)⟩
theorem rhead_spec (H p most high : Nat) (L : List Fr) (lv : Value) (V : Nat → Value) (w0 : World) (h : RStk w0 H p most high L lv V) : Ca Try.prog 65 #[.pointer (some ⟨p, 0, none⟩)] w0 (fun v w' => v = .tuple #[.agg (fcells (topF L) (.slice none 0 0)).toArray, .int .i64 (emptyE L)] ∧ Ext w0 w') := by
  refine Ca.of Try.func65 Try.ntmps65 rfl rfl ?_
  refine W.seq ?_
  refine W.region ?_
  refine WL.c rfl (o_alB TI39 ?_)
  intro w2 hC2 hx2 hs2
  replace h := h.ext hx2
  refine WL.c rfl (o_ash (show _ = Value.int _ _ from rfl) ?_)
  refine WL.nil ?_
  refine W.seq ?_
  refine W.region ?_
  refine WL.c rfl (o_mvh (by first | exact (show _ = Value.pointer _ from rfl) | exact rfl) ?_)
  refine WL.c rfl (o_call Try.call64 (lc rfl ln) ((rtop_spec H p most high L lv V _ h).mono ?_))
  rintro v8 w8 ⟨tv, rfl, hown, hx8⟩
  replace hC2 := hx8.blk hC2 (fun h => h)
  have hx := hx2.tr hx8
  refine WL.c rfl (o_mvh (by first | exact (show _ = Value.tuple _ from rfl) | exact rfl) ?_)
  refine WL.c rfl (o_ext rfl rfl ?_)
  refine WL.c rfl (o_ext rfl rfl ?_)
  refine WL.c rfl (o_alB TI39 ?_)
  intro w4 hC4 hx4 hs4
  have hne : w0.heap.size < w8.heap.size := (Array.getElem?_eq_some_iff.1 hC2).1
  replace hC2 := hx4.blk hC2 (fun h => h)
  refine WL.u (o_stA TI39 rfl (show _ = Value.agg (fcells (topF L) tv).toArray from rfl) rfl (fcells_one (own_one hown)) hC4 rfl ?_)
  intro w5 hB5 ho5 hs5
  replace hC2 := ho5.blk hC2 (show ¬ w0.heap.size = w8.heap.size by omega)
  refine WL.c rfl (o_ash (show _ = Value.int _ _ from rfl) ?_)
  refine WL.nil ?_
  refine W.seq ?_
  refine W.region ?_
  refine WL.c rfl (o_fa 6 TI39 rfl TI37 rfl rfl ?_)
  refine WL.u (o_stB TI37 rfl rfl rfl hB5 (show 6 < 7 by decide) ?_)
  intro w6 hB6 ho6 hs6
  replace hB6 : w6.heap[w8.heap.size]? = some (.cells (fcells (topF L) (.slice none 0 0)).toArray 39 (0, 0)) := hB6
  replace hC2 := ho6.blk hC2 (show ¬ w0.heap.size = w8.heap.size by omega)
  refine WL.nil ?_
  refine W.seq ?_
  refine W.region ?_
  refine WL.c rfl (o_ldA TI39 rfl rfl (show Cells w6 w8.heap.size 0 (fcells (topF L) (.slice none 0 0)) from Cells.of hB6 0 _ (by simp)) rfl ?_)
  refine WL.c rfl (o_mvh (show _ = Value.int _ _ from rfl) ?_)
  refine WL.u (o_stA TI39 rfl (show _ = Value.agg (fcells (topF L) (.slice none 0 0)).toArray from rfl) rfl (fcells_one rfl) hC2 rfl ?_)
  intro w7 hB7 ho7 hs7
  refine WL.c rfl (o_ash (show _ = Value.int _ _ from rfl) ?_)
  refine WL.nil ?_
  refine W.ret ?_
  refine retCT rfl TI39 rfl (show _ = Value.int _ _ from rfl) rfl (show Cells w7 w0.heap.size 0 (fcells (topF L) (.slice none 0 0)) from Cells.of hB7 0 _ (by simp)) rfl ?_
  exact ⟨rfl, (((hx.tr hx4).trans' ho5 (fun _ h => h) (fun j hj he => by omega)).trans' ho6 (fun _ h => h) (fun j hj he => by omega)).trans' ho7 (fun _ h => h) (fun j hj he => by omega)⟩
theorem rpop_spec (H p most high : Nat) (L : List Fr) (lv : Value) (V : Nat → Value) (w0 : World) (h : RStk w0 H p most high L lv V) : Ca Try.prog 58 #[.pointer (some ⟨p, 0, none⟩)] w0 (fun v w' => ∃ tv, v = .tuple #[.agg (fcells (topF L) tv).toArray, .int .i64 (emptyE L)] ∧ w'.ownsRow w0.heap.size 3 1 tv (topF L).tab.length (ints (topF L).tab) ∧ ∃ lv' V', RTurn w0 w' H p most high L lv V high (L.take (L.length - 1)) lv' V' ∧ ∀ k, SF p lv' V' (L.length - 1) k → k < w0.heap.size) := by
  have h00 := h
  refine Ca.of Try.func58 Try.ntmps58 rfl rfl ?_
  refine W.seq ?_
  refine W.region ?_
  refine WL.c rfl (o_alB TI39 ?_)
  intro w2 hC2 hx2 hs2
  replace h := h.ext hx2
  refine WL.c rfl (o_ash (show _ = Value.int _ _ from rfl) ?_)
  refine WL.nil ?_
  refine W.seq ?_
  refine W.region ?_
  refine WL.c rfl (o_mvh (by first | exact (show _ = Value.pointer _ from rfl) | exact rfl) ?_)
  refine WL.c rfl (o_call Try.call64 (lc rfl ln) ((rtop_spec H p most high L lv V _ h).mono ?_))
  rintro v8 w8 ⟨tv, rfl, hown, hx8⟩
  replace hC2 := hx8.blk hC2 (fun h => h)
  replace h := h.ext hx8
  have hx := hx2.tr hx8
  replace hown := own_mono hown hx2.size
  refine WL.c rfl (o_mvh (by first | exact (show _ = Value.tuple _ from rfl) | exact rfl) ?_)
  refine WL.c rfl (o_ext rfl rfl ?_)
  refine WL.c rfl (o_ext rfl rfl ?_)
  refine WL.c rfl (o_alB TI39 ?_)
  intro w4 hC4 hx4 hs4
  have hne : w0.heap.size < w8.heap.size := (Array.getElem?_eq_some_iff.1 hC2).1
  replace hC2 := hx4.blk hC2 (fun h => h)
  replace h := h.ext hx4
  replace hown := own_ext hown hx4
  refine WL.u (o_stA TI39 rfl (show _ = Value.agg (fcells (topF L) tv).toArray from rfl) rfl (fcells_one (own_one hown)) hC4 rfl ?_)
  intro w5 hB5 ho5 hs5
  replace hC2 := ho5.blk hC2 (show ¬ w0.heap.size = w8.heap.size by omega)
  replace hown := own_only hown ho5 (fun k hk he => by subst he; exact own_off hown hC4 (by decide) hk)
  replace h := h.only ho5 (fun k hk he => by have := (h00.lt k hk).2; omega)
  replace hx : Ext w0 w5 := (hx.tr hx4).trans' ho5 (fun _ h => h) (fun j hj he => by omega)
  refine WL.c rfl (o_ash (show _ = Value.int _ _ from rfl) ?_)
  refine WL.nil ?_
  refine W.seq ?_
  refine W.seq ?_
  rcases Nat.eq_zero_or_pos L.length with h0 | h0
  · skip
    rw [emptyE, if_pos h0]
    refine W.region ?_
    refine WL.c rfl (o_mvh (show _ = Value.int _ _ from rfl) ?_)
    refine WL.c rfl (o_eq rfl rfl ?_)
    refine WL.nil ?_
    refine W.condF' rfl (by simp) ?_
    refine W.skip ?_
    refine W.seq ?_
    refine W.region ?_
    refine WL.c rfl (o_ldA TI39 rfl rfl (show Cells w5 w8.heap.size 0 (fcells (topF L) tv) from Cells.of hB5 0 _ (by simp)) rfl ?_)
    refine WL.c rfl (o_mvh (show _ = Value.int _ _ from rfl) ?_)
    refine WL.u (o_stA TI39 rfl (show _ = Value.agg (fcells (topF L) tv).toArray from rfl) rfl (fcells_one (own_one hown)) hC2 rfl ?_)
    intro w7 hB7 ho7 hs7
    refine WL.c rfl (o_ash (show _ = Value.int _ _ from rfl) ?_)
    refine WL.nil ?_
    refine W.ret ?_
    refine retCT rfl TI39 rfl (show _ = Value.int _ _ from rfl) rfl (show Cells w7 w0.heap.size 0 (fcells (topF L) tv) from Cells.of hB7 0 _ (by simp)) rfl ?_
    rw [List.length_eq_zero_iff.1 h0]
    rw [List.length_eq_zero_iff.1 h0] at h00 hown
    have hx7 : Ext w0 w7 := hx.trans' ho7 (fun _ h => h) (fun j hj he => by omega)
    exact ⟨tv, rfl, own_only hown ho7 (fun k hk he => by subst he; rw [List.length_eq_zero_iff.1 h0] at hB7; exact own_off hown hC2 (by decide) hk), lv, V, RTurn.same h00 hx7, fun k hk => (h00.lt k hk).2⟩
  · skip
    rw [emptyE, if_neg (show ¬ L.length = 0 by omega)]
    obtain ⟨g, cap, rfl, hb, hcs⟩ := h.rows.at (k := L.length - 1) (by omega)
    have hcell := h.cell
    have hmb := h.mb
    have hlen := h.len
    refine W.region ?_
    refine WL.c rfl (o_mvh (show _ = Value.int _ _ from rfl) ?_)
    refine WL.c rfl (o_eq rfl rfl ?_)
    refine WL.nil ?_
    refine W.condT' rfl (by simp) ?_
    refine W.tail 14 rfl (by kernel_rfl) ?_
    refine WS.c rfl ((SO.o rfl (o_mvh (by first | exact (show _ = Value.pointer _ from rfl) | exact rfl) ⟨rfl, rfl⟩))) ?_
    refine WS.c rfl ((SO.o rfl (o_mvh (by first | exact (show _ = Value.pointer _ from rfl) | exact rfl) ⟨rfl, rfl⟩))) ?_
    refine WS.c rfl ((SO.r (r_nil rfl))) ?_
    refine WS.c rfl ((SO.o rfl (o_fa 0 TI95 rfl TI22 rfl rfl ⟨rfl, rfl⟩))) ?_
    refine WS.c rfl ((SO.o rfl (o_ld TI22 rfl rfl (cell_of hcell rfl) ⟨rfl, rfl⟩))) ?_
    refine WS.c rfl ((SO.o rfl (o_mvh (by first | exact (show _ = Value.pointer _ from rfl) | exact rfl) ⟨rfl, rfl⟩))) ?_
    refine WS.c rfl ((SO.r (r_nil rfl))) ?_
    refine WS.c rfl ((SO.o rfl (o_fa 0 TI95 rfl TI22 rfl rfl ⟨rfl, rfl⟩))) ?_
    refine WS.c rfl ((SO.o rfl (o_ld TI22 rfl rfl (cell_of hcell rfl) ⟨rfl, rfl⟩))) ?_
    refine WS.c rfl ((SO.r (r_len TI22 rfl))) ?_
    refine WS.c rfl ((SO.o rfl (o_subi rfl rfl (by omega) ⟨rfl, rfl⟩))) ?_
    refine WS.c rfl ((SO.o rfl (o_slv (h := L.length - 1) TI22 TI39 rfl Lo.n (Hi.s (by show Value.int .i64 ((L.length : Int) - 1) = _; congr 1; omega)) (Nat.zero_le _) (show _ ≤ cap by obtain ⟨_, _, hv, _, _, hnc, _⟩ := own_blk h.rows.row hb; simp only [Value.slice.injEq] at hv; omega) ⟨rfl, (sliced0 _ _ _ _).symm⟩))) ?_
    refine WS.c rfl ((SO.r (r_nil rfl))) ?_
    refine WS.c rfl ((SO.o rfl (o_fa 0 TI95 rfl TI22 rfl rfl ⟨rfl, rfl⟩))) ?_
    refine WS.nil ?_
    refine WL.u (o_stB TI22 rfl (show _ = Value.slice (some ⟨g, 0, none⟩) (L.length - 1) cap from rfl) rfl hcell (show 0 < 3 by decide) ?_)
    intro w6 hB6 ho6 hs6
    replace ho6 : Only (fun k => k = p) w5 w6 := (Only.drew w5).trans' ho6 (fun _ hF => hF.elim) (fun _ _ h => h)
    replace hB6 : w6.heap[p]? = some (.cells #[.slice (some ⟨g, 0, none⟩) (L.length - 1) cap, .int .i64 (most : Int), .int .i64 (high : Int)] 95 (0, 0)) := hB6
    have hp0 := (h00.lt p (.inl rfl)).2
    have hrows6 := (Rows.take h.rows rfl (m := L.length - 1) (by omega)).only ho6 (fun k hk he => by subst he; exact h.p_off (RF.take hk (by rw [List.length_take]; omega)))
    replace hB5 := ho6.blk hB5 (show ¬ w8.heap.size = p by omega)
    replace hC2 := ho6.blk hC2 (show ¬ w0.heap.size = p by omega)
    replace hown := own_only hown ho6 (fun k hk he => by subst he; exact own_off hown hcell (by decide) hk)
    refine WL.nil ?_
    refine W.seq ?_
    refine W.region ?_
    refine WL.c rfl (o_ldA TI39 rfl rfl (show Cells w6 w8.heap.size 0 (fcells (topF L) tv) from Cells.of hB5 0 _ (by simp)) rfl ?_)
    refine WL.c rfl (o_mvh (show _ = Value.int _ _ from rfl) ?_)
    refine WL.u (o_stA TI39 rfl (show _ = Value.agg (fcells (topF L) tv).toArray from rfl) rfl (fcells_one (own_one hown)) hC2 rfl ?_)
    intro w7 hB7 ho7 hs7
    refine WL.c rfl (o_ash (show _ = Value.int _ _ from rfl) ?_)
    refine WL.nil ?_
    refine W.ret ?_
    refine retCT rfl TI39 rfl (show _ = Value.int _ _ from rfl) rfl (show Cells w7 w0.heap.size 0 (fcells (topF L) tv) from Cells.of hB7 0 _ (by simp)) rfl ?_
    have hl1 : (L.take (L.length - 1)).length = L.length - 1 := by rw [List.length_take]; omega
    have hSF : ∀ k, SF p (.slice (some ⟨g, 0, none⟩) (L.length - 1) cap) V (L.length - 1) k → SF p (.slice (some ⟨g, 0, none⟩) L.length cap) V L.length k := fun k hk => hk.imp id (fun hk => RF.take hk (by omega))
    refine ⟨tv, rfl, own_only hown ho7 (fun k hk he => by subst he; exact own_off hown hC2 (by decide) hk), .slice (some ⟨g, 0, none⟩) (L.length - 1) cap, V, ⟨⟨ho7.blk hB6 (by omega), hrows6.only ho7 (fun k hk he => by have := (h00.lt k (hSF k (.inr (by rw [hl1] at hk; exact hk)))).2; omega), h.lo, h.mb, by rw [hl1]; omega, fun k hk => by rw [hl1] at hk; have := h.tl k (by omega); simp only [tabl, List.getD_eq_getElem?_getD, List.getElem?_take, if_pos hk] at this ⊢; exact this⟩, ?_, fun k hk => .inl (hSF k (by rw [hl1] at hk; exact hk))⟩, fun k hk => (h00.lt k (hSF k hk)).2⟩
    exact (hx.trans' (H := SF p _ V L.length) ho6 (fun _ h => h.elim) (fun k _ hk => .inl hk)).trans' ho7 (fun _ h => h) (fun k hk he => by omega)
theorem rset_spec (H p most high : Nat) (L : List Fr) (lv : Value) (V : Nat → Value) (f : Fr) (fv : Value) (w0 : World) (h : RStk w0 H p most high L lv V) (hS : In w0 fv f.tab) (hl : f.tab.length ≤ 16000000000000) : Ca Try.prog 60 #[.pointer (some ⟨p, 0, none⟩), .agg (fcells f fv).toArray] w0 (fun v w' => v = .int .i64 (setR L f).1 ∧ ∃ lv' V', RTurn w0 w' H p most high L lv V high (setR L f).2 lv' V') := by
  refine Ca.of Try.func60 Try.ntmps60 rfl rfl ?_
  refine W.seq ?_
  refine W.region ?_
  refine WL.c rfl (o_boxB rfl ?_)
  have h00 := h
  intro w3 hC3 hx3 hs3
  replace hC3 : w3.heap[w0.heap.size]? = some (.cells (fcells f fv).toArray 39 (0, 0)) := hC3
  replace h := h.ext hx3
  have hcell := h.cell
  replace hS := hS.ext hx3
  refine WL.c rfl (o_ash (show _ = Value.int _ _ from rfl) ?_)
  refine WL.nil ?_
  refine W.seq ?_
  refine W.seq ?_
  refine W.region ?_
  refine WL.c rfl (o_mvh (by first | exact (show _ = Value.pointer _ from rfl) | exact rfl) ?_)
  refine WL.c rfl (o_nil rfl ?_)
  refine WL.c rfl (o_fa 0 TI95 rfl TI22 rfl rfl ?_)
  refine WL.c rfl (o_ld TI22 rfl rfl (cell_of hcell rfl) ?_)
  refine WL.c rfl (o_lenR TI22 rfl (Sl.own h.rows.row) ?_)
  refine WL.c rfl (o_eq rfl rfl ?_)
  refine WL.nil ?_
  refine W.cond rfl (fun c10 => ?_) (fun c10 => ?_)
  · try simp only [decide_eq_true_eq, decide_eq_false_iff_not, Bool.not_eq_true', Bool.not_eq_false', Bool.and_eq_true, Bool.or_eq_true, Bool.and_eq_false_iff, Bool.or_eq_false_iff] at c10
    refine W.seq ?_
    refine W.region ?_
    refine WL.c rfl (o_ash (show _ = Value.int _ _ from rfl) ?_)
    refine WL.nil ?_
    refine W.ret ?_
    refine ret1v rfl (show _ = Value.int _ _ from rfl) ?_
    have hp : setR L f = (220, L) := by rw [setR, if_pos (by omega)]
    rw [hp]
    exact ⟨rfl, lv, V, RTurn.same h00 hx3⟩
  · try simp only [decide_eq_true_eq, decide_eq_false_iff_not, Bool.not_eq_true', Bool.not_eq_false', Bool.and_eq_true, Bool.or_eq_true, Bool.and_eq_false_iff, Bool.or_eq_false_iff] at c10
    refine W.skip ?_
    refine W.seq ?_
    refine W.seq ?_
    refine W.region ?_
    refine WL.c rfl (o_ldA TI39 rfl rfl (show Cells w3 w0.heap.size 0 (fcells f fv) from Cells.of hC3 0 _ (by simp)) rfl ?_)
    refine WL.c rfl (o_call Try.call72 (lc rfl ln) ((rright_spec f fv _ hS (by rw [maxLen_eq]; omega)).mono ?_))
    rintro v12 w12 ⟨rfl, hx12⟩
    have hxq := hx3.tr hx12
    replace h := h.ext hx12
    replace hS := hS.ext hx12
    replace hC3 := hx12.blk hC3 (fun h => h)
    refine WL.c rfl (o_not' rfl ?_)
    refine WL.nil ?_
    refine W.cond rfl (fun c13 => ?_) (fun c13 => ?_)
    · try simp only [decide_eq_true_eq, decide_eq_false_iff_not, Bool.not_eq_true', Bool.not_eq_false', Bool.and_eq_true, Bool.or_eq_true, Bool.and_eq_false_iff, Bool.or_eq_false_iff] at c13
      refine W.seq ?_
      refine W.region ?_
      refine WL.c rfl (o_ash (show _ = Value.int _ _ from rfl) ?_)
      refine WL.nil ?_
      refine W.ret ?_
      refine ret1v rfl (show _ = Value.int _ _ from rfl) ?_
      have hp : setR L f = (3, L) := by rw [setR, if_neg (by omega), if_neg (by simp_all)]
      rw [hp]
      exact ⟨rfl, _, V, RTurn.same h00 hxq⟩
    · try simp only [decide_eq_true_eq, decide_eq_false_iff_not, Bool.not_eq_true', Bool.not_eq_false', Bool.and_eq_true, Bool.or_eq_true, Bool.and_eq_false_iff, Bool.or_eq_false_iff] at c13
      refine W.skip ?_
      refine W.seq ?_
      obtain ⟨g, cap, rfl, hb, hcs⟩ := h.rows.at (k := L.length - 1) (by omega)
      have hmb := h.mb
      have hlen := h.len
      obtain ⟨wd, hwd⟩ : ∃ wd, wd = w12.drew := ⟨_, rfl⟩
      have hxd : Ext w12 wd := hwd ▸ Only.drew w12
      replace h := h.ext hxd
      replace hC3 := hxd.blk hC3 (fun h => h)
      replace hxq := hxq.tr hxd
      replace hcell := h.cell
      have hltV : ∀ j, j < L.length → ∀ k, (V j).ownBlock = some k → k < wd.heap.size := fun j hj k hk => (h.rows.tabs.lt hj hk).2
      have hH : H ≤ wd.heap.size := by have := h.lt p (.inl rfl); have := h.lo; omega
      replace hS := hS.ext hxd
      refine W.drawT 13 (Ext) [(0, fun v _ => v = _), (3, fun v _ => v = _)] rfl (by kernel_rfl) (Only.refl No) (fun _ _ _ h k => h.trans k) ⟨Mono.eq, Mono.eq, trivial⟩ ⟨rfl, rfl, trivial⟩ ?_
      refine WD.p rfl (fun e w hR hh => by obtain ⟨h0, -⟩ := hh; exact SG.n (o_mvh h0 ⟨rfl, Only.refl No _⟩)) ?_
      refine WD.p rfl (fun e w hR hh => by obtain ⟨h14, -⟩ := hh; exact SG.n (o_nil h14 ⟨rfl, Only.refl No _⟩)) ?_
      refine WD.p rfl (fun e w hR hh => by obtain ⟨h15, -⟩ := hh; exact SG.n (o_fa 0 TI95 rfl TI22 rfl h15 ⟨rfl, Only.refl No _⟩)) ?_
      refine WD.p rfl (fun e w hR hh => by obtain ⟨h16, -⟩ := hh; rw [← hwd] at hR; have hc := hR.blk hcell (fun h => h); exact SG.n (o_ld TI22 rfl h16 (cell_of hc rfl) ⟨rfl, Only.refl No _⟩)) ?_
      refine WD.p rfl (fun e w hR hh => by obtain ⟨h0, -⟩ := hh; exact SG.n (o_mvh h0 ⟨rfl, Only.refl No _⟩)) ?_
      refine WD.p rfl (fun e w hR hh => by obtain ⟨h18, -⟩ := hh; exact SG.n (o_nil h18 ⟨rfl, Only.refl No _⟩)) ?_
      refine WD.p rfl (fun e w hR hh => by obtain ⟨h19, -⟩ := hh; exact SG.n (o_fa 0 TI95 rfl TI22 rfl h19 ⟨rfl, Only.refl No _⟩)) ?_
      refine WD.p rfl (fun e w hR hh => by obtain ⟨h20, -⟩ := hh; rw [← hwd] at hR; have hc := hR.blk hcell (fun h => h); exact SG.n (o_ld TI22 rfl h20 (cell_of hc rfl) ⟨rfl, Only.refl No _⟩)) ?_
      refine WD.p rfl (fun e w hR hh => by obtain ⟨h21, -⟩ := hh; rw [← hwd] at hR; exact SG.n (o_lenR TI22 h21 (Sl.own (h.rows.ext hR).row) ⟨rfl, Only.refl No _⟩)) ?_
      refine WD.p rfl (fun e w hR hh => by obtain ⟨h22, -⟩ := hh; exact SG.n (o_subi h22 rfl (by omega) ⟨rfl, Only.refl No _⟩)) ?_
      refine WD.p rfl (fun e w hR hh => by obtain ⟨h3, -⟩ := hh; rw [← hwd] at hR; exact SG.n (o_ldA TI39 rfl h3 (show Cells w w0.heap.size 0 (fcells f fv) from Cells.of (hR.blk hC3 (fun h => h)) 0 _ (by simp)) rfl ⟨rfl, Only.refl No _⟩)) ?_
      refine WD.q (fun v w => ∃ u, v = .agg (fcells f u).toArray ∧ w.ownsRow wd.heap.size 3 1 u f.tab.length (ints f.tab)) (fun v w w2 hR hh => by obtain ⟨u, h1, h2⟩ := hh; exact ⟨u, h1, own_ext h2 hR⟩) rfl (fun e w hR hh => by obtain ⟨h24, -⟩ := hh; rw [← hwd] at hR; exact SG.n (o_call Try.call24 (lc h24 ln) ((ownr_spec f fv w (hS.ext hR) hl).mono (fun v w' hh => by obtain ⟨u, h1, h2, h3⟩ := hh; exact ⟨⟨u, h1, own_mono h2 hR.size⟩, h3⟩)))) ?_
      refine WD.p rfl (fun e w hR hh => by obtain ⟨h23, h17, -⟩ := hh; exact SG.n (o_ixB (i := L.length - 1) TI22 TI39 h17 (h23.trans (by congr 1; omega)) (by omega) ⟨rfl, Only.refl No _⟩)) ?_
      rintro e w hR ⟨h26, h25, h24, h23, h22, h21, h20, h19, h18, h17, h16, h15, h14, h0, h3, -⟩
      rw [← hwd] at hR
      obtain ⟨u15, h25, hown15⟩ := h25
      replace h := h.ext hR
      replace hxq := hxq.tr hR
      refine WL.u (o_stRA TI39 h26 (Nat.zero_add _) (show _ = Value.agg (fcells f u15).toArray from h25) rfl (fcells_one (own_one hown15)) h.rows.row hb (show L.length - 1 < L.length by omega) ?_)
      intro w16 hr16 ho16 hs16
      have hrow16 := Rows.put (f := f) (tv := u15) (k := L.length - 1) (by omega) hr16 (Many.repl (h.rows.tabs.only ho16 (fun j hj => own_row_off h.rows.row (h.rows.tabs.row j hj) (by decide))) (own_only hown15 ho16 (own_row_off h.rows.row hown15 (by decide))) hH hltV)
      refine WL.nil ?_
      refine W.seq ?_
      refine W.region ?_
      refine WL.c rfl (o_ash (show _ = Value.int _ _ from rfl) ?_)
      refine WL.nil ?_
      refine W.ret ?_
      refine ret1v rfl (show _ = Value.int _ _ from rfl) ?_
      have hwq : w0.heap.size ≤ wd.heap.size := Nat.le_trans hx3.size (Nat.le_trans hx12.size hxd.size)
      have hp : setR L f = (0, L.set (L.length - 1) f) := by rw [setR, if_neg (by omega), if_pos c13]
      rw [hp]
      refine ⟨rfl, _, _, ⟨ho16.blk h.cell (fun hk => h.p_off (.inl hk)), hrow16, h.lo, h.mb, by rw [List.length_set]; exact h.len, tl_set h.tl (fwhole_tab c13)⟩, hxq.trans' ho16 (fun _ hF => hF.elim) (fun k _ hk => .inr (.inl hk)), fun k hk => ?_⟩
      rw [List.length_set] at hk
      exact ite_SF (B := wd.heap.size) (m := L.length - 1) (q := L.length) hwq (.inl rfl) (fun k hk => .inl (by have := (hown15.lt k hk).1; omega)) (Nat.le_refl _) (.inl hk)
theorem rgo_spec (H p most high : Nat) (L : List Fr) (lv : Value) (V : Nat → Value) (f : Fr) (fv : Value) (w0 : World) (h : RStk w0 H p most high L lv V) : Ca Try.prog 61 #[.pointer (some ⟨p, 0, none⟩), .agg (fcells f fv).toArray] w0 (fun v w' => v = .int .i64 (goR L f).1 ∧ ∃ lv' V', RTurn w0 w' H p most high L lv V high (goR L f).2 lv' V') := by
  refine Ca.of Try.func61 Try.ntmps61 rfl rfl ?_
  refine W.seq ?_
  refine W.region ?_
  refine WL.c rfl (o_boxB rfl ?_)
  have h00 := h
  intro w3 hC3 hx3 hs3
  replace hC3 : w3.heap[w0.heap.size]? = some (.cells (fcells f fv).toArray 39 (0, 0)) := hC3
  replace h := h.ext hx3
  have hcell := h.cell
  refine WL.c rfl (o_ash (show _ = Value.int _ _ from rfl) ?_)
  refine WL.nil ?_
  refine W.seq ?_
  refine W.seq ?_
  refine W.region ?_
  refine WL.c rfl (o_mvh (by first | exact (show _ = Value.pointer _ from rfl) | exact rfl) ?_)
  refine WL.c rfl (o_nil rfl ?_)
  refine WL.c rfl (o_fa 0 TI95 rfl TI22 rfl rfl ?_)
  refine WL.c rfl (o_ld TI22 rfl rfl (cell_of hcell rfl) ?_)
  refine WL.c rfl (o_lenR TI22 rfl (Sl.own h.rows.row) ?_)
  refine WL.c rfl (o_eq rfl rfl ?_)
  refine WL.nil ?_
  refine W.cond rfl (fun c10 => ?_) (fun c10 => ?_)
  · try simp only [decide_eq_true_eq, decide_eq_false_iff_not, Bool.not_eq_true', Bool.not_eq_false', Bool.and_eq_true, Bool.or_eq_true, Bool.and_eq_false_iff, Bool.or_eq_false_iff] at c10
    refine W.seq ?_
    refine W.region ?_
    refine WL.c rfl (o_ash (show _ = Value.int _ _ from rfl) ?_)
    refine WL.nil ?_
    refine W.ret ?_
    refine ret1v rfl (show _ = Value.int _ _ from rfl) ?_
    have hp : goR L f = (220, L) := by rw [goR, if_pos (by omega)]
    rw [hp]
    exact ⟨rfl, lv, V, RTurn.same h00 hx3⟩
  · try simp only [decide_eq_true_eq, decide_eq_false_iff_not, Bool.not_eq_true', Bool.not_eq_false', Bool.and_eq_true, Bool.or_eq_true, Bool.and_eq_false_iff, Bool.or_eq_false_iff] at c10
    refine W.skip ?_
    refine W.seq ?_
    skip
    · skip
      skip
      refine W.region ?_
      refine WL.c rfl (o_fa 6 TI39 rfl TI37 rfl rfl ?_)
      refine WL.u (o_stB TI37 rfl rfl rfl hC3 (show 6 < 7 by decide) ?_)
      intro w11 hB11 ho11 hs11
      replace hB11 : w11.heap[w0.heap.size]? = some (.cells (fcells { f with tab := [] } (.slice none 0 0)).toArray 39 (0, 0)) := hB11
      clear hC3
      have hC3 := hB11
      replace h := h.only ho11 (fun k hk he => by have := (h00.lt k hk).2; omega)
      have hxq : Ext w0 w11 := hx3.trans' ho11 (fun _ h => h) (fun j hj he => by omega)
      refine WL.nil ?_
      refine W.seq ?_
      refine W.seq ?_
      refine W.region ?_
      refine WL.c rfl (o_ldA TI39 rfl rfl (show Cells w11 w0.heap.size 0 (fcells { f with tab := [] } (.slice none 0 0)) from Cells.of hB11 0 _ (by simp)) rfl ?_)
      refine WL.c rfl (o_call Try.call72 (lc rfl ln) ((rright_spec { f with tab := [] } (.slice none 0 0) _ (Sl.nil _ _) (Nat.zero_le _)).mono ?_))
      rintro v13 w13 ⟨rfl, hx13⟩
      rw [show fwhole { f with tab := [] } = fright f by simp [fwhole, tright, fright]]
      replace hxq := hxq.tr hx13
      replace h := h.ext hx13
      replace hC3 := hx13.blk hC3 (fun h => h)
      replace hcell := h.cell
      refine WL.c rfl (o_not' rfl ?_)
      refine WL.nil ?_
      refine W.cond rfl (fun c14 => ?_) (fun c14 => ?_)
      · try simp only [decide_eq_true_eq, decide_eq_false_iff_not, Bool.not_eq_true', Bool.not_eq_false', Bool.and_eq_true, Bool.or_eq_true, Bool.and_eq_false_iff, Bool.or_eq_false_iff] at c14
        refine W.seq ?_
        refine W.region ?_
        refine WL.c rfl (o_ash (show _ = Value.int _ _ from rfl) ?_)
        refine WL.nil ?_
        refine W.ret ?_
        refine ret1v rfl (show _ = Value.int _ _ from rfl) ?_
        have hp : goR L f = (3, L) := by rw [goR, if_neg (by omega), if_neg (by simp_all)]
        rw [hp]
        exact ⟨rfl, _, V, RTurn.same h00 hxq⟩
      · try simp only [decide_eq_true_eq, decide_eq_false_iff_not, Bool.not_eq_true', Bool.not_eq_false', Bool.and_eq_true, Bool.or_eq_true, Bool.and_eq_false_iff, Bool.or_eq_false_iff] at c14
        refine W.skip ?_
        refine W.seq ?_
        obtain ⟨g, cap, rfl, hb, hcs⟩ := h.rows.at (k := L.length - 1) (by omega)
        obtain ⟨T, hT⟩ : ∃ T, T = topF L := ⟨_, rfl⟩
        rw [show L.getD (L.length - 1) Fr.nil = T from hT.symm, ← Nat.zero_add ((L.length - 1) * 7)] at hcs
        have htab := h.rows.tab (k := L.length - 1) (by omega)
        rw [show tabl L (L.length - 1) = T.tab from congrArg Fr.tab hT.symm] at htab
        have htl := h.tl (L.length - 1) (by omega)
        rw [show tabl L (L.length - 1) = T.tab from congrArg Fr.tab hT.symm] at htl
        have hmb := h.mb
        have hlen := h.len
        obtain ⟨tv, htv⟩ : ∃ tv, tv = V (L.length - 1) := ⟨_, rfl⟩
        rw [← htv] at hcs htab
        refine W.tail 14 rfl (by kernel_rfl) ?_
        refine WS.c rfl ((SO.o rfl (o_mvh (by first | exact (show _ = Value.pointer _ from rfl) | exact rfl) ⟨rfl, rfl⟩))) ?_
        refine WS.c rfl ((SO.r (r_nil rfl))) ?_
        refine WS.c rfl ((SO.o rfl (o_fa 0 TI95 rfl TI22 rfl rfl ⟨rfl, rfl⟩))) ?_
        refine WS.c rfl ((SO.o rfl (o_ld TI22 rfl rfl (cell_of hcell rfl) ⟨rfl, rfl⟩))) ?_
        refine WS.c rfl ((SO.o rfl (o_mvh (by first | exact (show _ = Value.pointer _ from rfl) | exact rfl) ⟨rfl, rfl⟩))) ?_
        refine WS.c rfl ((SO.r (r_nil rfl))) ?_
        refine WS.c rfl ((SO.o rfl (o_fa 0 TI95 rfl TI22 rfl rfl ⟨rfl, rfl⟩))) ?_
        refine WS.c rfl ((SO.o rfl (o_ld TI22 rfl rfl (cell_of hcell rfl) ⟨rfl, rfl⟩))) ?_
        refine WS.c rfl ((SO.r (r_lenR TI22 rfl (Sl.own h.rows.row)))) ?_
        refine WS.c rfl ((SO.o rfl (o_subi rfl rfl (by have := h.len; have := h.mb; omega) ⟨rfl, rfl⟩))) ?_
        refine WS.c rfl ((SO.o rfl (o_ixB (i := L.length - 1) TI22 TI39 rfl (by show Value.int _ ((L.length : Int) - 1) = _; congr 1; omega) (by omega) ⟨rfl, rfl⟩))) ?_
        refine WS.c rfl ((SO.o rfl (o_fa 6 TI39 rfl TI37 rfl rfl ⟨rfl, rfl⟩))) ?_
        refine WS.c rfl ((SO.o rfl (o_ld TI37 rfl rfl (hcs 6 _ rfl) ⟨rfl, rfl⟩))) ?_
        refine WS.c rfl ((SO.o rfl (o_fa 6 TI39 rfl TI37 rfl rfl ⟨rfl, rfl⟩))) ?_
        refine WS.nil ?_
        refine WL.u (o_stB TI37 rfl (show _ = tv from rfl) (by rw [htv]; exact own_one (h.rows.tabs.row (L.length - 1) (by omega))) hC3 (show 6 < 7 by decide) ?_)
        intro w17 hB17 ho17 hs17
        replace ho17 : Only (fun k => k = w0.heap.size) w13 w17 := (Only.drew w13).trans' ho17 (fun _ hF => hF.elim) (fun _ _ h => h)
        replace hB17 : w17.heap[w0.heap.size]? = some (.cells (fcells f tv).toArray 39 (0, 0)) := hB17
        replace h := h.only ho17 (fun k hk he => by have := (h00.lt k hk).2; omega)
        replace hcell := h.cell
        have hx17 : Ext w0 w17 := hxq.trans' ho17 (fun _ h => h) (fun j hj he => by omega)
        refine WL.nil ?_
        refine W.seq ?_
        refine W.tail 12 rfl (by kernel_rfl) ?_
        refine WS.c rfl ((SO.o rfl (o_mvh (by first | exact (show _ = Value.pointer _ from rfl) | exact rfl) ⟨rfl, rfl⟩))) ?_
        refine WS.c rfl ((SO.r (r_nil rfl))) ?_
        refine WS.c rfl ((SO.o rfl (o_fa 0 TI95 rfl TI22 rfl rfl ⟨rfl, rfl⟩))) ?_
        refine WS.c rfl ((SO.o rfl (o_ld TI22 rfl rfl (cell_of hcell rfl) ⟨rfl, rfl⟩))) ?_
        refine WS.c rfl ((SO.o rfl (o_mvh (by first | exact (show _ = Value.pointer _ from rfl) | exact rfl) ⟨rfl, rfl⟩))) ?_
        refine WS.c rfl ((SO.r (r_nil rfl))) ?_
        refine WS.c rfl ((SO.o rfl (o_fa 0 TI95 rfl TI22 rfl rfl ⟨rfl, rfl⟩))) ?_
        refine WS.c rfl ((SO.o rfl (o_ld TI22 rfl rfl (cell_of hcell rfl) ⟨rfl, rfl⟩))) ?_
        refine WS.c rfl ((SO.r (r_lenR TI22 rfl (Sl.own h.rows.row)))) ?_
        refine WS.c rfl ((SO.o rfl (o_subi rfl rfl (by have := h.len; have := h.mb; omega) ⟨rfl, rfl⟩))) ?_
        refine WS.c rfl ((SO.o rfl (o_ldA TI39 rfl rfl (show Cells _ w0.heap.size 0 (fcells f tv) from Cells.of (show w17.drew.heap[w0.heap.size]? = _ from hB17) 0 _ (by simp)) rfl ⟨rfl, rfl⟩))) ?_
        refine WS.c rfl ((SO.o rfl (o_ixB (i := L.length - 1) TI22 TI39 rfl (by show Value.int _ ((L.length : Int) - 1) = _; congr 1; omega) (by omega) ⟨rfl, rfl⟩))) ?_
        refine WS.nil ?_
        replace h := h.ext (Only.drew w17)
        replace hx17 := hx17.tr (Only.drew w17)
        generalize w17.drew = wz at *
        refine WL.u (o_stRA TI39 rfl (Nat.zero_add _) (show _ = Value.agg (fcells f tv).toArray from rfl) rfl (fcells_one (by rw [htv]; exact own_one (h.rows.tabs.row (L.length - 1) (by omega)))) h.rows.row hb (show L.length - 1 < L.length by omega) ?_)
        intro w16 hr16 ho16 hs16
        have htabs := h.rows.tabs.only ho16 (fun j hj => own_row_off h.rows.row (h.rows.tabs.row j hj) (by decide))
        have hTt : tabl L (L.length - 1) = T.tab := congrArg Fr.tab hT.symm
        have hrow16 := Rows.put (f := { f with tab := T.tab }) (tv := tv) (k := L.length - 1) (by omega) hr16 (htabs.congr (fun j _ => ite_at V htv) (fun j _ => ite_at (fun j => (tabl L j).length) (congrArg List.length hTt.symm)) (fun j _ => ite_at (fun j => ints (tabl L j)) (congrArg ints hTt.symm)))
        refine WL.nil ?_
        refine W.seq ?_
        refine W.region ?_
        refine WL.c rfl (o_ash (show _ = Value.int _ _ from rfl) ?_)
        refine WL.nil ?_
        refine W.ret ?_
        refine ret1v rfl (show _ = Value.int _ _ from rfl) ?_
        have hp : goR L f = (0, L.set (L.length - 1) { f with tab := T.tab }) := by rw [goR, if_neg (by omega), if_pos c14, ← hT]
        rw [hp]
        refine ⟨rfl, _, _, ⟨ho16.blk h.cell (fun hk => h.p_off (.inl hk)), hrow16, h.lo, h.mb, by rw [List.length_set]; exact h.len, tl_set h.tl htl⟩, hx17.trans' ho16 (fun _ hF => hF.elim) (fun k _ hk => .inr (.inl hk)), fun k hk => ?_⟩
        rw [List.length_set] at hk
        exact ite_SF (B := w0.heap.size) (m := L.length - 1) (q := L.length) (Nat.le_refl _) (.inl rfl) (fun k hk => .inr ⟨L.length - 1, by omega, by rw [← htv]; exact hk⟩) (Nat.le_refl _) (.inl hk)
theorem rmark_spec (H p most high : Nat) (L : List Fr) (lv : Value) (V : Nat → Value) (a : Int) (w0 : World) (h : RStk w0 H p most high L lv V) : Ca Try.prog 62 #[.pointer (some ⟨p, 0, none⟩), .int .i64 a] w0 (fun v w' => v = .int .i64 (markR L a).1 ∧ ∃ lv' V', RTurn w0 w' H p most high L lv V high (markR L a).2 lv' V') := by
  have h00 := h
  have hcell := h.cell
  refine Ca.of Try.func62 Try.ntmps62 rfl rfl ?_
  refine W.seq ?_
  refine W.region ?_
  refine WL.c rfl (o_ash (show _ = Value.int _ _ from rfl) ?_)
  refine WL.nil ?_
  refine W.seq ?_
  refine W.seq ?_
  refine W.region ?_
  refine WL.c rfl (o_mvh (by first | exact (show _ = Value.pointer _ from rfl) | exact rfl) ?_)
  refine WL.c rfl (o_nil rfl ?_)
  refine WL.c rfl (o_fa 0 TI95 rfl TI22 rfl rfl ?_)
  refine WL.c rfl (o_ld TI22 rfl rfl (cell_of hcell rfl) ?_)
  refine WL.c rfl (o_lenR TI22 rfl (Sl.own h.rows.row) ?_)
  refine WL.c rfl (o_eq rfl rfl ?_)
  refine WL.nil ?_
  refine W.cond rfl (fun c11 => ?_) (fun c11 => ?_)
  · try simp only [decide_eq_true_eq, decide_eq_false_iff_not, Bool.not_eq_true', Bool.not_eq_false', Bool.and_eq_true, Bool.or_eq_true, Bool.and_eq_false_iff, Bool.or_eq_false_iff] at c11
    refine W.seq ?_
    refine W.region ?_
    refine WL.c rfl (o_ash (show _ = Value.int _ _ from rfl) ?_)
    refine WL.nil ?_
    refine W.ret ?_
    refine ret1v rfl (show _ = Value.int _ _ from rfl) ?_
    have hp : markR L a = (220, L) := by rw [markR, if_pos (by omega)]
    rw [hp]
    exact ⟨rfl, lv, V, RTurn.same h00 (Only.refl _ _)⟩
  · try simp only [decide_eq_true_eq, decide_eq_false_iff_not, Bool.not_eq_true', Bool.not_eq_false', Bool.and_eq_true, Bool.or_eq_true, Bool.and_eq_false_iff, Bool.or_eq_false_iff] at c11
    refine W.skip ?_
    refine W.seq ?_
    obtain ⟨g, cap, rfl, hb, hcs⟩ := h.rows.at (k := L.length - 1) (by omega)
    obtain ⟨T, hT⟩ : ∃ T, T = topF L := ⟨_, rfl⟩
    rw [show L.getD (L.length - 1) Fr.nil = T from hT.symm, ← Nat.zero_add ((L.length - 1) * 7)] at hcs
    have htab := h.rows.tab (k := L.length - 1) (by omega)
    rw [show tabl L (L.length - 1) = T.tab from congrArg Fr.tab hT.symm] at htab
    have htl := h.tl (L.length - 1) (by omega)
    rw [show tabl L (L.length - 1) = T.tab from congrArg Fr.tab hT.symm] at htl
    have hmb := h.mb
    have hlen := h.len
    obtain ⟨tv, htv⟩ : ∃ tv, tv = V (L.length - 1) := ⟨_, rfl⟩
    rw [← htv] at hcs htab
    refine W.quiet rfl (by kernel_rfl) ?_
    refine WQ.c rfl ((QO.o rfl fun _ => o_mvh (by first | exact (show _ = Value.pointer _ from rfl) | exact rfl) ⟨rfl, rfl⟩)) ?_
    refine WQ.c rfl ((QO.r fun _ => r_nil rfl)) ?_
    refine WQ.c rfl ((QO.o rfl fun _ => o_fa 0 TI95 rfl TI22 rfl rfl ⟨rfl, rfl⟩)) ?_
    refine WQ.c rfl ((QO.o rfl fun _ => o_ld TI22 rfl rfl (cell_of hcell rfl) ⟨rfl, rfl⟩)) ?_
    refine WQ.c rfl ((QO.o rfl fun _ => o_mvh (by first | exact (show _ = Value.pointer _ from rfl) | exact rfl) ⟨rfl, rfl⟩)) ?_
    refine WQ.c rfl ((QO.r fun _ => r_nil rfl)) ?_
    refine WQ.c rfl ((QO.o rfl fun _ => o_fa 0 TI95 rfl TI22 rfl rfl ⟨rfl, rfl⟩)) ?_
    refine WQ.c rfl ((QO.o rfl fun _ => o_ld TI22 rfl rfl (cell_of hcell rfl) ⟨rfl, rfl⟩)) ?_
    refine WQ.c rfl ((QO.r fun _ => r_lenR TI22 rfl (Sl.own h.rows.row))) ?_
    refine WQ.c rfl ((QO.o rfl fun _ => o_subi rfl rfl (by have := h.len; have := h.mb; omega) ⟨rfl, rfl⟩)) ?_
    refine WQ.c rfl ((QO.o rfl fun _ => o_ixB (i := L.length - 1) TI22 TI39 rfl (by show Value.int _ ((L.length : Int) - 1) = _; congr 1; omega) (by omega) ⟨rfl, rfl⟩)) ?_
    refine WQ.c rfl ((QO.o rfl fun _ => o_ash (by first | exact (show _ = Value.pointer _ from rfl) | exact rfl) ⟨rfl, rfl⟩)) ?_
    refine WQ.nil ?_
    intro nq
    have hxq := Only.drewN w0 nq
    replace h := h.ext hxq
    replace hcs := hcs.only hxq (fun h => h)
    replace htab := Sl.ext htab hxq
    generalize w0.drewN nq = wq at *
    refine W.seq ?_
    refine W.seq ?_
    refine W.region ?_
    refine WL.c rfl (o_mvh (show _ = Value.int _ _ from rfl) ?_)
    refine WL.c rfl (o_call Try.call54 (lc rfl (lc rfl (lc rfl ln))) ((rin_spec _ _ _ _).mono ?_))
    rintro v24 w24 ⟨rfl, hw24⟩
    replace hw24 := hw24.symm
    subst hw24
    refine WL.c rfl (o_not' rfl ?_)
    refine WL.nil ?_
    refine W.cond rfl (fun c25 => ?_) (fun c25 => ?_)
    · try simp only [decide_eq_true_eq, decide_eq_false_iff_not, Bool.not_eq_true', Bool.not_eq_false', Bool.and_eq_true, Bool.or_eq_true, Bool.and_eq_false_iff, Bool.or_eq_false_iff] at c25
      refine W.seq ?_
      refine W.region ?_
      refine WL.c rfl (o_ash (show _ = Value.int _ _ from rfl) ?_)
      refine WL.nil ?_
      refine W.ret ?_
      refine ret1v rfl (show _ = Value.int _ _ from rfl) ?_
      have hp : markR L a = (3, L) := by rw [markR, if_neg (by omega), if_neg (by simp_all)]
      rw [hp]
      exact ⟨rfl, _, V, RTurn.same h00 hxq⟩
    · try simp only [decide_eq_true_eq, decide_eq_false_iff_not, Bool.not_eq_true', Bool.not_eq_false', Bool.and_eq_true, Bool.or_eq_true, Bool.and_eq_false_iff, Bool.or_eq_false_iff] at c25
      refine W.skip ?_
      refine W.seq ?_
      refine W.seq ?_
      refine W.region ?_
      refine WL.c rfl (o_mvh (by first | exact (show _ = Value.pointer _ from rfl) | exact rfl) ?_)
      refine WL.c rfl (o_nil rfl ?_)
      refine WL.c rfl (o_fa 6 TI39 rfl TI37 rfl rfl ?_)
      refine WL.c rfl (o_ld TI37 rfl rfl (hcs 6 _ rfl) ?_)
      refine WL.c rfl (o_lenR TI37 rfl htab ?_)
      refine WL.c rfl (o_ge rfl rfl ?_)
      refine WL.nil ?_
      refine W.cond rfl (fun c31 => ?_) (fun c31 => ?_)
      · try simp only [decide_eq_true_eq, decide_eq_false_iff_not, Bool.not_eq_true', Bool.not_eq_false', Bool.and_eq_true, Bool.or_eq_true, Bool.and_eq_false_iff, Bool.or_eq_false_iff] at c31
        refine W.seq ?_
        refine W.region ?_
        refine WL.c rfl (o_ash (show _ = Value.int _ _ from rfl) ?_)
        refine WL.nil ?_
        refine W.ret ?_
        refine ret1v rfl (show _ = Value.int _ _ from rfl) ?_
        have hp : markR L a = (5, L) := by rw [markR, if_neg (by omega), if_pos c25, ← hT, if_pos (by omega)]
        rw [hp]
        exact ⟨rfl, _, V, RTurn.same h00 hxq⟩
      · try simp only [decide_eq_true_eq, decide_eq_false_iff_not, Bool.not_eq_true', Bool.not_eq_false', Bool.and_eq_true, Bool.or_eq_true, Bool.and_eq_false_iff, Bool.or_eq_false_iff] at c31
        refine W.skip ?_
        refine W.seq ?_
        have hrow : wq.ownsRow H 3 1 tv T.tab.length (ints T.tab) := by have := h.rows.tabs.row (L.length - 1) (by omega); rw [show tabl L (L.length - 1) = T.tab from congrArg Fr.tab hT.symm, ← htv] at this; exact this
        have hHq : H ≤ wq.heap.size := by have := h.lt p (.inl rfl); have := h.lo; omega
        refine W.region ?_
        refine WL.c rfl (o_mvh (by first | exact (show _ = Value.pointer _ from rfl) | exact rfl) ?_)
        refine WL.c rfl (o_mvh (by first | exact (show _ = Value.pointer _ from rfl) | exact rfl) ?_)
        refine WL.c rfl (o_nil rfl ?_)
        refine WL.c rfl (o_fa 6 TI39 rfl TI37 rfl rfl ?_)
        refine WL.c rfl (o_ld TI37 rfl rfl (hcs 6 _ rfl) ?_)
        refine WL.c rfl (o_mvh (show _ = Value.int _ _ from rfl) ?_)
        refine WL.apO (H) rfl rfl TI37 TI3 (show _ = Value.int _ _ from rfl) rfl hrow (by decide) (by decide) rfl (one1 rfl) rfl (by rw [maxLen_eq]; omega) (by omega) hHq ?_
        intro v29 w29 hown29 ho29 hb29 hk29
        have hown29 : w29.ownsRow H 3 1 v29 (T.tab ++ [a]).length (ints (T.tab ++ [a])) := by rw [List.length_append, List.length_singleton, ints, List.map_append]; exact hown29
        have hr29 := own_only h.rows.row ho29 (fun k hk hF => own_row_off h.rows.row (h.rows.tabs.row (L.length - 1) (by omega)) (by decide) k (by rw [← htv]; exact hF) hk)
        have hcell29 := ho29.blk h.cell (fun hF => h.p_off (.inr ⟨L.length - 1, by omega, by rw [← htv]; exact hF⟩))
        have hDT : L.getD (L.length - 1) Fr.nil = T := hT.symm
        refine WL.c rfl (o_nil rfl ?_)
        refine WL.c rfl (o_fa 6 TI39 rfl TI37 rfl rfl ?_)
        refine WL.u (o_stRo TI37 rfl (show _ = v29 from rfl) (own_one hown29) hr29 hb (show 0 + (L.length - 1) * 7 + 6 < L.length * 7 by omega) ?_)
        intro w31 hr31 ho31 hs31
        rw [Nat.zero_add, set6 (T := T) (tv := tv) (by rw [frows_at (by omega), hDT, ← htv])] at hr31
        have hm31 := (Many.grow h.rows.tabs (j0 := L.length - 1) (by omega) (by rw [← htv]; exact ho29) (by rw [← htv]; exact hb29) (Nat.le_succ _) hown29).only ho31 (fun j hj k hk hF => by
          by_cases e : j = L.length - 1
          · simp only [if_pos e] at hk; exact own_row_off hr29 hown29 (by decide) k hk hF
          · simp only [if_neg e] at hk; exact own_row_off h.rows.row (h.rows.tabs.row j hj) (by decide) k hk hF)
        have hrow31 := Rows.put (f := { T with tab := T.tab ++ [a] }) (tv := v29) (k := L.length - 1) (by omega) hr31 hm31
        refine WL.nil ?_
        refine W.seq ?_
        refine W.region ?_
        refine WL.c rfl (o_ash (show _ = Value.int _ _ from rfl) ?_)
        refine WL.nil ?_
        refine W.ret ?_
        refine ret1v rfl (show _ = Value.int _ _ from rfl) ?_
        have hp : markR L a = (0, L.set (L.length - 1) { T with tab := T.tab ++ [a] }) := by rw [markR, if_neg (by omega), if_pos c25, ← hT, if_neg (by omega)]
        rw [hp]
        refine ⟨rfl, _, _, ⟨ho31.blk hcell29 (fun hk => h.p_off (.inl hk)), hrow31, h.lo, h.mb, by rw [List.length_set]; exact h.len, tl_set h.tl (by show (T.tab ++ [a]).length ≤ _; rw [List.length_append, List.length_singleton]; omega)⟩, (hxq.trans' (H := SF p _ V L.length) ho29 (fun _ hF => hF.elim) (fun k _ hk => .inr (.inr ⟨L.length - 1, by omega, by rw [← htv]; exact hk⟩))).trans' ho31 (fun _ hF => hF) (fun k _ hk => .inr (.inl hk)), fun k hk => ?_⟩
        rw [List.length_set] at hk
        refine ite_SF (B := w0.heap.size) (m := L.length - 1) (q := L.length) (Nat.le_refl _) (.inl rfl) (fun k hk => ?_) (Nat.le_refl _) (.inl hk)
        have := hxq.size
        rcases hb29 with hb29 | hb29 <;> rw [hb29] at hk
        · exact .inr ⟨L.length - 1, by omega, by rw [← htv]; exact hk⟩
        · cases hk; exact .inl (by omega)

/-- rows of bytes that are no longer than n stay as they were -/
def KeepN (B n : Nat) (w w' : World) : Prop := ∀ (u : Value) (m : Nat) (ys : List UInt8), m ≤ n → w.ownsRow B 5 1 u m (ys.map bv) → w'.ownsRow B 5 1 u m (ys.map bv)
theorem KeepN.trans {B n : Nat} {a b c : World} (h : KeepN B n a b) (k : KeepN B n b c) : KeepN B n a c := fun u m ys hm hu => k u m ys hm (h u m ys hm hu)
theorem KeepN.ext {B n : Nat} {a b : World} (h : Ext a b) : KeepN B n a b := fun _ _ _ _ hu => own_ext hu h
theorem KeepN.le {B n m : Nat} {a b : World} (h : KeepN B n a b) (hm : m ≤ n) : KeepN B m a b := fun u k ys hk hu => h u k ys (Nat.le_trans hk hm) hu
def nth (l : List Nat) (s : Nat) : Nat := l.getD s (l.getD (l.length - 1) 0)
def RsL (G : Nat → Prop) (B : Nat) (l : List Nat) (s : Nat) (a b : World) : Prop := Only G a b ∧ KeepN B (nth l s) a b
theorem RsL.e {G : Nat → Prop} {B : Nat} {l : List Nat} (s : Nat) (a b : World) (h : Ext a b) : RsL G B l s a b := ⟨h.mono (fun _ _ h => h.elim), KeepN.ext h⟩
theorem RsL.a {G : Nat → Prop} {B : Nat} {l : List Nat} (hl : ∀ s, nth l s ≤ nth l (s + 1)) (s : Nat) (a b : World) (h : RsL G B l (s + 1) a b) : RsL G B l s a b := ⟨h.1, h.2.le (hl s)⟩
theorem RsL.t {G : Nat → Prop} {B : Nat} {l : List Nat} (a b c : World) (h : RsL G B l 0 a b) (k : RsL G B l 0 b c) : RsL G B l 0 a c := ⟨h.1.trans k.1, h.2.trans k.2⟩
theorem RsL.row {G : Nat → Prop} {B : Nat} {l : List Nat} {s : Nat} {a b : World} {v : Value} {xs : List UInt8} (h : RsL G B l s a b) (hs : nth l s = xs.length) (hr : a.ownsRow B 5 1 v xs.length (xs.map bv)) : b.ownsRow B 5 1 v xs.length (xs.map bv) := h.2 v xs.length xs (Nat.le_of_eq hs.symm) hr
theorem RsL.mono {G : Nat → Prop} {B : Nat} {l : List Nat} {s : Nat} {xs : List UInt8} (hs : nth l s = xs.length) : Mono (RsL G B l s) (fun v w => w.ownsRow B 5 1 v xs.length (xs.map bv)) := fun _ _ _ h hr => h.row hs hr
theorem RsL.step {G F : Nat → Prop} {B : Nat} {l : List Nat} {t : Nat} {xs : List UInt8} {a b : World} (h : Only F a b) (hF : ∀ k, F k → G k) (hk : KeepN B xs.length a b) (ht : nth l t = xs.length) : RsL G B l t a b := ⟨h.mono (fun k _ hk => hF k hk), by rw [ht]; exact hk⟩
theorem own_pref {w w1 : World} {base : Nat} {el : TypeId} {s n m : Nat} {v u : Value} {xs ys : List Value} (hold : w.ownsRow base el s v n xs) (hk : w1.ownsRow base el s v n xs) (ho : Only (fun k => v.ownBlock = some k) w w1) (hu : w.ownsRow base el s u m ys) (hmn : m ≤ n) : w1.ownsRow base el s u m ys := by
  rcases hu.2 with ⟨rfl, rfl⟩ | ⟨g, cap, cur, rfl, hbg, hc, hnc, hcm, hcs, ht⟩
  · exact ⟨hu.1, .inl ⟨rfl, rfl⟩⟩
  · by_cases hg : v.ownBlock = some g
    · obtain ⟨cv, curv, hv1, -, hcv, -, -, hsv, htv⟩ := own_blk hold hg
      obtain ⟨ck, curk, hv2, -, hck, -, -, hsk, htk⟩ := own_blk hk hg
      rw [hv1] at hv2
      simp only [Value.slice.injEq] at hv2
      obtain ⟨-, -, rfl⟩ := hv2
      rw [hc] at hcv
      simp only [Option.some.injEq, Obj.cells.injEq] at hcv
      obtain ⟨rfl, -⟩ := hcv
      have hms : m * s ≤ n * s := Nat.mul_le_mul_right _ hmn
      refine ⟨hu.1, .inr ⟨g, cap, curk, rfl, hbg, hck, hnc, hcm, by rw [hsk, ← hsv, hcs], ?_⟩⟩
      rw [← ht]
      have e1 : curk.toList.take (m * s) = (curk.toList.take (n * s)).take (m * s) := by rw [List.take_take, Nat.min_eq_left hms]
      have e2 : cur.toList.take (m * s) = (cur.toList.take (n * s)).take (m * s) := by rw [List.take_take, Nat.min_eq_left hms]
      rw [e1, e2, htk, htv]
    · exact own_only hu ho (fun k h => by simp only [Value.ownBlock, Option.some.injEq] at h; subst h; exact hg)
theorem bv1 {a : Nat} (h : a < 256) : ([UInt8.ofNat a].map bv) = [Value.int .u8 (a : Int)] := by rw [List.map_singleton, bv_ofNat h]

theorem leb_spec (B : Nat) (xs : List UInt8) (v : Value) (n : Int) (w0 : World) (hn : numOk n) (hrow : w0.ownsRow B 5 1 v xs.length (xs.map bv)) (hB : B ≤ w0.heap.size) (hl : xs.length ≤ 100000000000000) : Ca Try.prog 73 #[v, .int .i64 n] w0 (fun r w' => w'.ownsRow B 5 1 r (xs ++ vI n).length ((xs ++ vI n).map bv) ∧ Only (fun k => v.ownBlock = some k) w0 w' ∧ (r.ownBlock = v.ownBlock ∨ ∃ g, w0.heap.size ≤ g ∧ r.ownBlock = some g) ∧ KeepN B xs.length w0 w') := by
  have hn0 := hn.1
  have hn1 := hn.2
  have hvl := vI_len hn
  refine Ca.of Try.func73 Try.ntmps73 rfl rfl ?_
  refine W.seq ?_
  refine W.region ?_
  refine WL.c rfl (o_ash (by first | exact (show _ = Value.slice _ _ _ from rfl) | exact rfl) ?_)
  refine WL.nil ?_
  refine W.seq ?_
  refine W.region ?_
  refine WL.c rfl (o_mvh (show _ = Value.int _ _ from rfl) ?_)
  refine WL.c rfl (o_cvN TI3 TI68 rfl hn0 (by omega) ?_)
  refine WL.c rfl (o_ash (show _ = Value.int _ _ from rfl) ?_)
  refine WL.nil ?_
  refine W.seq ?_
  refine W.block ?_
  refine W.loop (fun e w => ∃ (m : Nat) (ys : List UInt8) (u : Value), m < 18446744073709551616 ∧ e 0 = u ∧ e 5 = .int .u64 (m : Int) ∧ vI n = ys ++ vput m ∧ w.ownsRow B 5 1 u (xs ++ ys).length ((xs ++ ys).map bv) ∧ Only (fun k => v.ownBlock = some k) w0 w ∧ (u.ownBlock = v.ownBlock ∨ ∃ g, w0.heap.size ≤ g ∧ u.ownBlock = some g) ∧ KeepN B xs.length w0 w) (fun e w => (intOf (e 5)).toNat) ?_ ?_
  · exact ⟨n.toNat, [], v, by omega, rfl, rfl, rfl, by simpa using hrow, Only.refl _ _, .inl rfl, fun _ _ _ _ h => h⟩
  rintro e w ⟨m, ys, u, hm, h0, h5, hv, hr, ho, hb, hkp⟩
  have hm5 := h5
  have hyl : (xs ++ ys).length ≤ xs.length + 10 := by
    have := congrArg List.length hv
    rw [List.length_append] at this ⊢; omega
  have hsz := ho.size
  refine W.seq ?_
  refine W.seq ?_
  refine W.region ?_
  refine WL.c rfl (o_mvh h5 ?_)
  refine WL.c rfl (o_ge rfl rfl ?_)
  refine WL.nil ?_
  refine W.cond rfl (fun c9 => ?_) (fun c9 => ?_)
  · try simp only [decide_eq_true_eq, decide_eq_false_iff_not, Bool.not_eq_true', Bool.not_eq_false', Bool.and_eq_true, Bool.or_eq_true, Bool.and_eq_false_iff, Bool.or_eq_false_iff] at c9
    refine W.skip ?_
    refine W.block ?_
    refine W.seq ?_
    refine W.region ?_
    refine WL.c rfl (o_mvh h0 ?_)
    refine WL.c rfl (o_mvh h5 ?_)
    refine WL.c rfl (n_rem (b := 128) rfl rfl (by decide) ?_)
    refine WL.c rfl (n_cvI 256 rfl TI68 TI5 (by decide) rfl ?_)
    refine WL.c rfl (n_add (b := 128) 256 rfl (by decide) rfl rfl ?_)
    rw [show (m % 128 % 256 + 128) % 256 = m % 128 + 128 by omega]
    refine WL.apO (B) rfl rfl TI23 TI5 (show _ = Value.int _ _ from rfl) rfl hr (by decide) (by decide) rfl (one1 rfl) rfl (by rw [maxLen_eq]; omega) (by omega) (Nat.le_trans hB hsz) ?_
    intro v16 w16 hown16 ho16 hb16 hk16
    replace ho16 : Only (fun k => u.ownBlock = some k) w w16 := ho16
    replace hb16 : v16.ownBlock = u.ownBlock ∨ v16.ownBlock = some (w.heap.size + 1) := hb16
    have hkp16 : KeepN B xs.length w0 w16 := fun u1 k1 zs hk1 h1 => own_pref hr hk16 ho16 (hkp u1 k1 zs hk1 h1) (by rw [List.length_append]; omega)
    refine WL.c rfl (o_ash (by first | exact (show _ = Value.slice _ _ _ from rfl) | exact rfl) ?_)
    refine WL.nil ?_
    refine W.region ?_
    refine WL.c rfl (o_mvh h5 ?_)
    refine WL.c rfl (n_quo (b := 128) 18446744073709551616 rfl (by decide) rfl rfl (by omega) (by decide) ?_)
    refine WL.c rfl (o_ash (show _ = Value.int _ _ from rfl) ?_)
    refine WL.nil ?_
    refine ⟨⟨m / 128, ys ++ [UInt8.ofNat (m % 128 + 128)], v16, by omega, rfl, rfl, ?_, ?_, ?_, ?_, hkp16⟩, ?_⟩
    · rw [hv, vput_ge (by omega)]; simp
    · rw [← List.append_assoc, List.length_append, List.length_singleton, List.map_append, bv1 (by omega)]; exact hown16
    · refine ho.trans' ho16 (fun _ h => h) (fun k hk hF => ?_)
      rcases hb with hb | ⟨g, hg, hb⟩
      · rw [hb] at hF; exact hF
      · rw [hb] at hF; cases hF; omega
    · rcases hb16 with hb16 | hb16
      · rw [hb16]; exact hb
      · exact .inr ⟨_, by omega, hb16⟩
    · show ((m / 128 : Nat) : Int).toNat < _
      rw [hm5]; simp only [intOf]; omega
  · try simp only [decide_eq_true_eq, decide_eq_false_iff_not, Bool.not_eq_true', Bool.not_eq_false', Bool.and_eq_true, Bool.or_eq_true, Bool.and_eq_false_iff, Bool.or_eq_false_iff] at c9
    refine W.exit ?_
    refine W.seq ?_
    refine W.region ?_
    refine WL.c rfl (o_mvh h0 ?_)
    refine WL.c rfl (o_mvh h5 ?_)
    refine WL.c rfl (n_cvI 256 rfl TI68 TI5 (by decide) rfl ?_)
    rw [show m % 256 = m by omega]
    refine WL.apO (B) rfl rfl TI23 TI5 (show _ = Value.int _ _ from rfl) rfl hr (by decide) (by decide) rfl (one1 rfl) rfl (by rw [maxLen_eq]; omega) (by omega) (Nat.le_trans hB hsz) ?_
    intro v16 w16 hown16 ho16 hb16 hk16
    replace ho16 : Only (fun k => u.ownBlock = some k) w w16 := ho16
    replace hb16 : v16.ownBlock = u.ownBlock ∨ v16.ownBlock = some (w.heap.size + 1) := hb16
    have hkp16 : KeepN B xs.length w0 w16 := fun u1 k1 zs hk1 h1 => own_pref hr hk16 ho16 (hkp u1 k1 zs hk1 h1) (by rw [List.length_append]; omega)
    refine WL.c rfl (o_ash (by first | exact (show _ = Value.slice _ _ _ from rfl) | exact rfl) ?_)
    refine WL.nil ?_
    refine W.ret ?_
    refine ret1v rfl (show _ = v16 from rfl) ?_
    refine ⟨?_, ?_, ?_, hkp16⟩
    · rw [hv, vput_lt (show m < 128 by omega), ← List.append_assoc, List.length_append, List.length_singleton, List.map_append, bv1 (by omega)]; exact hown16
    · refine ho.trans' ho16 (fun _ h => h) (fun k hk hF => ?_)
      rcases hb with hb | ⟨g, hg, hb⟩
      · rw [hb] at hF; exact hF
      · rw [hb] at hF; cases hF; omega
    · rcases hb16 with hb16 | hb16
      · rw [hb16]; exact hb
      · exact .inr ⟨_, by omega, hb16⟩
end Go.Proofs.Ytdiaeafjjffjmaa
