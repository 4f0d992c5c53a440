/-
  Walks. Written by program out of specs of mine.
-/
import Derived.Test.YtcljkkfpcomdcaaF
set_option linter.unusedSimpArgs false
set_option linter.unusedVariables false
set_option maxRecDepth 100000
namespace Go.Proofs.Ytcljkkfpcomdcaa
open Go Go.Vc Go.RowKit Go.Proofs

theorem own_new1 {w : World} {v : Value} {el : TypeId} {s : Nat} (hv : v.cells.size = s) : (w.alloc (.cells v.cells el)).ownsRow w.heap.size el s (.slice (some ⟨w.heap.size, 0, none⟩) 1 1) 1 v.cells.toList :=
  ⟨by simp [hv], .inr ⟨w.heap.size, 1, v.cells, rfl, Nat.le_refl _, heap_alloc_new w _, Nat.le_refl _, by rw [maxLen_eq]; omega, by rw [hv]; omega, by rw [Nat.one_mul]; exact List.take_of_length_le (by simp [hv])⟩⟩
theorem RowE.snoc {w : World} {B0 : Nat} {v : Value} {L : List Ex} {y : Ex} (h : w.ownsRow B0 30 7 v (L.length + 1) (exs L ++ (Value.agg (exV y).toArray).cells.toList)) : RowE w B0 v (L ++ [y]) := by
  show World.ownsRow _ _ _ _ _ (L ++ [y]).length _
  rw [exs_snoc, List.length_append]
  exact h
theorem exV_one {y : Ex} : ∀ a ∈ (Value.agg (exV y).toArray).cells.toList, a.oneCell' = true := by
  intro a ha
  simp [Value.cells, exV] at ha
  rcases ha with rfl | rfl | rfl | rfl | rfl | rfl | rfl <;> rfl
theorem exprT_s {T : List Tk} {f i : Nat} {x : Ex} {deep : Nat} : exprT T (f + 1) i x deep =
    (if bgnT (tkA T i) = false then .bad 60 i
    else if 16 < deep then .bad 61 i
    else match leafE (tkA T i).text with
    | some kn => .ok [(atE i x).lf kn.1 kn.2] (i + 1)
    | none =>
      if (tkA T i).text = [118, 101, 99, 116, 111, 114] ∨ (tkA T i).text = [108, 105, 115, 116] then
        (wantT T (i + 1) 3 [60]).bind fun _ j => (exprT T f j exM (deep + 1)).bind fun N j => (wantT T j 3 [44]).bind fun _ j => (numT T j).bind fun n j => (wantT T j 3 [62]).bind fun _ j =>
          .ok ((atE i x).vec (decide ((tkA T i).text = [108, 105, 115, 116])) n :: N) j
      else if (tkA T i).text = [111, 112, 116, 105, 111, 110] then
        (wantT T (i + 1) 3 [60]).bind fun _ j => (exprT T f j exM (deep + 1)).bind fun N j => (wantT T j 3 [62]).bind fun _ j => .ok ((atE i x).opt :: N) j
      else if (tkA T i).text = [117, 110, 105, 111, 110] then
        ((wantT T (i + 1) 3 [123]).bind fun _ j => rowsT (fun i x => exprT T f i x (deep + 1)) T true f j 0).bind fun r j => .ok ((atE i x).br true (r.2 : Nat) :: r.1) j
      else if (tkA T i).text = [115, 116, 114, 117, 99, 116] then
        ((wantT T (i + 1) 3 [123]).bind fun _ j => rowsT (fun i x => exprT T f i x (deep + 1)) T false f j 0).bind fun r j => .ok ((atE i x).br false (r.2 : Nat) :: r.1) j
      else .ok [(atE i x).nm (tkA T i).text] (i + 1)) := rfl
theorem plE_lf {T : List Tk} {x : Ex} {k n : Int} : plE T (x.lf k n) = (plE T x).lf k n := by unfold plE; split <;> split <;> first | rfl | (rename_i h1 h2; exact absurd h1 h2) | (rename_i h1 h2; exact absurd h2 h1)
theorem plE_vec {T : List Tk} {x : Ex} {b : Bool} {n : Int} : plE T (x.vec b n) = (plE T x).vec b n := by unfold plE; split <;> split <;> first | rfl | (rename_i h1 h2; exact absurd h1 h2) | (rename_i h1 h2; exact absurd h2 h1)
theorem plE_opt {T : List Tk} {x : Ex} : plE T x.opt = (plE T x).opt := by unfold plE; split <;> split <;> first | rfl | (rename_i h1 h2; exact absurd h1 h2) | (rename_i h1 h2; exact absurd h2 h1)
theorem plE_br {T : List Tk} {x : Ex} {u : Bool} {n : Int} : plE T (x.br u n) = (plE T x).br u n := by unfold plE; split <;> split <;> first | rfl | (rename_i h1 h2; exact absurd h1 h2) | (rename_i h1 h2; exact absurd h2 h1)
theorem plE_nm {T : List Tk} {x : Ex} {s : List UInt8} : plE T (x.nm s) = (plE T x).nm s := by unfold plE; split <;> split <;> first | rfl | (rename_i h1 h2; exact absurd h1 h2) | (rename_i h1 h2; exact absurd h2 h1)
theorem plE_neg {T : List Tk} {x : Ex} (h : (plE T x).at_ < 0) : x.at_ < 0 := by
  unfold plE at h
  split at h
  · assumption
  · simp only at h; omega
theorem plE_atE {T : List Tk} {i : Nat} {x : Ex} : plE T (atE i x) = if (plE T x).at_ < 0 then { plE T x with at_ := ((tkA T i).at_ : Int) } else plE T x := by
  by_cases h : x.at_ < 0
  · have h1 : plE T x = x := by unfold plE; rw [if_pos h]
    rw [h1, if_pos h]
    unfold atE
    rw [if_pos h]
    unfold plE
    rw [if_neg (by show ¬ (i : Int) < 0; omega)]
    simp
  · rw [if_neg (fun h1 => h (plE_neg h1))]
    unfold atE
    rw [if_neg h]
theorem plE_kids {T : List Tk} {x : Ex} : (plE T x).kids = x.kids := by unfold plE; split <;> rfl
theorem atE_kids {i : Nat} {x : Ex} : (atE i x).kids = x.kids := by unfold atE; split <;> rfl
theorem plE_exM {T : List Tk} : plE T exM = exM := by unfold plE; rw [if_pos (by decide)]
theorem bgnT_lt {T : List Tk} {i : Nat} (h : bgnT (tkA T i) = true) : i < T.length := tkA_kind (k := 1) (by decide) (by simp only [bgnT, Bool.and_eq_true, decide_eq_true_eq] at h; exact h.1)
theorem leafE_kind {s : List UInt8} {kn : Int × Int} (h : leafE s = some kn) : (leafE s).getD (0, 0) = kn := by rw [h]; rfl

set_option maxHeartbeats 4000000 in
theorem expr_step (B0 p : Nat) (lv : Value) (T : List Tk) (fin f deep : Nat) (hln : ∀ i, (tkA T i).text.length ≤ 9223372036854775807) (hE : deep ≤ 16 → ∀ m, T.length + 2 ≤ f + m → ESpec B0 p lv T fin (fun i x => exprT T f i x (deep + 1)) (deep + 1) m) (hdp : deep ≤ 17) (m at_ : Nat) (hfm : T.length + 2 ≤ f + 1 + m) (x : Ex) (L : List Ex) (v : Value) (w0 : World) (hm : m ≤ at_) (hxk : x.kids = 0) (h : Psr w0 B0 p lv T fin at_) (hrow : RowE w0 B0 v L) (hl : L.length ≤ at_) : CaX Try.prog 37 #[.pointer (some ⟨p, 0, none⟩), v, .agg (exV (plE T x)).toArray, .int .i64 (deep : Int)] w0 (fun v' w' => ∃ N j, exprT T (f + 1) at_ x deep = .ok N j ∧ RowE w' B0 v' (L ++ N.map (plE T)) ∧ L.length + N.length ≤ j ∧ at_ < j ∧ (∀ k, v'.ownBlock = some k → v.ownBlock = some k ∨ w0.heap.size ≤ k) ∧ Psr w' B0 p lv T fin j ∧ Only (fun k => k = p ∨ v.ownBlock = some k) w0 w') (fun ch w' => ∃ e j, exprT T (f + 1) at_ x deep = .bad e j ∧ ch = [pan e (plc T fin j)] ∧ Only (fun k => k = p ∨ v.ownBlock = some k) w0 w') := by
  have hq : Only (fun k => k = p ∨ v.ownBlock = some k) w0 w0 := Only.refl _ _
  have hsm := h.small
  have hle := h.le
  have hpl := (Array.getElem?_eq_some_iff.1 h.cell).1
  have hvp : ¬ v.ownBlock = some p := own_off hrow h.cell (by decide)
  have hvl : ∀ k, v.ownBlock = some k → k < w0.heap.size := fun k hk => (hrow.lt k hk).2
  have hB0 := h.b0
  have hpB := h.hp
  refine CaX.of Try.func37 Try.ntmps37 rfl rfl ?_
  refine W.seq ?_
  refine W.region ?_
  refine WL.c rfl (o_boxB rfl ?_)
  intro w4 hC4 hx4 hs4
  replace hC4 : w4.heap[w0.heap.size]? = some (.cells #[.pointer (some ⟨p, 0, none⟩)] 75 (0, 0)) := hC4
  replace h := h.ext hx4
  replace hrow := own_ext hrow hx4
  replace hq := hq.ext hx4
  obtain ⟨c4, hc4⟩ : ∃ c, c = w0.heap.size := ⟨_, rfl⟩
  rw [← hc4] at hC4 hs4 ⊢
  refine WL.c rfl (o_boxB rfl ?_)
  intro w6 hC6 hx6 hs6
  replace hC6 : w6.heap[w4.heap.size]? = some (.cells (exV (plE T x)).toArray 30 (0, 0)) := hC6
  replace h := h.ext hx6
  replace hrow := own_ext hrow hx6
  replace hC4 := hx6.blk hC4 (fun h => h)
  replace hq := hq.ext hx6
  obtain ⟨c6, hc6⟩ : ∃ c, c = w4.heap.size := ⟨_, rfl⟩
  rw [← hc6] at hC6 hs6 ⊢
  refine WL.c rfl (o_ash (by first | exact (show _ = Value.slice _ _ _ from rfl) | exact rfl) ?_)
  refine WL.nil ?_
  refine W.seq ?_
  refine W.region ?_
  refine WL.c rfl (o_ld TI75 rfl rfl (cell_of hC4 rfl) ?_)
  refine WL.c rfl (o_call Try.call54 (lc rfl ln) ((peek_spec B0 p lv T fin at_ _ h).mono ?_))
  rintro v14 w14 ⟨rfl, hx14⟩
  replace h := h.ext hx14
  replace hrow := own_ext hrow hx14
  replace hC4 := hx14.blk hC4 (fun h => h)
  replace hC6 := hx14.blk hC6 (fun h => h)
  replace hq := hq.ext hx14
  have h14s := hx14.size
  refine WL.c rfl (o_alB TI58 ?_)
  intro wa hCa hxa hsa
  refine WL.u (o_stA TI58 rfl (show _ = Value.agg (tokV (tkA T at_)) from rfl) rfl rfl hCa rfl ?_)
  intro w9 hC9 hob hsb
  have hxb := Ext.own hxa (Nat.le_refl _) hob
  clear hCa hxa hob
  replace h := h.ext hxb
  replace hrow := own_ext hrow hxb
  replace hC4 := hxb.blk hC4 (fun h => h)
  replace hC6 := hxb.blk hC6 (fun h => h)
  replace hq := hq.ext hxb
  obtain ⟨c9, hc9⟩ : ∃ c, c = w14.heap.size := ⟨_, rfl⟩
  rw [← hc9] at hC9 ⊢
  replace hC9 : w9.heap[c9]? = some (.cells (tokV (tkA T at_)) 58 (0, 0)) := hC9
  refine WL.nil ?_
  refine W.seq ?_
  refine W.seq ?_
  refine W.region ?_
  refine WL.c rfl (o_ldA TI58 rfl rfl (cells_all hC9) rfl ?_)
  refine WL.c rfl (o_call Try.call56 (lc rfl ln) ((begins_spec (tkA T at_) _ (hln at_)).mono ?_))
  rintro v16 w16 ⟨rfl, hx16⟩
  replace h := h.ext hx16
  replace hrow := own_ext hrow hx16
  replace hC4 := hx16.blk hC4 (fun h => h)
  replace hC6 := hx16.blk hC6 (fun h => h)
  replace hC9 := hx16.blk hC9 (fun h => h)
  replace hq := hq.ext hx16
  refine WL.c rfl (o_not' rfl ?_)
  refine WL.nil ?_
  refine W.cond rfl (fun c17 => ?_) (fun c17 => ?_)
  · try simp only [decide_eq_true_eq, decide_eq_false_iff_not, Bool.not_eq_true', Bool.not_eq_false', Bool.and_eq_true, Bool.or_eq_true, Bool.and_eq_false_iff, Bool.or_eq_false_iff] at c17
    have hbg : bgnT (tkA T at_) = false := by simp_all
    refine W.region ?_
    refine WL.c rfl (o_ld TI75 rfl rfl (cell_of hC4 rfl) ?_)
    refine WL.cx rfl (ox_call Try.call32 (lc rfl (lc rfl ln)) ((fails_spec B0 p lv T fin at_ _ h 60).mono ?_ (fun ch w' hh => by obtain ⟨h1, h2⟩ := hh; exact ⟨60, at_, by rw [exprT_s, if_pos hbg], h1, hq.ext h2⟩)))
    exact fun _ _ hf => hf.elim
  · try simp only [decide_eq_true_eq, decide_eq_false_iff_not, Bool.not_eq_true', Bool.not_eq_false', Bool.and_eq_true, Bool.or_eq_true, Bool.and_eq_false_iff, Bool.or_eq_false_iff] at c17
    have hbg : ¬ bgnT (tkA T at_) = false := by simp_all
    have hlt := bgnT_lt (T := T) (i := at_) (by simpa using hbg)
    refine W.skip ?_
    refine W.seq ?_
    refine W.seq ?_
    refine W.region ?_
    refine WL.c rfl (o_mvh (show _ = Value.int _ _ from rfl) ?_)
    refine WL.c rfl (o_gt rfl rfl ?_)
    refine WL.nil ?_
    refine W.cond rfl (fun c21 => ?_) (fun c21 => ?_)
    · try simp only [decide_eq_true_eq, decide_eq_false_iff_not, Bool.not_eq_true', Bool.not_eq_false', Bool.and_eq_true, Bool.or_eq_true, Bool.and_eq_false_iff, Bool.or_eq_false_iff] at c21
      have hdd : 16 < deep := by omega
      refine W.region ?_
      refine WL.c rfl (o_ld TI75 rfl rfl (cell_of hC4 rfl) ?_)
      refine WL.cx rfl (ox_call Try.call32 (lc rfl (lc rfl ln)) ((fails_spec B0 p lv T fin at_ _ h 61).mono ?_ (fun ch w' hh => by obtain ⟨h1, h2⟩ := hh; exact ⟨61, at_, by rw [exprT_s, if_neg hbg, if_pos hdd], h1, hq.ext h2⟩)))
      exact fun _ _ hf => hf.elim
    · try simp only [decide_eq_true_eq, decide_eq_false_iff_not, Bool.not_eq_true', Bool.not_eq_false', Bool.and_eq_true, Bool.or_eq_true, Bool.and_eq_false_iff, Bool.or_eq_false_iff] at c21
      have hdd : ¬ 16 < deep := by omega
      refine W.skip ?_
      refine W.seq ?_
      refine W.seq ?_
      refine W.region ?_
      refine WL.c rfl (o_fa 6 TI30 rfl TI3 rfl rfl ?_)
      refine WL.c rfl (o_ld TI3 rfl rfl (cell_of hC6 rfl) ?_)
      refine WL.c rfl (o_lt rfl rfl ?_)
      refine WL.nil ?_
      refine W.cut (fun e1 w1 => c9 ≤ w1.heap.size ∧ Psr w1 B0 p lv T fin at_ ∧ RowE w1 B0 v L ∧ w1.heap[c4]? = some (.cells #[.pointer (some ⟨p, 0, none⟩)] 75 (0, 0)) ∧ w1.heap[c6]? = some (.cells (exV (plE T (atE at_ x))).toArray 30 (0, 0)) ∧ w1.heap[c9]? = some (.cells (tokV (tkA T at_)) 58 (0, 0)) ∧ Only (fun k => k = p ∨ v.ownBlock = some k) w0 w1 ∧ e1 1 = v ∧ e1 3 = .int .i64 (deep : Int) ∧ e1 4 = .pointer (some ⟨c4, 0, none⟩) ∧ e1 6 = .pointer (some ⟨c6, 0, none⟩) ∧ e1 9 = .pointer (some ⟨c9, 0, none⟩)) ?_ ?_
      · -- both ways
        refine W.cond rfl (fun c26 => ?_) (fun c26 => ?_)
        · try simp only [decide_eq_true_eq, decide_eq_false_iff_not, Bool.not_eq_true', Bool.not_eq_false', Bool.and_eq_true, Bool.or_eq_true, Bool.and_eq_false_iff, Bool.or_eq_false_iff] at c26
          refine W.region ?_
          refine WL.c rfl (o_fa 3 TI58 rfl TI3 rfl rfl ?_)
          refine WL.c rfl (o_ld TI3 rfl rfl (cell_of hC9 rfl) ?_)
          refine WL.c rfl (o_fa 6 TI30 rfl TI3 rfl rfl ?_)
          refine WL.u (o_stB TI3 rfl (show _ = Value.int _ _ from rfl) rfl hC6 (show 6 < 7 by decide) ?_)
          intro w29 hC6' ho29 hs29
          replace h := h.keep ho29 (fun k hk => by omega)
          replace hrow := own_only hrow ho29 (fun k hk he => by have := hvl k hk; omega)
          replace hC4 := ho29.blk hC4 (show ¬ c4 = c6 by omega)
          replace hC9 := ho29.blk hC9 (show ¬ c9 = c6 by omega)
          replace hq := hq.trans' ho29 (fun _ h => h) (fun k hk he => by omega)
          refine WL.nil ?_
          first | exact ⟨Nat.le_of_lt (Array.getElem?_eq_some_iff.1 hC9).1, h, hrow, hC4, (by rw [plE_atE, if_neg (by omega)]; exact hC6), hC9, hq, rfl, rfl, rfl, rfl, rfl⟩ | exact ⟨Nat.le_of_lt (Array.getElem?_eq_some_iff.1 hC9).1, h, hrow, hC4, (by rw [plE_atE, if_pos (by omega)]; exact hC6'), hC9, hq, rfl, rfl, rfl, rfl, rfl⟩
        · try simp only [decide_eq_true_eq, decide_eq_false_iff_not, Bool.not_eq_true', Bool.not_eq_false', Bool.and_eq_true, Bool.or_eq_true, Bool.and_eq_false_iff, Bool.or_eq_false_iff] at c26
          refine W.skip ?_
          first | exact ⟨Nat.le_of_lt (Array.getElem?_eq_some_iff.1 hC9).1, h, hrow, hC4, (by rw [plE_atE, if_neg (by omega)]; exact hC6), hC9, hq, rfl, rfl, rfl, rfl, rfl⟩ | exact ⟨Nat.le_of_lt (Array.getElem?_eq_some_iff.1 hC9).1, h, hrow, hC4, (by rw [plE_atE, if_pos (by omega)]; exact hC6'), hC9, hq, rfl, rfl, rfl, rfl, rfl⟩
      rintro e w ⟨hw9, h, hrow, hC4, hC6, hC9, hq, h1, h3, h4, h6, h9⟩
      obtain ⟨X, hX⟩ : ∃ X, X = plE T (atE at_ x) := ⟨_, rfl⟩
      rw [← hX] at hC6
      have hXk : X.kids = 0 := by rw [hX, plE_kids, atE_kids]; exact hxk
      refine W.seq ?_
      refine W.region ?_
      refine WL.c rfl (o_ld TI75 rfl h4 (cell_of hC4 rfl) ?_)
      refine WL.c rfl (o_nil rfl ?_)
      refine WL.c rfl (o_fa 1 TI77 rfl TI3 rfl rfl ?_)
      refine WL.c rfl (o_ld TI3 rfl rfl (cell_of h.cell rfl) ?_)
      refine WL.c rfl (o_addi rfl rfl (by omega) ?_)
      refine WL.c rfl (o_nil rfl ?_)
      refine WL.c rfl (o_fa 1 TI77 rfl TI3 rfl rfl ?_)
      refine WL.u (o_stB TI3 rfl (show _ = Value.int _ _ from rfl) rfl h.cell (show 1 < 3 by decide) ?_)
      intro w36 hBp hop hsp
      replace h := h.move (a2 := at_ + 1) hBp hop (by omega)
      replace hrow := own_only hrow hop (fun k hk he => by subst he; exact hvp hk)
      replace hC4 := hop.blk hC4 (show ¬ c4 = p by omega)
      replace hC6 := hop.blk hC6 (show ¬ c6 = p by omega)
      replace hC9 := hop.blk hC9 (show ¬ c9 = p by omega)
      replace hq := hq.trans' hop (fun _ h => h) (fun _ _ h => .inl h)
      refine WL.nil ?_
      refine W.seq ?_
      refine W.seq ?_
      refine W.region ?_
      refine WL.c rfl (o_fa 1 TI58 rfl TI9 rfl h9 ?_)
      refine WL.c rfl (o_ld TI9 rfl rfl (cell_of hC9 rfl) ?_)
      refine WL.c rfl (o_call Try.call57 (lc rfl ln) ((leaf_spec (tkA T at_).text _).mono ?_))
      rintro v40 w40 ⟨rfl, hx40⟩
      have hC9o := hC9
      replace h := h.ext hx40
      replace hrow := own_ext hrow hx40
      replace hC4 := hx40.blk hC4 (fun h => h)
      replace hC6 := hx40.blk hC6 (fun h => h)
      replace hC9 := hx40.blk hC9 (fun h => h)
      replace hq := hq.ext hx40
      refine WL.c rfl (o_mvh (by first | exact (show _ = Value.tuple _ from rfl) | exact rfl) ?_)
      refine WL.c rfl (o_ext rfl rfl ?_)
      refine WL.c rfl (o_ext rfl rfl ?_)
      refine WL.c rfl (o_alB TI30 ?_)
      intro wa hCa hxa hsa
      refine WL.u (o_stA TI30 rfl (show _ = Value.agg (exV { ex0 with kind := ((leafE (tkA T at_).text).getD (0, 0)).1, n := ((leafE (tkA T at_).text).getD (0, 0)).2 }).toArray from rfl) rfl rfl hCa rfl ?_)
      intro w10 hC10 hob hsb
      have hxb := Ext.own hxa (Nat.le_refl _) hob
      clear hCa hxa hob
      replace h := h.ext hxb
      replace hrow := own_ext hrow hxb
      replace hC4 := hxb.blk hC4 (fun h => h)
      replace hC6 := hxb.blk hC6 (fun h => h)
      replace hC9 := hxb.blk hC9 (fun h => h)
      replace hq := hq.ext hxb
      obtain ⟨c10, hc10⟩ : ∃ c, c = w40.heap.size := ⟨_, rfl⟩
      rw [← hc10] at hC10 ⊢
      have h109 : c9 < c10 := by rw [hc10]; exact Nat.lt_of_lt_of_le (Array.getElem?_eq_some_iff.1 hC9o).1 hx40.size
      refine WL.c rfl (o_ash (show _ = Value.bool _ from rfl) ?_)
      refine WL.nil ?_
      refine W.seq ?_
      refine W.region ?_
      refine WL.c rfl (o_mvh (show _ = Value.bool _ from rfl) ?_)
      refine WL.nil ?_
      refine W.cond rfl (fun c43 => ?_) (fun c43 => ?_)
      · try simp only [decide_eq_true_eq, decide_eq_false_iff_not, Bool.not_eq_true', Bool.not_eq_false', Bool.and_eq_true, Bool.or_eq_true, Bool.and_eq_false_iff, Bool.or_eq_false_iff] at c43
        obtain ⟨kn, hkn⟩ := Option.isSome_iff_exists.1 (show (leafE (tkA T at_).text).isSome = true by simpa using c43)
        rw [hkn] at hC10
        replace hC10 : w10.heap[c10]? = some (.cells #[.int .i64 kn.1, .int .i64 kn.2, st [], st [], .int .i64 0, .int .i64 0, .int .i64 0] 30 (0, 0)) := hC10
        refine W.seq ?_
        refine W.cut (fun e1 w1 => Psr w1 B0 p lv T fin (at_ + 1) ∧ RowE w1 B0 v L ∧ w1.heap[c4]? = some (.cells #[.pointer (some ⟨p, 0, none⟩)] 75 (0, 0)) ∧ w1.heap[c6]? = some (.cells (exV (X.lf kn.1 kn.2)).toArray 30 (0, 0)) ∧ w1.heap[c9]? = some (.cells (tokV (tkA T at_)) 58 (0, 0)) ∧ Only (fun k => k = p ∨ v.ownBlock = some k) w0 w1 ∧ e1 1 = v ∧ e1 3 = .int .i64 (deep : Int) ∧ e1 4 = .pointer (some ⟨c4, 0, none⟩) ∧ e1 6 = .pointer (some ⟨c6, 0, none⟩) ∧ e1 9 = .pointer (some ⟨c9, 0, none⟩)) ?_ ?_
        · -- region 11
          refine W.enum rfl ?_
          have hd := Only.drew w10
          replace h := h.ext hd
          replace hrow := own_ext hrow hd
          replace hC4 := hd.blk hC4 (fun h => h)
          replace hC6 := hd.blk hC6 (fun h => h)
          replace hC9 := hd.blk hC9 (fun h => h)
          replace hC10 := hd.blk hC10 (fun h => h)
          replace hq := hq.ext hd
          clear hd
          generalize w10.drew = wd at *
          refine WA.step (r := [0, 2]) (by kernel_rfl) (by decide) (all2 ?_ ?_)
          · skip
            refine WO.c rfl rfl (o_fa 0 TI30 rfl TI3 rfl rfl ?_)
            refine WA.step (r := [1, 2]) (by kernel_rfl) (by decide) (all2 ?_ ?_)
            · skip
              refine WO.c rfl rfl (o_ld TI3 rfl rfl (cell_of hC10 rfl) ?_)
              refine WA.step (r := [2, 4]) (by kernel_rfl) (by decide) (all2 ?_ ?_)
              · skip
                refine WO.c rfl rfl (o_fa 1 TI30 rfl TI3 rfl rfl ?_)
                refine WA.step (r := [3, 4]) (by kernel_rfl) (by decide) (all2 ?_ ?_)
                · skip
                  refine WO.c rfl rfl (o_ld TI3 rfl rfl (cell_of hC10 rfl) ?_)
                  refine WA.step (r := [4]) (by kernel_rfl) (by decide) (all1 ?_)
                  refine WO.c rfl rfl (o_fa 0 TI30 rfl TI3 rfl h6 ?_)
                  refine WA.step (r := [5]) (by kernel_rfl) (by decide) (all1 ?_)
                  refine WO.u rfl (o_stB TI3 rfl (show _ = Value.int .i64 kn.1 from rfl) rfl hC6 (show 0 < 7 by decide) ?_)
                  intro wk hC6' ho6 hs6
                  replace h := h.keep ho6 (fun k hk => by omega)
                  replace hrow := own_only hrow ho6 (fun k hk he => by have := hvl k hk; omega)
                  replace hC4 := ho6.blk hC4 (show ¬ c4 = c6 by omega)
                  replace hC9 := ho6.blk hC9 (show ¬ c9 = c6 by omega)
                  replace hC10 := ho6.blk hC10 (show ¬ c10 = c6 by omega)
                  replace hq := hq.trans' ho6 (fun _ h => h) (fun k hk he => by omega)
                  replace hC6 : wk.heap[c6]? = some (.cells (exV { X with kind := kn.1 }).toArray 30 (0, 0)) := hC6'
                  clear hC6' ho6 hs6
                  refine WA.step (r := [6]) (by kernel_rfl) (by decide) (all1 ?_)
                  refine WO.c rfl rfl (o_fa 1 TI30 rfl TI3 rfl h6 ?_)
                  refine WA.step (r := [7]) (by kernel_rfl) (by decide) (all1 ?_)
                  refine WO.u rfl (o_stB TI3 rfl (show _ = Value.int .i64 kn.2 from rfl) rfl hC6 (show 1 < 7 by decide) ?_)
                  intro wn hC6' ho6 hs6
                  replace h := h.keep ho6 (fun k hk => by omega)
                  replace hrow := own_only hrow ho6 (fun k hk he => by have := hvl k hk; omega)
                  replace hC4 := ho6.blk hC4 (show ¬ c4 = c6 by omega)
                  replace hC9 := ho6.blk hC9 (show ¬ c9 = c6 by omega)
                  replace hC10 := ho6.blk hC10 (show ¬ c10 = c6 by omega)
                  replace hq := hq.trans' ho6 (fun _ h => h) (fun k hk he => by omega)
                  replace hC6 : wn.heap[c6]? = some (.cells (exV (X.lf kn.1 kn.2)).toArray 30 (0, 0)) := hC6'
                  clear hC6' ho6 hs6
                  refine WA.done (by kernel_rfl) ?_
                  exact ⟨h, hrow, hC4, hC6, hC9, hq, h1, h3, h4, h6, h9⟩
                · skip
                  refine WO.c rfl rfl (o_fa 0 TI30 rfl TI3 rfl h6 ?_)
                  refine WA.step (r := [3, 5]) (by kernel_rfl) (by decide) (all2 ?_ ?_)
                  · skip
                    refine WO.c rfl rfl (o_ld TI3 rfl rfl (cell_of hC10 rfl) ?_)
                    refine WA.step (r := [5]) (by kernel_rfl) (by decide) (all1 ?_)
                    refine WO.u rfl (o_stB TI3 rfl (show _ = Value.int .i64 kn.1 from rfl) rfl hC6 (show 0 < 7 by decide) ?_)
                    intro wk hC6' ho6 hs6
                    replace h := h.keep ho6 (fun k hk => by omega)
                    replace hrow := own_only hrow ho6 (fun k hk he => by have := hvl k hk; omega)
                    replace hC4 := ho6.blk hC4 (show ¬ c4 = c6 by omega)
                    replace hC9 := ho6.blk hC9 (show ¬ c9 = c6 by omega)
                    replace hC10 := ho6.blk hC10 (show ¬ c10 = c6 by omega)
                    replace hq := hq.trans' ho6 (fun _ h => h) (fun k hk he => by omega)
                    replace hC6 : wk.heap[c6]? = some (.cells (exV { X with kind := kn.1 }).toArray 30 (0, 0)) := hC6'
                    clear hC6' ho6 hs6
                    refine WA.step (r := [6]) (by kernel_rfl) (by decide) (all1 ?_)
                    refine WO.c rfl rfl (o_fa 1 TI30 rfl TI3 rfl h6 ?_)
                    refine WA.step (r := [7]) (by kernel_rfl) (by decide) (all1 ?_)
                    refine WO.u rfl (o_stB TI3 rfl (show _ = Value.int .i64 kn.2 from rfl) rfl hC6 (show 1 < 7 by decide) ?_)
                    intro wn hC6' ho6 hs6
                    replace h := h.keep ho6 (fun k hk => by omega)
                    replace hrow := own_only hrow ho6 (fun k hk he => by have := hvl k hk; omega)
                    replace hC4 := ho6.blk hC4 (show ¬ c4 = c6 by omega)
                    replace hC9 := ho6.blk hC9 (show ¬ c9 = c6 by omega)
                    replace hC10 := ho6.blk hC10 (show ¬ c10 = c6 by omega)
                    replace hq := hq.trans' ho6 (fun _ h => h) (fun k hk he => by omega)
                    replace hC6 : wn.heap[c6]? = some (.cells (exV (X.lf kn.1 kn.2)).toArray 30 (0, 0)) := hC6'
                    clear hC6' ho6 hs6
                    refine WA.done (by kernel_rfl) ?_
                    exact ⟨h, hrow, hC4, hC6, hC9, hq, h1, h3, h4, h6, h9⟩
                  · skip
                    refine WO.u rfl (o_stB TI3 rfl (show _ = Value.int .i64 kn.1 from rfl) rfl hC6 (show 0 < 7 by decide) ?_)
                    intro wk hC6' ho6 hs6
                    replace h := h.keep ho6 (fun k hk => by omega)
                    replace hrow := own_only hrow ho6 (fun k hk he => by have := hvl k hk; omega)
                    replace hC4 := ho6.blk hC4 (show ¬ c4 = c6 by omega)
                    replace hC9 := ho6.blk hC9 (show ¬ c9 = c6 by omega)
                    replace hC10 := ho6.blk hC10 (show ¬ c10 = c6 by omega)
                    replace hq := hq.trans' ho6 (fun _ h => h) (fun k hk he => by omega)
                    replace hC6 : wk.heap[c6]? = some (.cells (exV { X with kind := kn.1 }).toArray 30 (0, 0)) := hC6'
                    clear hC6' ho6 hs6
                    refine WA.step (r := [3]) (by kernel_rfl) (by decide) (all1 ?_)
                    refine WO.c rfl rfl (o_ld TI3 rfl rfl (cell_of hC10 rfl) ?_)
                    refine WA.step (r := [6]) (by kernel_rfl) (by decide) (all1 ?_)
                    refine WO.c rfl rfl (o_fa 1 TI30 rfl TI3 rfl h6 ?_)
                    refine WA.step (r := [7]) (by kernel_rfl) (by decide) (all1 ?_)
                    refine WO.u rfl (o_stB TI3 rfl (show _ = Value.int .i64 kn.2 from rfl) rfl hC6 (show 1 < 7 by decide) ?_)
                    intro wn hC6' ho6 hs6
                    replace h := h.keep ho6 (fun k hk => by omega)
                    replace hrow := own_only hrow ho6 (fun k hk he => by have := hvl k hk; omega)
                    replace hC4 := ho6.blk hC4 (show ¬ c4 = c6 by omega)
                    replace hC9 := ho6.blk hC9 (show ¬ c9 = c6 by omega)
                    replace hC10 := ho6.blk hC10 (show ¬ c10 = c6 by omega)
                    replace hq := hq.trans' ho6 (fun _ h => h) (fun k hk he => by omega)
                    replace hC6 : wn.heap[c6]? = some (.cells (exV (X.lf kn.1 kn.2)).toArray 30 (0, 0)) := hC6'
                    clear hC6' ho6 hs6
                    refine WA.done (by kernel_rfl) ?_
                    exact ⟨h, hrow, hC4, hC6, hC9, hq, h1, h3, h4, h6, h9⟩
              · skip
                refine WO.c rfl rfl (o_fa 0 TI30 rfl TI3 rfl h6 ?_)
                refine WA.step (r := [2, 5]) (by kernel_rfl) (by decide) (all2 ?_ ?_)
                · skip
                  refine WO.c rfl rfl (o_fa 1 TI30 rfl TI3 rfl rfl ?_)
                  refine WA.step (r := [3, 5]) (by kernel_rfl) (by decide) (all2 ?_ ?_)
                  · skip
                    refine WO.c rfl rfl (o_ld TI3 rfl rfl (cell_of hC10 rfl) ?_)
                    refine WA.step (r := [5]) (by kernel_rfl) (by decide) (all1 ?_)
                    refine WO.u rfl (o_stB TI3 rfl (show _ = Value.int .i64 kn.1 from rfl) rfl hC6 (show 0 < 7 by decide) ?_)
                    intro wk hC6' ho6 hs6
                    replace h := h.keep ho6 (fun k hk => by omega)
                    replace hrow := own_only hrow ho6 (fun k hk he => by have := hvl k hk; omega)
                    replace hC4 := ho6.blk hC4 (show ¬ c4 = c6 by omega)
                    replace hC9 := ho6.blk hC9 (show ¬ c9 = c6 by omega)
                    replace hC10 := ho6.blk hC10 (show ¬ c10 = c6 by omega)
                    replace hq := hq.trans' ho6 (fun _ h => h) (fun k hk he => by omega)
                    replace hC6 : wk.heap[c6]? = some (.cells (exV { X with kind := kn.1 }).toArray 30 (0, 0)) := hC6'
                    clear hC6' ho6 hs6
                    refine WA.step (r := [6]) (by kernel_rfl) (by decide) (all1 ?_)
                    refine WO.c rfl rfl (o_fa 1 TI30 rfl TI3 rfl h6 ?_)
                    refine WA.step (r := [7]) (by kernel_rfl) (by decide) (all1 ?_)
                    refine WO.u rfl (o_stB TI3 rfl (show _ = Value.int .i64 kn.2 from rfl) rfl hC6 (show 1 < 7 by decide) ?_)
                    intro wn hC6' ho6 hs6
                    replace h := h.keep ho6 (fun k hk => by omega)
                    replace hrow := own_only hrow ho6 (fun k hk he => by have := hvl k hk; omega)
                    replace hC4 := ho6.blk hC4 (show ¬ c4 = c6 by omega)
                    replace hC9 := ho6.blk hC9 (show ¬ c9 = c6 by omega)
                    replace hC10 := ho6.blk hC10 (show ¬ c10 = c6 by omega)
                    replace hq := hq.trans' ho6 (fun _ h => h) (fun k hk he => by omega)
                    replace hC6 : wn.heap[c6]? = some (.cells (exV (X.lf kn.1 kn.2)).toArray 30 (0, 0)) := hC6'
                    clear hC6' ho6 hs6
                    refine WA.done (by kernel_rfl) ?_
                    exact ⟨h, hrow, hC4, hC6, hC9, hq, h1, h3, h4, h6, h9⟩
                  · skip
                    refine WO.u rfl (o_stB TI3 rfl (show _ = Value.int .i64 kn.1 from rfl) rfl hC6 (show 0 < 7 by decide) ?_)
                    intro wk hC6' ho6 hs6
                    replace h := h.keep ho6 (fun k hk => by omega)
                    replace hrow := own_only hrow ho6 (fun k hk he => by have := hvl k hk; omega)
                    replace hC4 := ho6.blk hC4 (show ¬ c4 = c6 by omega)
                    replace hC9 := ho6.blk hC9 (show ¬ c9 = c6 by omega)
                    replace hC10 := ho6.blk hC10 (show ¬ c10 = c6 by omega)
                    replace hq := hq.trans' ho6 (fun _ h => h) (fun k hk he => by omega)
                    replace hC6 : wk.heap[c6]? = some (.cells (exV { X with kind := kn.1 }).toArray 30 (0, 0)) := hC6'
                    clear hC6' ho6 hs6
                    refine WA.step (r := [3]) (by kernel_rfl) (by decide) (all1 ?_)
                    refine WO.c rfl rfl (o_ld TI3 rfl rfl (cell_of hC10 rfl) ?_)
                    refine WA.step (r := [6]) (by kernel_rfl) (by decide) (all1 ?_)
                    refine WO.c rfl rfl (o_fa 1 TI30 rfl TI3 rfl h6 ?_)
                    refine WA.step (r := [7]) (by kernel_rfl) (by decide) (all1 ?_)
                    refine WO.u rfl (o_stB TI3 rfl (show _ = Value.int .i64 kn.2 from rfl) rfl hC6 (show 1 < 7 by decide) ?_)
                    intro wn hC6' ho6 hs6
                    replace h := h.keep ho6 (fun k hk => by omega)
                    replace hrow := own_only hrow ho6 (fun k hk he => by have := hvl k hk; omega)
                    replace hC4 := ho6.blk hC4 (show ¬ c4 = c6 by omega)
                    replace hC9 := ho6.blk hC9 (show ¬ c9 = c6 by omega)
                    replace hC10 := ho6.blk hC10 (show ¬ c10 = c6 by omega)
                    replace hq := hq.trans' ho6 (fun _ h => h) (fun k hk he => by omega)
                    replace hC6 : wn.heap[c6]? = some (.cells (exV (X.lf kn.1 kn.2)).toArray 30 (0, 0)) := hC6'
                    clear hC6' ho6 hs6
                    refine WA.done (by kernel_rfl) ?_
                    exact ⟨h, hrow, hC4, hC6, hC9, hq, h1, h3, h4, h6, h9⟩
                · skip
                  refine WO.u rfl (o_stB TI3 rfl (show _ = Value.int .i64 kn.1 from rfl) rfl hC6 (show 0 < 7 by decide) ?_)
                  intro wk hC6' ho6 hs6
                  replace h := h.keep ho6 (fun k hk => by omega)
                  replace hrow := own_only hrow ho6 (fun k hk he => by have := hvl k hk; omega)
                  replace hC4 := ho6.blk hC4 (show ¬ c4 = c6 by omega)
                  replace hC9 := ho6.blk hC9 (show ¬ c9 = c6 by omega)
                  replace hC10 := ho6.blk hC10 (show ¬ c10 = c6 by omega)
                  replace hq := hq.trans' ho6 (fun _ h => h) (fun k hk he => by omega)
                  replace hC6 : wk.heap[c6]? = some (.cells (exV { X with kind := kn.1 }).toArray 30 (0, 0)) := hC6'
                  clear hC6' ho6 hs6
                  refine WA.step (r := [2]) (by kernel_rfl) (by decide) (all1 ?_)
                  refine WO.c rfl rfl (o_fa 1 TI30 rfl TI3 rfl rfl ?_)
                  refine WA.step (r := [3]) (by kernel_rfl) (by decide) (all1 ?_)
                  refine WO.c rfl rfl (o_ld TI3 rfl rfl (cell_of hC10 rfl) ?_)
                  refine WA.step (r := [6]) (by kernel_rfl) (by decide) (all1 ?_)
                  refine WO.c rfl rfl (o_fa 1 TI30 rfl TI3 rfl h6 ?_)
                  refine WA.step (r := [7]) (by kernel_rfl) (by decide) (all1 ?_)
                  refine WO.u rfl (o_stB TI3 rfl (show _ = Value.int .i64 kn.2 from rfl) rfl hC6 (show 1 < 7 by decide) ?_)
                  intro wn hC6' ho6 hs6
                  replace h := h.keep ho6 (fun k hk => by omega)
                  replace hrow := own_only hrow ho6 (fun k hk he => by have := hvl k hk; omega)
                  replace hC4 := ho6.blk hC4 (show ¬ c4 = c6 by omega)
                  replace hC9 := ho6.blk hC9 (show ¬ c9 = c6 by omega)
                  replace hC10 := ho6.blk hC10 (show ¬ c10 = c6 by omega)
                  replace hq := hq.trans' ho6 (fun _ h => h) (fun k hk he => by omega)
                  replace hC6 : wn.heap[c6]? = some (.cells (exV (X.lf kn.1 kn.2)).toArray 30 (0, 0)) := hC6'
                  clear hC6' ho6 hs6
                  refine WA.done (by kernel_rfl) ?_
                  exact ⟨h, hrow, hC4, hC6, hC9, hq, h1, h3, h4, h6, h9⟩
            · skip
              refine WO.c rfl rfl (o_fa 1 TI30 rfl TI3 rfl rfl ?_)
              refine WA.step (r := [1, 3]) (by kernel_rfl) (by decide) (all2 ?_ ?_)
              · skip
                refine WO.c rfl rfl (o_ld TI3 rfl rfl (cell_of hC10 rfl) ?_)
                refine WA.step (r := [3, 4]) (by kernel_rfl) (by decide) (all2 ?_ ?_)
                · skip
                  refine WO.c rfl rfl (o_ld TI3 rfl rfl (cell_of hC10 rfl) ?_)
                  refine WA.step (r := [4]) (by kernel_rfl) (by decide) (all1 ?_)
                  refine WO.c rfl rfl (o_fa 0 TI30 rfl TI3 rfl h6 ?_)
                  refine WA.step (r := [5]) (by kernel_rfl) (by decide) (all1 ?_)
                  refine WO.u rfl (o_stB TI3 rfl (show _ = Value.int .i64 kn.1 from rfl) rfl hC6 (show 0 < 7 by decide) ?_)
                  intro wk hC6' ho6 hs6
                  replace h := h.keep ho6 (fun k hk => by omega)
                  replace hrow := own_only hrow ho6 (fun k hk he => by have := hvl k hk; omega)
                  replace hC4 := ho6.blk hC4 (show ¬ c4 = c6 by omega)
                  replace hC9 := ho6.blk hC9 (show ¬ c9 = c6 by omega)
                  replace hC10 := ho6.blk hC10 (show ¬ c10 = c6 by omega)
                  replace hq := hq.trans' ho6 (fun _ h => h) (fun k hk he => by omega)
                  replace hC6 : wk.heap[c6]? = some (.cells (exV { X with kind := kn.1 }).toArray 30 (0, 0)) := hC6'
                  clear hC6' ho6 hs6
                  refine WA.step (r := [6]) (by kernel_rfl) (by decide) (all1 ?_)
                  refine WO.c rfl rfl (o_fa 1 TI30 rfl TI3 rfl h6 ?_)
                  refine WA.step (r := [7]) (by kernel_rfl) (by decide) (all1 ?_)
                  refine WO.u rfl (o_stB TI3 rfl (show _ = Value.int .i64 kn.2 from rfl) rfl hC6 (show 1 < 7 by decide) ?_)
                  intro wn hC6' ho6 hs6
                  replace h := h.keep ho6 (fun k hk => by omega)
                  replace hrow := own_only hrow ho6 (fun k hk he => by have := hvl k hk; omega)
                  replace hC4 := ho6.blk hC4 (show ¬ c4 = c6 by omega)
                  replace hC9 := ho6.blk hC9 (show ¬ c9 = c6 by omega)
                  replace hC10 := ho6.blk hC10 (show ¬ c10 = c6 by omega)
                  replace hq := hq.trans' ho6 (fun _ h => h) (fun k hk he => by omega)
                  replace hC6 : wn.heap[c6]? = some (.cells (exV (X.lf kn.1 kn.2)).toArray 30 (0, 0)) := hC6'
                  clear hC6' ho6 hs6
                  refine WA.done (by kernel_rfl) ?_
                  exact ⟨h, hrow, hC4, hC6, hC9, hq, h1, h3, h4, h6, h9⟩
                · skip
                  refine WO.c rfl rfl (o_fa 0 TI30 rfl TI3 rfl h6 ?_)
                  refine WA.step (r := [3, 5]) (by kernel_rfl) (by decide) (all2 ?_ ?_)
                  · skip
                    refine WO.c rfl rfl (o_ld TI3 rfl rfl (cell_of hC10 rfl) ?_)
                    refine WA.step (r := [5]) (by kernel_rfl) (by decide) (all1 ?_)
                    refine WO.u rfl (o_stB TI3 rfl (show _ = Value.int .i64 kn.1 from rfl) rfl hC6 (show 0 < 7 by decide) ?_)
                    intro wk hC6' ho6 hs6
                    replace h := h.keep ho6 (fun k hk => by omega)
                    replace hrow := own_only hrow ho6 (fun k hk he => by have := hvl k hk; omega)
                    replace hC4 := ho6.blk hC4 (show ¬ c4 = c6 by omega)
                    replace hC9 := ho6.blk hC9 (show ¬ c9 = c6 by omega)
                    replace hC10 := ho6.blk hC10 (show ¬ c10 = c6 by omega)
                    replace hq := hq.trans' ho6 (fun _ h => h) (fun k hk he => by omega)
                    replace hC6 : wk.heap[c6]? = some (.cells (exV { X with kind := kn.1 }).toArray 30 (0, 0)) := hC6'
                    clear hC6' ho6 hs6
                    refine WA.step (r := [6]) (by kernel_rfl) (by decide) (all1 ?_)
                    refine WO.c rfl rfl (o_fa 1 TI30 rfl TI3 rfl h6 ?_)
                    refine WA.step (r := [7]) (by kernel_rfl) (by decide) (all1 ?_)
                    refine WO.u rfl (o_stB TI3 rfl (show _ = Value.int .i64 kn.2 from rfl) rfl hC6 (show 1 < 7 by decide) ?_)
                    intro wn hC6' ho6 hs6
                    replace h := h.keep ho6 (fun k hk => by omega)
                    replace hrow := own_only hrow ho6 (fun k hk he => by have := hvl k hk; omega)
                    replace hC4 := ho6.blk hC4 (show ¬ c4 = c6 by omega)
                    replace hC9 := ho6.blk hC9 (show ¬ c9 = c6 by omega)
                    replace hC10 := ho6.blk hC10 (show ¬ c10 = c6 by omega)
                    replace hq := hq.trans' ho6 (fun _ h => h) (fun k hk he => by omega)
                    replace hC6 : wn.heap[c6]? = some (.cells (exV (X.lf kn.1 kn.2)).toArray 30 (0, 0)) := hC6'
                    clear hC6' ho6 hs6
                    refine WA.done (by kernel_rfl) ?_
                    exact ⟨h, hrow, hC4, hC6, hC9, hq, h1, h3, h4, h6, h9⟩
                  · skip
                    refine WO.u rfl (o_stB TI3 rfl (show _ = Value.int .i64 kn.1 from rfl) rfl hC6 (show 0 < 7 by decide) ?_)
                    intro wk hC6' ho6 hs6
                    replace h := h.keep ho6 (fun k hk => by omega)
                    replace hrow := own_only hrow ho6 (fun k hk he => by have := hvl k hk; omega)
                    replace hC4 := ho6.blk hC4 (show ¬ c4 = c6 by omega)
                    replace hC9 := ho6.blk hC9 (show ¬ c9 = c6 by omega)
                    replace hC10 := ho6.blk hC10 (show ¬ c10 = c6 by omega)
                    replace hq := hq.trans' ho6 (fun _ h => h) (fun k hk he => by omega)
                    replace hC6 : wk.heap[c6]? = some (.cells (exV { X with kind := kn.1 }).toArray 30 (0, 0)) := hC6'
                    clear hC6' ho6 hs6
                    refine WA.step (r := [3]) (by kernel_rfl) (by decide) (all1 ?_)
                    refine WO.c rfl rfl (o_ld TI3 rfl rfl (cell_of hC10 rfl) ?_)
                    refine WA.step (r := [6]) (by kernel_rfl) (by decide) (all1 ?_)
                    refine WO.c rfl rfl (o_fa 1 TI30 rfl TI3 rfl h6 ?_)
                    refine WA.step (r := [7]) (by kernel_rfl) (by decide) (all1 ?_)
                    refine WO.u rfl (o_stB TI3 rfl (show _ = Value.int .i64 kn.2 from rfl) rfl hC6 (show 1 < 7 by decide) ?_)
                    intro wn hC6' ho6 hs6
                    replace h := h.keep ho6 (fun k hk => by omega)
                    replace hrow := own_only hrow ho6 (fun k hk he => by have := hvl k hk; omega)
                    replace hC4 := ho6.blk hC4 (show ¬ c4 = c6 by omega)
                    replace hC9 := ho6.blk hC9 (show ¬ c9 = c6 by omega)
                    replace hC10 := ho6.blk hC10 (show ¬ c10 = c6 by omega)
                    replace hq := hq.trans' ho6 (fun _ h => h) (fun k hk he => by omega)
                    replace hC6 : wn.heap[c6]? = some (.cells (exV (X.lf kn.1 kn.2)).toArray 30 (0, 0)) := hC6'
                    clear hC6' ho6 hs6
                    refine WA.done (by kernel_rfl) ?_
                    exact ⟨h, hrow, hC4, hC6, hC9, hq, h1, h3, h4, h6, h9⟩
              · skip
                refine WO.c rfl rfl (o_ld TI3 rfl rfl (cell_of hC10 rfl) ?_)
                refine WA.step (r := [1]) (by kernel_rfl) (by decide) (all1 ?_)
                refine WO.c rfl rfl (o_ld TI3 rfl rfl (cell_of hC10 rfl) ?_)
                refine WA.step (r := [4]) (by kernel_rfl) (by decide) (all1 ?_)
                refine WO.c rfl rfl (o_fa 0 TI30 rfl TI3 rfl h6 ?_)
                refine WA.step (r := [5]) (by kernel_rfl) (by decide) (all1 ?_)
                refine WO.u rfl (o_stB TI3 rfl (show _ = Value.int .i64 kn.1 from rfl) rfl hC6 (show 0 < 7 by decide) ?_)
                intro wk hC6' ho6 hs6
                replace h := h.keep ho6 (fun k hk => by omega)
                replace hrow := own_only hrow ho6 (fun k hk he => by have := hvl k hk; omega)
                replace hC4 := ho6.blk hC4 (show ¬ c4 = c6 by omega)
                replace hC9 := ho6.blk hC9 (show ¬ c9 = c6 by omega)
                replace hC10 := ho6.blk hC10 (show ¬ c10 = c6 by omega)
                replace hq := hq.trans' ho6 (fun _ h => h) (fun k hk he => by omega)
                replace hC6 : wk.heap[c6]? = some (.cells (exV { X with kind := kn.1 }).toArray 30 (0, 0)) := hC6'
                clear hC6' ho6 hs6
                refine WA.step (r := [6]) (by kernel_rfl) (by decide) (all1 ?_)
                refine WO.c rfl rfl (o_fa 1 TI30 rfl TI3 rfl h6 ?_)
                refine WA.step (r := [7]) (by kernel_rfl) (by decide) (all1 ?_)
                refine WO.u rfl (o_stB TI3 rfl (show _ = Value.int .i64 kn.2 from rfl) rfl hC6 (show 1 < 7 by decide) ?_)
                intro wn hC6' ho6 hs6
                replace h := h.keep ho6 (fun k hk => by omega)
                replace hrow := own_only hrow ho6 (fun k hk he => by have := hvl k hk; omega)
                replace hC4 := ho6.blk hC4 (show ¬ c4 = c6 by omega)
                replace hC9 := ho6.blk hC9 (show ¬ c9 = c6 by omega)
                replace hC10 := ho6.blk hC10 (show ¬ c10 = c6 by omega)
                replace hq := hq.trans' ho6 (fun _ h => h) (fun k hk he => by omega)
                replace hC6 : wn.heap[c6]? = some (.cells (exV (X.lf kn.1 kn.2)).toArray 30 (0, 0)) := hC6'
                clear hC6' ho6 hs6
                refine WA.done (by kernel_rfl) ?_
                exact ⟨h, hrow, hC4, hC6, hC9, hq, h1, h3, h4, h6, h9⟩
          · skip
            refine WO.c rfl rfl (o_fa 1 TI30 rfl TI3 rfl rfl ?_)
            refine WA.step (r := [0, 3]) (by kernel_rfl) (by decide) (all2 ?_ ?_)
            · skip
              refine WO.c rfl rfl (o_fa 0 TI30 rfl TI3 rfl rfl ?_)
              refine WA.step (r := [1, 3]) (by kernel_rfl) (by decide) (all2 ?_ ?_)
              · skip
                refine WO.c rfl rfl (o_ld TI3 rfl rfl (cell_of hC10 rfl) ?_)
                refine WA.step (r := [3, 4]) (by kernel_rfl) (by decide) (all2 ?_ ?_)
                · skip
                  refine WO.c rfl rfl (o_ld TI3 rfl rfl (cell_of hC10 rfl) ?_)
                  refine WA.step (r := [4]) (by kernel_rfl) (by decide) (all1 ?_)
                  refine WO.c rfl rfl (o_fa 0 TI30 rfl TI3 rfl h6 ?_)
                  refine WA.step (r := [5]) (by kernel_rfl) (by decide) (all1 ?_)
                  refine WO.u rfl (o_stB TI3 rfl (show _ = Value.int .i64 kn.1 from rfl) rfl hC6 (show 0 < 7 by decide) ?_)
                  intro wk hC6' ho6 hs6
                  replace h := h.keep ho6 (fun k hk => by omega)
                  replace hrow := own_only hrow ho6 (fun k hk he => by have := hvl k hk; omega)
                  replace hC4 := ho6.blk hC4 (show ¬ c4 = c6 by omega)
                  replace hC9 := ho6.blk hC9 (show ¬ c9 = c6 by omega)
                  replace hC10 := ho6.blk hC10 (show ¬ c10 = c6 by omega)
                  replace hq := hq.trans' ho6 (fun _ h => h) (fun k hk he => by omega)
                  replace hC6 : wk.heap[c6]? = some (.cells (exV { X with kind := kn.1 }).toArray 30 (0, 0)) := hC6'
                  clear hC6' ho6 hs6
                  refine WA.step (r := [6]) (by kernel_rfl) (by decide) (all1 ?_)
                  refine WO.c rfl rfl (o_fa 1 TI30 rfl TI3 rfl h6 ?_)
                  refine WA.step (r := [7]) (by kernel_rfl) (by decide) (all1 ?_)
                  refine WO.u rfl (o_stB TI3 rfl (show _ = Value.int .i64 kn.2 from rfl) rfl hC6 (show 1 < 7 by decide) ?_)
                  intro wn hC6' ho6 hs6
                  replace h := h.keep ho6 (fun k hk => by omega)
                  replace hrow := own_only hrow ho6 (fun k hk he => by have := hvl k hk; omega)
                  replace hC4 := ho6.blk hC4 (show ¬ c4 = c6 by omega)
                  replace hC9 := ho6.blk hC9 (show ¬ c9 = c6 by omega)
                  replace hC10 := ho6.blk hC10 (show ¬ c10 = c6 by omega)
                  replace hq := hq.trans' ho6 (fun _ h => h) (fun k hk he => by omega)
                  replace hC6 : wn.heap[c6]? = some (.cells (exV (X.lf kn.1 kn.2)).toArray 30 (0, 0)) := hC6'
                  clear hC6' ho6 hs6
                  refine WA.done (by kernel_rfl) ?_
                  exact ⟨h, hrow, hC4, hC6, hC9, hq, h1, h3, h4, h6, h9⟩
                · skip
                  refine WO.c rfl rfl (o_fa 0 TI30 rfl TI3 rfl h6 ?_)
                  refine WA.step (r := [3, 5]) (by kernel_rfl) (by decide) (all2 ?_ ?_)
                  · skip
                    refine WO.c rfl rfl (o_ld TI3 rfl rfl (cell_of hC10 rfl) ?_)
                    refine WA.step (r := [5]) (by kernel_rfl) (by decide) (all1 ?_)
                    refine WO.u rfl (o_stB TI3 rfl (show _ = Value.int .i64 kn.1 from rfl) rfl hC6 (show 0 < 7 by decide) ?_)
                    intro wk hC6' ho6 hs6
                    replace h := h.keep ho6 (fun k hk => by omega)
                    replace hrow := own_only hrow ho6 (fun k hk he => by have := hvl k hk; omega)
                    replace hC4 := ho6.blk hC4 (show ¬ c4 = c6 by omega)
                    replace hC9 := ho6.blk hC9 (show ¬ c9 = c6 by omega)
                    replace hC10 := ho6.blk hC10 (show ¬ c10 = c6 by omega)
                    replace hq := hq.trans' ho6 (fun _ h => h) (fun k hk he => by omega)
                    replace hC6 : wk.heap[c6]? = some (.cells (exV { X with kind := kn.1 }).toArray 30 (0, 0)) := hC6'
                    clear hC6' ho6 hs6
                    refine WA.step (r := [6]) (by kernel_rfl) (by decide) (all1 ?_)
                    refine WO.c rfl rfl (o_fa 1 TI30 rfl TI3 rfl h6 ?_)
                    refine WA.step (r := [7]) (by kernel_rfl) (by decide) (all1 ?_)
                    refine WO.u rfl (o_stB TI3 rfl (show _ = Value.int .i64 kn.2 from rfl) rfl hC6 (show 1 < 7 by decide) ?_)
                    intro wn hC6' ho6 hs6
                    replace h := h.keep ho6 (fun k hk => by omega)
                    replace hrow := own_only hrow ho6 (fun k hk he => by have := hvl k hk; omega)
                    replace hC4 := ho6.blk hC4 (show ¬ c4 = c6 by omega)
                    replace hC9 := ho6.blk hC9 (show ¬ c9 = c6 by omega)
                    replace hC10 := ho6.blk hC10 (show ¬ c10 = c6 by omega)
                    replace hq := hq.trans' ho6 (fun _ h => h) (fun k hk he => by omega)
                    replace hC6 : wn.heap[c6]? = some (.cells (exV (X.lf kn.1 kn.2)).toArray 30 (0, 0)) := hC6'
                    clear hC6' ho6 hs6
                    refine WA.done (by kernel_rfl) ?_
                    exact ⟨h, hrow, hC4, hC6, hC9, hq, h1, h3, h4, h6, h9⟩
                  · skip
                    refine WO.u rfl (o_stB TI3 rfl (show _ = Value.int .i64 kn.1 from rfl) rfl hC6 (show 0 < 7 by decide) ?_)
                    intro wk hC6' ho6 hs6
                    replace h := h.keep ho6 (fun k hk => by omega)
                    replace hrow := own_only hrow ho6 (fun k hk he => by have := hvl k hk; omega)
                    replace hC4 := ho6.blk hC4 (show ¬ c4 = c6 by omega)
                    replace hC9 := ho6.blk hC9 (show ¬ c9 = c6 by omega)
                    replace hC10 := ho6.blk hC10 (show ¬ c10 = c6 by omega)
                    replace hq := hq.trans' ho6 (fun _ h => h) (fun k hk he => by omega)
                    replace hC6 : wk.heap[c6]? = some (.cells (exV { X with kind := kn.1 }).toArray 30 (0, 0)) := hC6'
                    clear hC6' ho6 hs6
                    refine WA.step (r := [3]) (by kernel_rfl) (by decide) (all1 ?_)
                    refine WO.c rfl rfl (o_ld TI3 rfl rfl (cell_of hC10 rfl) ?_)
                    refine WA.step (r := [6]) (by kernel_rfl) (by decide) (all1 ?_)
                    refine WO.c rfl rfl (o_fa 1 TI30 rfl TI3 rfl h6 ?_)
                    refine WA.step (r := [7]) (by kernel_rfl) (by decide) (all1 ?_)
                    refine WO.u rfl (o_stB TI3 rfl (show _ = Value.int .i64 kn.2 from rfl) rfl hC6 (show 1 < 7 by decide) ?_)
                    intro wn hC6' ho6 hs6
                    replace h := h.keep ho6 (fun k hk => by omega)
                    replace hrow := own_only hrow ho6 (fun k hk he => by have := hvl k hk; omega)
                    replace hC4 := ho6.blk hC4 (show ¬ c4 = c6 by omega)
                    replace hC9 := ho6.blk hC9 (show ¬ c9 = c6 by omega)
                    replace hC10 := ho6.blk hC10 (show ¬ c10 = c6 by omega)
                    replace hq := hq.trans' ho6 (fun _ h => h) (fun k hk he => by omega)
                    replace hC6 : wn.heap[c6]? = some (.cells (exV (X.lf kn.1 kn.2)).toArray 30 (0, 0)) := hC6'
                    clear hC6' ho6 hs6
                    refine WA.done (by kernel_rfl) ?_
                    exact ⟨h, hrow, hC4, hC6, hC9, hq, h1, h3, h4, h6, h9⟩
              · skip
                refine WO.c rfl rfl (o_ld TI3 rfl rfl (cell_of hC10 rfl) ?_)
                refine WA.step (r := [1]) (by kernel_rfl) (by decide) (all1 ?_)
                refine WO.c rfl rfl (o_ld TI3 rfl rfl (cell_of hC10 rfl) ?_)
                refine WA.step (r := [4]) (by kernel_rfl) (by decide) (all1 ?_)
                refine WO.c rfl rfl (o_fa 0 TI30 rfl TI3 rfl h6 ?_)
                refine WA.step (r := [5]) (by kernel_rfl) (by decide) (all1 ?_)
                refine WO.u rfl (o_stB TI3 rfl (show _ = Value.int .i64 kn.1 from rfl) rfl hC6 (show 0 < 7 by decide) ?_)
                intro wk hC6' ho6 hs6
                replace h := h.keep ho6 (fun k hk => by omega)
                replace hrow := own_only hrow ho6 (fun k hk he => by have := hvl k hk; omega)
                replace hC4 := ho6.blk hC4 (show ¬ c4 = c6 by omega)
                replace hC9 := ho6.blk hC9 (show ¬ c9 = c6 by omega)
                replace hC10 := ho6.blk hC10 (show ¬ c10 = c6 by omega)
                replace hq := hq.trans' ho6 (fun _ h => h) (fun k hk he => by omega)
                replace hC6 : wk.heap[c6]? = some (.cells (exV { X with kind := kn.1 }).toArray 30 (0, 0)) := hC6'
                clear hC6' ho6 hs6
                refine WA.step (r := [6]) (by kernel_rfl) (by decide) (all1 ?_)
                refine WO.c rfl rfl (o_fa 1 TI30 rfl TI3 rfl h6 ?_)
                refine WA.step (r := [7]) (by kernel_rfl) (by decide) (all1 ?_)
                refine WO.u rfl (o_stB TI3 rfl (show _ = Value.int .i64 kn.2 from rfl) rfl hC6 (show 1 < 7 by decide) ?_)
                intro wn hC6' ho6 hs6
                replace h := h.keep ho6 (fun k hk => by omega)
                replace hrow := own_only hrow ho6 (fun k hk he => by have := hvl k hk; omega)
                replace hC4 := ho6.blk hC4 (show ¬ c4 = c6 by omega)
                replace hC9 := ho6.blk hC9 (show ¬ c9 = c6 by omega)
                replace hC10 := ho6.blk hC10 (show ¬ c10 = c6 by omega)
                replace hq := hq.trans' ho6 (fun _ h => h) (fun k hk he => by omega)
                replace hC6 : wn.heap[c6]? = some (.cells (exV (X.lf kn.1 kn.2)).toArray 30 (0, 0)) := hC6'
                clear hC6' ho6 hs6
                refine WA.done (by kernel_rfl) ?_
                exact ⟨h, hrow, hC4, hC6, hC9, hq, h1, h3, h4, h6, h9⟩
            · skip
              refine WO.c rfl rfl (o_ld TI3 rfl rfl (cell_of hC10 rfl) ?_)
              refine WA.step (r := [0]) (by kernel_rfl) (by decide) (all1 ?_)
              refine WO.c rfl rfl (o_fa 0 TI30 rfl TI3 rfl rfl ?_)
              refine WA.step (r := [1]) (by kernel_rfl) (by decide) (all1 ?_)
              refine WO.c rfl rfl (o_ld TI3 rfl rfl (cell_of hC10 rfl) ?_)
              refine WA.step (r := [4]) (by kernel_rfl) (by decide) (all1 ?_)
              refine WO.c rfl rfl (o_fa 0 TI30 rfl TI3 rfl h6 ?_)
              refine WA.step (r := [5]) (by kernel_rfl) (by decide) (all1 ?_)
              refine WO.u rfl (o_stB TI3 rfl (show _ = Value.int .i64 kn.1 from rfl) rfl hC6 (show 0 < 7 by decide) ?_)
              intro wk hC6' ho6 hs6
              replace h := h.keep ho6 (fun k hk => by omega)
              replace hrow := own_only hrow ho6 (fun k hk he => by have := hvl k hk; omega)
              replace hC4 := ho6.blk hC4 (show ¬ c4 = c6 by omega)
              replace hC9 := ho6.blk hC9 (show ¬ c9 = c6 by omega)
              replace hC10 := ho6.blk hC10 (show ¬ c10 = c6 by omega)
              replace hq := hq.trans' ho6 (fun _ h => h) (fun k hk he => by omega)
              replace hC6 : wk.heap[c6]? = some (.cells (exV { X with kind := kn.1 }).toArray 30 (0, 0)) := hC6'
              clear hC6' ho6 hs6
              refine WA.step (r := [6]) (by kernel_rfl) (by decide) (all1 ?_)
              refine WO.c rfl rfl (o_fa 1 TI30 rfl TI3 rfl h6 ?_)
              refine WA.step (r := [7]) (by kernel_rfl) (by decide) (all1 ?_)
              refine WO.u rfl (o_stB TI3 rfl (show _ = Value.int .i64 kn.2 from rfl) rfl hC6 (show 1 < 7 by decide) ?_)
              intro wn hC6' ho6 hs6
              replace h := h.keep ho6 (fun k hk => by omega)
              replace hrow := own_only hrow ho6 (fun k hk he => by have := hvl k hk; omega)
              replace hC4 := ho6.blk hC4 (show ¬ c4 = c6 by omega)
              replace hC9 := ho6.blk hC9 (show ¬ c9 = c6 by omega)
              replace hC10 := ho6.blk hC10 (show ¬ c10 = c6 by omega)
              replace hq := hq.trans' ho6 (fun _ h => h) (fun k hk he => by omega)
              replace hC6 : wn.heap[c6]? = some (.cells (exV (X.lf kn.1 kn.2)).toArray 30 (0, 0)) := hC6'
              clear hC6' ho6 hs6
              refine WA.done (by kernel_rfl) ?_
              exact ⟨h, hrow, hC4, hC6, hC9, hq, h1, h3, h4, h6, h9⟩
        rintro e w ⟨h, hrow, hC4, hC6, hC9, hq, h1, h3, h4, h6, h9⟩
        refine W.seq ?_
        refine W.region ?_
        refine WL.c rfl (o_mvh h1 ?_)
        refine WL.c rfl (o_ldA TI30 rfl h6 (show Cells _ c6 0 (exV (X.lf kn.1 kn.2)) from Cells.of hC6 0 _ (by simp)) rfl ?_)
        refine WL.apO (B0) rfl rfl TI38 TI30 (show _ = Value.agg (exV (X.lf kn.1 kn.2)).toArray from rfl) rfl hrow (by decide) (by decide) rfl exV_one rfl (by rw [maxLen_eq]; omega) (by omega) (by have := h.b0; omega) ?_
        intro v2 w2 hown ho hob _
        replace hob : v2.ownBlock = v.ownBlock ∨ _ := hob
        replace ho : Only (fun k => v.ownBlock = some k) _ _ := ho
        replace hown := RowE.snoc hown
        have hvb : ∀ k, v2.ownBlock = some k → v.ownBlock = some k ∨ c4 ≤ k := fun k hk => by
          rcases hob with hb | hb
          · exact .inl (by rw [← hb]; exact hk)
          · rw [hb, Option.some.injEq] at hk; have := hq.size; omega
        replace h := h.keep ho (fun k hk => by have := (hrow.lt k hk).1; omega)
        replace hq := hq.trans' ho (fun _ h => h) (fun _ _ h => .inr h)
        refine WL.c rfl (o_ash (by first | exact (show _ = Value.slice _ _ _ from rfl) | exact rfl) ?_)
        refine WL.nil ?_
        refine W.ret ?_
        refine ret1v rfl (show _ = v2 from rfl) ?_
        refine ⟨[(atE at_ x).lf kn.1 kn.2], at_ + 1, by rw [exprT_s, if_neg hbg, if_neg hdd, hkn], ?_, by simp; omega, by omega, hvb, h, hq⟩
        rw [List.map_singleton, plE_lf, ← hX]
        exact hown
      · try simp only [decide_eq_true_eq, decide_eq_false_iff_not, Bool.not_eq_true', Bool.not_eq_false', Bool.and_eq_true, Bool.or_eq_true, Bool.and_eq_false_iff, Bool.or_eq_false_iff] at c43
        have hkn : leafE (tkA T at_).text = none := by simpa using c43
        refine W.skip ?_
        refine W.seq ?_
        refine W.region ?_
        refine WL.c rfl (o_mvh h1 ?_)
        refine WL.c rfl (o_lenR TI38 rfl (Sl.own hrow) ?_)
        refine WL.c rfl (o_ash (show _ = Value.int _ _ from rfl) ?_)
        refine WL.nil ?_
        refine W.seq ?_
        refine W.seq ?_
        refine W.region ?_
        refine WL.c rfl (o_fa 1 TI58 rfl TI9 rfl h9 ?_)
        refine WL.c rfl (o_ld TI9 rfl rfl (cell_of hC9 rfl) ?_)
        refine WL.nil ?_
        refine W.block ?_
        refine W.seq ?_
        refine W.seq ?_
        refine W.region ?_
        refine WL.c rfl (o_eqT rfl rfl ?_)
        refine WL.c rfl (o_ash (show _ = Value.bool _ from rfl) ?_)
        refine WL.nil ?_
        refine W.cut (fun e1 w1 => Psr w1 B0 p lv T fin (at_ + 1) ∧ RowE w1 B0 v L ∧ w1.heap[c4]? = some (.cells #[.pointer (some ⟨p, 0, none⟩)] 75 (0, 0)) ∧ w1.heap[c6]? = some (.cells (exV X).toArray 30 (0, 0)) ∧ w1.heap[c9]? = some (.cells (tokV (tkA T at_)) 58 (0, 0)) ∧ Only (fun k => k = p ∨ v.ownBlock = some k) w0 w1 ∧ e1 1 = v ∧ e1 3 = .int .i64 (deep : Int) ∧ e1 4 = .pointer (some ⟨c4, 0, none⟩) ∧ e1 6 = .pointer (some ⟨c6, 0, none⟩) ∧ e1 9 = .pointer (some ⟨c9, 0, none⟩) ∧ e1 12 = .int .i64 (L.length : Int) ∧ e1 57 = st (tkA T at_).text ∧ e1 66 = .bool (decide ((tkA T at_).text = [118, 101, 99, 116, 111, 114] ∨ (tkA T at_).text = [108, 105, 115, 116]))) ?_ ?_
        · -- both ways
          refine W.cond rfl (fun c66 => ?_) (fun c66 => ?_)
          · try simp only [decide_eq_true_eq, decide_eq_false_iff_not, Bool.not_eq_true', Bool.not_eq_false', Bool.and_eq_true, Bool.or_eq_true, Bool.and_eq_false_iff, Bool.or_eq_false_iff] at c66
            refine W.skip ?_
            first | exact ⟨h, hrow, hC4, hC6, hC9, hq, h1, h3, h4, h6, h9, rfl, rfl, congrArg Value.bool (by simp [c66])⟩
          · try simp only [decide_eq_true_eq, decide_eq_false_iff_not, Bool.not_eq_true', Bool.not_eq_false', Bool.and_eq_true, Bool.or_eq_true, Bool.and_eq_false_iff, Bool.or_eq_false_iff] at c66
            refine W.region ?_
            refine WL.c rfl (o_eqT rfl rfl ?_)
            refine WL.c rfl (o_ash (show _ = Value.bool _ from rfl) ?_)
            refine WL.nil ?_
            first | exact ⟨h, hrow, hC4, hC6, hC9, hq, h1, h3, h4, h6, h9, rfl, rfl, congrArg Value.bool (by simp [c66])⟩
        rintro e w ⟨h, hrow, hC4, hC6, hC9, hq, h1, h3, h4, h6, h9, h12, h57, h66⟩
        refine W.cut (fun e1 w1 => ∃ (v2 : Value) (N : List Ex) (j : Nat), e1 1 = v2 ∧ exprT T (f + 1) at_ x deep = .ok N j ∧ RowE w1 B0 v2 (L ++ N.map (plE T)) ∧ L.length + N.length ≤ j ∧ at_ < j ∧ (∀ k, v2.ownBlock = some k → v.ownBlock = some k ∨ c4 ≤ k) ∧ Psr w1 B0 p lv T fin j ∧ Only (fun k => k = p ∨ v.ownBlock = some k) w0 w1) ?_ ?_
        · -- both ways
          refine W.cond h66 (fun c66 => ?_) (fun c66 => ?_)
          · try simp only [decide_eq_true_eq, decide_eq_false_iff_not, Bool.not_eq_true', Bool.not_eq_false', Bool.and_eq_true, Bool.or_eq_true, Bool.and_eq_false_iff, Bool.or_eq_false_iff] at c66
            refine W.seq ?_
            have hV : ((tkA T at_).text = [118, 101, 99, 116, 111, 114] ∨ (tkA T at_).text = [108, 105, 115, 116]) := by simpa using c66
            have hXV : exprT T (f + 1) at_ x deep = ((wantT T (at_ + 1) 3 [60]).bind fun _ j => (exprT T f j exM (deep + 1)).bind fun N j => (wantT T j 3 [44]).bind fun _ j => (numT T j).bind fun n j => (wantT T j 3 [62]).bind fun _ j => .ok ((atE at_ x).vec (decide ((tkA T at_).text = [108, 105, 115, 116])) n :: N) j) := by
              rw [exprT_s, if_neg hbg, if_neg hdd, hkn]
              exact if_pos hV
            refine W.region ?_
            refine WL.c rfl (o_fa 0 TI30 rfl TI3 rfl h6 ?_)
            refine WL.u (o_stB TI3 rfl (show _ = Value.int _ _ from rfl) rfl hC6 (show 0 < 7 by decide) ?_)
            intro wq hC6' ho6 hs6
            replace h := h.keep ho6 (fun k hk => by omega)
            replace hrow := own_only hrow ho6 (fun k hk he => by have := hvl k hk; omega)
            replace hC4 := ho6.blk hC4 (show ¬ c4 = c6 by omega)
            replace hC9 := ho6.blk hC9 (show ¬ c9 = c6 by omega)
            replace hq := hq.trans' ho6 (fun _ h => h) (fun k hk he => by omega)
            replace hC6 : wq.heap[c6]? = some (.cells (exV { X with kind := 4 }).toArray 30 (0, 0)) := hC6'
            clear hC6' ho6 hs6
            refine WL.c rfl (o_fa 5 TI30 rfl TI3 rfl h6 ?_)
            refine WL.u (o_stB TI3 rfl (show _ = Value.int _ _ from rfl) rfl hC6 (show 5 < 7 by decide) ?_)
            intro wr hC6' ho6 hs6
            replace h := h.keep ho6 (fun k hk => by omega)
            replace hrow := own_only hrow ho6 (fun k hk he => by have := hvl k hk; omega)
            replace hC4 := ho6.blk hC4 (show ¬ c4 = c6 by omega)
            replace hC9 := ho6.blk hC9 (show ¬ c9 = c6 by omega)
            replace hq := hq.trans' ho6 (fun _ h => h) (fun k hk he => by omega)
            replace hC6 : wr.heap[c6]? = some (.cells (exV { X with kind := 4, kids := 1 }).toArray 30 (0, 0)) := hC6'
            clear hC6' ho6 hs6
            refine WL.nil ?_
            refine W.seq ?_
            refine W.seq ?_
            refine W.region ?_
            refine WL.c rfl (o_fa 1 TI58 rfl TI9 rfl h9 ?_)
            refine WL.c rfl (o_ld TI9 rfl rfl (cell_of hC9 rfl) ?_)
            refine WL.c rfl (o_eqT rfl rfl ?_)
            refine WL.nil ?_
            refine W.cut (fun e1 w1 => Psr w1 B0 p lv T fin (at_ + 1) ∧ RowE w1 B0 v L ∧ w1.heap[c4]? = some (.cells #[.pointer (some ⟨p, 0, none⟩)] 75 (0, 0)) ∧ w1.heap[c6]? = some (.cells (exV (X.vec (decide ((tkA T at_).text = [108, 105, 115, 116])) X.n)).toArray 30 (0, 0)) ∧ w1.heap[c9]? = some (.cells (tokV (tkA T at_)) 58 (0, 0)) ∧ Only (fun k => k = p ∨ v.ownBlock = some k) w0 w1 ∧ e1 1 = v ∧ e1 3 = .int .i64 (deep : Int) ∧ e1 4 = .pointer (some ⟨c4, 0, none⟩) ∧ e1 6 = .pointer (some ⟨c6, 0, none⟩) ∧ e1 9 = .pointer (some ⟨c9, 0, none⟩) ∧ e1 12 = .int .i64 (L.length : Int)) ?_ ?_
            · -- both ways
              refine W.cond rfl (fun c73 => ?_) (fun c73 => ?_)
              · try simp only [decide_eq_true_eq, decide_eq_false_iff_not, Bool.not_eq_true', Bool.not_eq_false', Bool.and_eq_true, Bool.or_eq_true, Bool.and_eq_false_iff, Bool.or_eq_false_iff] at c73
                refine W.region ?_
                refine WL.c rfl (o_fa 0 TI30 rfl TI3 rfl h6 ?_)
                refine WL.u (o_stB TI3 rfl (show _ = Value.int _ _ from rfl) rfl hC6 (show 0 < 7 by decide) ?_)
                intro ws hC6' ho6 hs6
                replace h := h.keep ho6 (fun k hk => by omega)
                replace hrow := own_only hrow ho6 (fun k hk he => by have := hvl k hk; omega)
                replace hC4 := ho6.blk hC4 (show ¬ c4 = c6 by omega)
                replace hC9 := ho6.blk hC9 (show ¬ c9 = c6 by omega)
                replace hq := hq.trans' ho6 (fun _ h => h) (fun k hk he => by omega)
                replace hC6 : ws.heap[c6]? = some (.cells (exV { X with kind := 5, kids := 1 }).toArray 30 (0, 0)) := hC6'
                clear hC6' ho6 hs6
                refine WL.nil ?_
                first | exact ⟨h, hrow, hC4, (by rw [decide_eq_true c73]; exact hC6), hC9, hq, h1, h3, h4, h6, h9, h12⟩ | exact ⟨h, hrow, hC4, (by rw [decide_eq_false c73]; exact hC6), hC9, hq, h1, h3, h4, h6, h9, h12⟩
              · try simp only [decide_eq_true_eq, decide_eq_false_iff_not, Bool.not_eq_true', Bool.not_eq_false', Bool.and_eq_true, Bool.or_eq_true, Bool.and_eq_false_iff, Bool.or_eq_false_iff] at c73
                refine W.skip ?_
                first | exact ⟨h, hrow, hC4, (by rw [decide_eq_true c73]; exact hC6), hC9, hq, h1, h3, h4, h6, h9, h12⟩ | exact ⟨h, hrow, hC4, (by rw [decide_eq_false c73]; exact hC6), hC9, hq, h1, h3, h4, h6, h9, h12⟩
            rintro e w ⟨h, hrow, hC4, hC6, hC9, hq, h1, h3, h4, h6, h9, h12⟩
            refine W.seq ?_
            refine W.region ?_
            refine WL.c rfl (o_ld TI75 rfl h4 (cell_of hC4 rfl) ?_)
            refine WL.cx rfl (ox_call Try.call36 (lc rfl (lc rfl ln)) ((mark_spec B0 p lv T fin (at_ + 1) _ h [60]).mono ?_ (fun ch w' hh => by obtain ⟨e, j, h1, h2, h3⟩ := hh; exact ⟨e, j, by rw [hXV, h1]; rfl, h2, hq.ext h3⟩)))
            rintro v76 w76 ⟨hw1, h', hop⟩
            replace h := h'
            replace hrow := own_only hrow hop (fun k hk he => by subst he; exact hvp hk)
            replace hC4 := hop.blk hC4 (show ¬ c4 = p by omega)
            replace hC6 := hop.blk hC6 (show ¬ c6 = p by omega)
            replace hC9 := hop.blk hC9 (show ¬ c9 = p by omega)
            replace hq := hq.trans' hop (fun _ h => h) (fun _ _ h => .inl h)
            refine WL.nil ?_
            refine W.seq ?_
            obtain ⟨wd, hwd⟩ : ∃ wd, wd = w76.drew := ⟨_, rfl⟩
            have hxd : Ext w76 wd := hwd ▸ Only.drew w76
            replace h := h.ext hxd
            replace hrow := own_ext hrow hxd
            replace hC4 := hxd.blk hC4 (fun h => h)
            replace hC6 := hxd.blk hC6 (fun h => h)
            replace hC9 := hxd.blk hC9 (fun h => h)
            replace hq := hq.ext hxd
            obtain ⟨X2, hX2⟩ : ∃ X2, X2 = (X.vec (decide ((tkA T at_).text = [108, 105, 115, 116])) X.n) := ⟨_, rfl⟩
            rw [← hX2] at hC6
            have hvd : ∀ k, v.ownBlock = some k → k < wd.heap.size := fun k hk => (hrow.lt k hk).2
            have hwd0 := hq.size
            refine W.drawF 8 [4] [fun k => v.ownBlock = some k] [(1, fun v _ => v = _), (3, fun v _ => v = _), (4, fun v _ => v = _), (6, fun v _ => v = _), (12, fun v _ => v = _)] rfl (by kernel_rfl) (by kernel_rfl) ⟨Mono.eq, Mono.eq, Mono.eq, Mono.eq, Mono.eq, trivial⟩ ⟨h1, h3, h4, h6, h12, trivial⟩ ?_
            refine WDS.p rfl (by decide) (fun e w hR hh => by obtain ⟨h4, -⟩ := hh; rw [← hwd] at hR; have hc := hR.blk hC4 (fun hF => by rcases hF with hF | hF; have := hvl _ hF; omega; exact hF); exact SG.n (o_ld TI75 rfl h4 (cell_of hc rfl) ⟨rfl, Only.refl No _⟩)) ?_
            refine WDS.p rfl (by decide) (fun e w hR hh => by obtain ⟨h1, -⟩ := hh; exact SG.n (o_mvh h1 ⟨rfl, Only.refl No _⟩)) ?_
            refine WDS.p rfl (by decide) (fun e w hR hh => by obtain ⟨h6, -⟩ := hh; rw [← hwd] at hR; have hc := hR.blk hC6 (fun hF => by rcases hF with hF | hF; have := hvl _ hF; omega; exact hF); exact SG.n (o_ldA TI30 rfl h6 (show Cells _ c6 0 (exV X2) from Cells.of hc 0 _ (by simp)) rfl ⟨rfl, Only.refl No _⟩)) ?_
            refine WDS.q 0 (fun u w => w.ownsRow wd.heap.size 30 7 u 1 (exV X2)) (fun u w w2 hR hh => own_only hh hR (fun k hk hF => by rcases hF with hF | hF; have := hvd k hF; have := (hh.lt k hk).1; omega; exact hF)) (by kernel_rfl) rfl (by decide) (fun e w hR hh => by obtain ⟨h79, -⟩ := hh; rw [← hwd] at hR; exact SG.n (o_bs1 TI38 TI30 h79 (by decide) (by decide) rfl ⟨own_mono (own_new1 rfl) hR.size, Only.alloc w _⟩)) ?_
            refine WDS.mf 0 1 (fun u w => RowE w B0 u (L ++ [X2]) ∧ ∀ k, u.ownBlock = some k → v.ownBlock = some k ∨ wd.heap.size ≤ k) (fun u w w2 hR hh => ⟨own_ext hh.1 hR, hh.2⟩) (by kernel_rfl) rfl rfl rfl (fun e w hR hW hh => by obtain ⟨h80, h78, -⟩ := hh; rw [← hwd] at hR hW; have hrow4 := own_only hrow hW (fun k hk hF => hF); have hb0 := h.b0; have hws := hW.size; exact SGX.n (OP.x (o_apO B0 TI38 TI30 h78 rfl hrow4 (Sl.own h80) rfl (by decide) (exV_one (y := X2)) (by rw [maxLen_eq]; omega) (by omega) (by omega) (fun v' w' h1 h2 h3 _ => ⟨⟨RowE.snoc h1, fun k hk => by rcases h3 with h3 | h3; exact .inl (by rw [← h3]; exact hk); rw [h3, Option.some.injEq] at hk; have := hW.size; omega⟩, h2⟩)))) ?_
            refine WDS.p rfl (by decide) (fun e w hR hh => by skip; exact SG.n (o_bldC (cs := [(.int .i64 0), (.int .i64 0), (.string ⟨#[]⟩), (.string ⟨#[]⟩), (.int .i64 0), (.int .i64 0), (.int .i64 (-1))]) TI30 (Sizes.cons TI3 (Sizes.cons TI3 (Sizes.cons TI9 (Sizes.cons TI9 (Sizes.cons TI3 (Sizes.cons TI3 (Sizes.cons TI3 Sizes.nil))))))) rfl (lcp (show _ = Value.int _ _ from rfl) lnp) rfl rfl ⟨rfl, Only.refl No _⟩)) ?_
            refine WDS.p rfl (by decide) (fun e w hR hh => by obtain ⟨h3, -⟩ := hh; exact SG.n (o_mvh h3 ⟨rfl, Only.refl No _⟩)) ?_
            refine WDS.p rfl (by decide) (fun e w hR hh => by obtain ⟨h83, -⟩ := hh; exact SG.n (o_addi h83 rfl (by omega) ⟨rfl, Only.refl No _⟩)) ?_
            rintro e w hR ⟨h84, h83, h82, h81, h80, h79, h78, h77, h1, h3, h4, h6, h12, -⟩
            rw [← hwd] at hR
            obtain ⟨hr81, hb81⟩ := h81
            replace h := h.keep hR (fun k hF => by rcases hF with hF | hF; have := (hrow.lt k hF).1; omega; exact hF.elim)
            replace hC4 := hR.blk hC4 (fun hF => by rcases hF with hF | hF; have := hvl _ hF; omega; exact hF)
            replace hC9 := hR.blk hC9 (fun hF => by rcases hF with hF | hF; have := hvl _ hF; omega; exact hF)
            replace hq := hq.trans' hR (fun _ h => h) (fun k hk hF => by rcases hF with hF | hF; exact .inr hF; exact hF.elim)
            have hsz8 := hR.size
            have hE2 := hE (by omega) (at_ + 2) (by omega) (at_ + 1 + 1) exM (L ++ [X2]) (e 81) _ (Nat.le_refl _) rfl h hr81 (by rw [List.length_append, List.length_singleton]; omega)
            rw [plE_exM, show ((deep + 1 : Nat) : Int) = (deep : Int) + 1 by omega] at hE2
            have hpr : ¬ (e 81).ownBlock = some p := own_off hr81 h.cell (by decide)
            have hcr : ¬ (e 81).ownBlock = some c4 := own_off hr81 hC4 (by decide)
            refine WL.cx rfl (ox_call Try.call37 (lc h77 (lc rfl (lc h82 (lc h84 ln)))) ((hE2).mono ?_ (fun ch w' hh => by obtain ⟨e, j, h1, h2, h3⟩ := hh; replace h1 : exprT T f (at_ + 1 + 1) exM (deep + 1) = .bad e j := h1; exact ⟨e, j, by rw [hXV, hw1, Pr.bind_ok, h1]; rfl, h2, hq.trans' h3 (fun _ h => h) (fun k hk hF => hF.imp id (fun he => (hb81 k he).resolve_right (by omega)))⟩)))
            rintro v85 w85 ⟨N, j, hN, hrow2, hNl, hij, hvb2, h', hop⟩
            replace hN : exprT T f (at_ + 1 + 1) exM (deep + 1) = .ok N j := hN
            have erow : (L ++ [X2]) ++ N.map (plE T) = L ++ X2 :: N.map (plE T) := by simp
            rw [erow] at hrow2
            rw [List.length_append, List.length_singleton] at hNl
            replace h := h'
            replace hC4 := hop.blk hC4 (fun hF => by rcases hF with hF | hF; omega; exact hcr hF)
            replace hq := hq.trans' hop (fun _ h => h) (fun k hk hF => hF.imp id (fun he => (hb81 k he).resolve_right (by omega)))
            have hvb : ∀ k, v85.ownBlock = some k → v.ownBlock = some k ∨ c4 ≤ k := fun k hk => by
              rcases hvb2 k hk with h8 | h8
              · exact (hb81 k h8).imp id (fun h9 => by omega)
              · exact .inr (by omega)
            obtain ⟨g2, cap2, rfl, hgb3⟩ := own_some hrow2 (by simp only [List.length_append, List.length_cons]; omega)
            have hg2p : ¬ g2 = p := fun he => own_off hrow2 h.cell (by decide) (by rw [he]; rfl)
            have hg2c : ¬ g2 = c4 := fun he => own_off hrow2 hC4 (by decide) (by rw [he]; rfl)
            have hg2r : p < g2 := by have := (hrow2.lt g2 rfl).1; have := h.hp; omega
            have hjl := h.le
            refine WL.c rfl (o_ash (by first | exact (show _ = Value.slice _ _ _ from rfl) | exact rfl) ?_)
            refine WL.nil ?_
            refine W.seq ?_
            refine W.region ?_
            refine WL.c rfl (o_ld TI75 rfl h4 (cell_of hC4 rfl) ?_)
            refine WL.cx rfl (ox_call Try.call36 (lc rfl (lc rfl ln)) ((mark_spec B0 p lv T fin j _ h [44]).mono ?_ (fun ch w' hh => by obtain ⟨e, j, h1, h2, h3⟩ := hh; exact ⟨e, j, by rw [hXV, hw1, Pr.bind_ok, hN, Pr.bind_ok, h1]; rfl, h2, hq.ext h3⟩)))
            rintro v87 w87 ⟨hw2, h', hop⟩
            replace h := h'
            replace hC4 := hop.blk hC4 (show ¬ c4 = p by omega)
            replace hrow2 := own_only hrow2 hop (fun k hk he => by obtain rfl := ob hk; exact hg2p he)
            replace hq := hq.trans' hop (fun _ h => h) (fun _ _ h => .inl h)
            refine WL.nil ?_
            refine W.seq ?_
            refine W.region ?_
            refine WL.c rfl (o_mvh (by first | exact (show _ = Value.slice _ _ _ from rfl) | exact rfl) ?_)
            refine WL.c rfl (o_mvh h12 ?_)
            refine WL.c rfl (o_ld TI75 rfl h4 (cell_of hC4 rfl) ?_)
            refine WL.cx rfl (ox_call Try.call58 (lc rfl ln) ((nump_spec B0 p lv T fin (j + 1) _ h).mono ?_ (fun ch w' hh => by obtain ⟨e, j, h1, h2, h3⟩ := hh; exact ⟨e, j, by rw [hXV, hw1, Pr.bind_ok, hN, Pr.bind_ok, hw2, Pr.bind_ok, h1]; rfl, h2, hq.ext h3⟩)))
            rintro v91 w91 ⟨nn, hw3, rfl, h', hop⟩
            replace h := h'
            replace hC4 := hop.blk hC4 (show ¬ c4 = p by omega)
            replace hrow2 := own_only hrow2 hop (fun k hk he => by obtain rfl := ob hk; exact hg2p he)
            replace hq := hq.trans' hop (fun _ h => h) (fun _ _ h => .inl h)
            refine WL.c rfl (o_ixB (i := L.length) TI38 TI30 (show _ = Value.slice (some ⟨g2, 0, none⟩) (L ++ X2 :: N.map (plE T)).length cap2 from rfl) (by first | rfl | exact h12) (by simp only [List.length_append, List.length_cons]; omega) ?_)
            refine WL.c rfl (o_fa 1 TI30 rfl TI3 rfl rfl ?_)
            refine WL.u (o_stRj (i := L.length * 7 + 1) TI3 rfl (by omega) (show _ = Value.int .i64 (nn : Int) from rfl) rfl hrow2 rfl (by simp only [List.length_append, List.length_cons]; omega) ?_)
            intro w93 hrow3 ho93 hs93
            rw [exs_setN] at hrow3
            clear hrow2
            have hrow2 : RowE w93 B0 (.slice (some ⟨g2, 0, none⟩) (L ++ X2 :: N.map (plE T)).length cap2) (L ++ X2.wn (nn : Int) :: N.map (plE T)) := by
              show World.ownsRow _ _ _ _ _ (L ++ X2.wn (nn : Int) :: N.map (plE T)).length _
              rw [show (L ++ X2.wn (nn : Int) :: N.map (plE T)).length = (L ++ X2 :: N.map (plE T)).length by simp only [List.length_append, List.length_cons]]
              exact hrow3
            clear hrow3
            replace h := h.keep ho93 (fun k hk => by obtain rfl := ob hk; exact hg2r)
            replace hC4 := ho93.blk hC4 (fun hk => hg2c (ob hk))
            replace hq := hq.trans' ho93 (fun _ h => h) (fun k hk hF => .inr ((hvb k hF).resolve_right (by omega)))
            refine WL.nil ?_
            refine W.region ?_
            refine WL.c rfl (o_ld TI75 rfl h4 (cell_of hC4 rfl) ?_)
            refine WL.cx rfl (ox_call Try.call36 (lc rfl (lc rfl ln)) ((mark_spec B0 p lv T fin (j + 1 + 1) _ h [62]).mono ?_ (fun ch w' hh => by obtain ⟨e, j, h1, h2, h3⟩ := hh; exact ⟨e, j, by rw [hXV, hw1, Pr.bind_ok, hN, Pr.bind_ok, hw2, Pr.bind_ok, hw3, Pr.bind_ok, h1]; rfl, h2, hq.ext h3⟩)))
            rintro v95 w95 ⟨hw4, h', hop⟩
            replace h := h'
            replace hC4 := hop.blk hC4 (show ¬ c4 = p by omega)
            replace hrow2 := own_only hrow2 hop (fun k hk he => by obtain rfl := ob hk; exact hg2p he)
            replace hq := hq.trans' hop (fun _ h => h) (fun _ _ h => .inl h)
            refine WL.nil ?_
            have hfin : exprT T (f + 1) at_ x deep = .ok ((atE at_ x).vec (decide ((tkA T at_).text = [108, 105, 115, 116])) nn :: N) (j + 1 + 1 + 1) ∧ RowE w95 B0 (.slice (some ⟨g2, 0, none⟩) (L ++ X2 :: N.map (plE T)).length cap2) (L ++ ((atE at_ x).vec (decide ((tkA T at_).text = [108, 105, 115, 116])) nn :: N).map (plE T)) ∧ L.length + ((atE at_ x).vec (decide ((tkA T at_).text = [108, 105, 115, 116])) nn :: N).length ≤ j + 1 + 1 + 1 ∧ at_ < j + 1 + 1 + 1 ∧ (∀ k, (Value.slice (some ⟨g2, 0, none⟩) (L ++ X2 :: N.map (plE T)).length cap2).ownBlock = some k → v.ownBlock = some k ∨ c4 ≤ k) ∧ Psr w95 B0 p lv T fin (j + 1 + 1 + 1) ∧ Only (fun k => k = p ∨ v.ownBlock = some k) w0 w95 := by
              refine ⟨by rw [hXV, hw1, Pr.bind_ok, hN, Pr.bind_ok, hw2, Pr.bind_ok, hw3, Pr.bind_ok, hw4]; rfl, ?_, by rw [List.length_cons]; omega, by omega, hvb, h, hq⟩
              rw [List.map_cons, plE_vec, ← hX]
              rw [hX2] at hrow2 ⊢
              exact hrow2
            exact ⟨_, _, _, rfl, hfin⟩
          · try simp only [decide_eq_true_eq, decide_eq_false_iff_not, Bool.not_eq_true', Bool.not_eq_false', Bool.and_eq_true, Bool.or_eq_true, Bool.and_eq_false_iff, Bool.or_eq_false_iff] at c66
            refine W.seq ?_
            have hV : ¬ ((tkA T at_).text = [118, 101, 99, 116, 111, 114] ∨ (tkA T at_).text = [108, 105, 115, 116]) := by simpa using c66
            refine W.region ?_
            refine WL.c rfl (o_eqT h57 rfl ?_)
            refine WL.c rfl (o_ash (show _ = Value.bool _ from rfl) ?_)
            refine WL.nil ?_
            refine W.cond rfl (fun c96 => ?_) (fun c96 => ?_)
            · try simp only [decide_eq_true_eq, decide_eq_false_iff_not, Bool.not_eq_true', Bool.not_eq_false', Bool.and_eq_true, Bool.or_eq_true, Bool.and_eq_false_iff, Bool.or_eq_false_iff] at c96
              refine W.seq ?_
              have hO : (tkA T at_).text = [111, 112, 116, 105, 111, 110] := by simpa using c96
              have hXO : exprT T (f + 1) at_ x deep = ((wantT T (at_ + 1) 3 [60]).bind fun _ j => (exprT T f j exM (deep + 1)).bind fun N j => (wantT T j 3 [62]).bind fun _ j => .ok ((atE at_ x).opt :: N) j) := by
                rw [exprT_s, if_neg hbg, if_neg hdd, hkn]
                exact (if_neg hV).trans (if_pos hO)
              refine W.region ?_
              refine WL.c rfl (o_fa 0 TI30 rfl TI3 rfl h6 ?_)
              refine WL.u (o_stB TI3 rfl (show _ = Value.int _ _ from rfl) rfl hC6 (show 0 < 7 by decide) ?_)
              intro wq hC6' ho6 hs6
              replace h := h.keep ho6 (fun k hk => by omega)
              replace hrow := own_only hrow ho6 (fun k hk he => by have := hvl k hk; omega)
              replace hC4 := ho6.blk hC4 (show ¬ c4 = c6 by omega)
              replace hC9 := ho6.blk hC9 (show ¬ c9 = c6 by omega)
              replace hq := hq.trans' ho6 (fun _ h => h) (fun k hk he => by omega)
              replace hC6 : wq.heap[c6]? = some (.cells (exV { X with kind := 6 }).toArray 30 (0, 0)) := hC6'
              clear hC6' ho6 hs6
              refine WL.c rfl (o_fa 5 TI30 rfl TI3 rfl h6 ?_)
              refine WL.u (o_stB TI3 rfl (show _ = Value.int _ _ from rfl) rfl hC6 (show 5 < 7 by decide) ?_)
              intro wr hC6' ho6 hs6
              replace h := h.keep ho6 (fun k hk => by omega)
              replace hrow := own_only hrow ho6 (fun k hk he => by have := hvl k hk; omega)
              replace hC4 := ho6.blk hC4 (show ¬ c4 = c6 by omega)
              replace hC9 := ho6.blk hC9 (show ¬ c9 = c6 by omega)
              replace hq := hq.trans' ho6 (fun _ h => h) (fun k hk he => by omega)
              replace hC6 : wr.heap[c6]? = some (.cells (exV X.opt).toArray 30 (0, 0)) := hC6'
              clear hC6' ho6 hs6
              refine WL.nil ?_
              refine W.seq ?_
              refine W.region ?_
              refine WL.c rfl (o_ld TI75 rfl h4 (cell_of hC4 rfl) ?_)
              refine WL.cx rfl (ox_call Try.call36 (lc rfl (lc rfl ln)) ((mark_spec B0 p lv T fin (at_ + 1) _ h [60]).mono ?_ (fun ch w' hh => by obtain ⟨e, j, h1, h2, h3⟩ := hh; exact ⟨e, j, by rw [hXO, h1]; rfl, h2, hq.ext h3⟩)))
              rintro v101 w101 ⟨hw1, h', hop⟩
              replace h := h'
              replace hrow := own_only hrow hop (fun k hk he => by subst he; exact hvp hk)
              replace hC4 := hop.blk hC4 (show ¬ c4 = p by omega)
              replace hC6 := hop.blk hC6 (show ¬ c6 = p by omega)
              replace hC9 := hop.blk hC9 (show ¬ c9 = p by omega)
              replace hq := hq.trans' hop (fun _ h => h) (fun _ _ h => .inl h)
              refine WL.nil ?_
              refine W.seq ?_
              obtain ⟨wd, hwd⟩ : ∃ wd, wd = w101.drew := ⟨_, rfl⟩
              have hxd : Ext w101 wd := hwd ▸ Only.drew w101
              replace h := h.ext hxd
              replace hrow := own_ext hrow hxd
              replace hC4 := hxd.blk hC4 (fun h => h)
              replace hC6 := hxd.blk hC6 (fun h => h)
              replace hC9 := hxd.blk hC9 (fun h => h)
              replace hq := hq.ext hxd
              obtain ⟨X2, hX2⟩ : ∃ X2, X2 = X.opt := ⟨_, rfl⟩
              rw [← hX2] at hC6
              have hvd : ∀ k, v.ownBlock = some k → k < wd.heap.size := fun k hk => (hrow.lt k hk).2
              have hwd0 := hq.size
              refine W.drawF 8 [4] [fun k => v.ownBlock = some k] [(1, fun v _ => v = _), (3, fun v _ => v = _), (4, fun v _ => v = _), (6, fun v _ => v = _), (12, fun v _ => v = _)] rfl (by kernel_rfl) (by kernel_rfl) ⟨Mono.eq, Mono.eq, Mono.eq, Mono.eq, Mono.eq, trivial⟩ ⟨h1, h3, h4, h6, h12, trivial⟩ ?_
              refine WDS.p rfl (by decide) (fun e w hR hh => by obtain ⟨h4, -⟩ := hh; rw [← hwd] at hR; have hc := hR.blk hC4 (fun hF => by rcases hF with hF | hF; have := hvl _ hF; omega; exact hF); exact SG.n (o_ld TI75 rfl h4 (cell_of hc rfl) ⟨rfl, Only.refl No _⟩)) ?_
              refine WDS.p rfl (by decide) (fun e w hR hh => by obtain ⟨h1, -⟩ := hh; exact SG.n (o_mvh h1 ⟨rfl, Only.refl No _⟩)) ?_
              refine WDS.p rfl (by decide) (fun e w hR hh => by obtain ⟨h6, -⟩ := hh; rw [← hwd] at hR; have hc := hR.blk hC6 (fun hF => by rcases hF with hF | hF; have := hvl _ hF; omega; exact hF); exact SG.n (o_ldA TI30 rfl h6 (show Cells _ c6 0 (exV X2) from Cells.of hc 0 _ (by simp)) rfl ⟨rfl, Only.refl No _⟩)) ?_
              refine WDS.q 0 (fun u w => w.ownsRow wd.heap.size 30 7 u 1 (exV X2)) (fun u w w2 hR hh => own_only hh hR (fun k hk hF => by rcases hF with hF | hF; have := hvd k hF; have := (hh.lt k hk).1; omega; exact hF)) (by kernel_rfl) rfl (by decide) (fun e w hR hh => by obtain ⟨h104, -⟩ := hh; rw [← hwd] at hR; exact SG.n (o_bs1 TI38 TI30 h104 (by decide) (by decide) rfl ⟨own_mono (own_new1 rfl) hR.size, Only.alloc w _⟩)) ?_
              refine WDS.mf 0 1 (fun u w => RowE w B0 u (L ++ [X2]) ∧ ∀ k, u.ownBlock = some k → v.ownBlock = some k ∨ wd.heap.size ≤ k) (fun u w w2 hR hh => ⟨own_ext hh.1 hR, hh.2⟩) (by kernel_rfl) rfl rfl rfl (fun e w hR hW hh => by obtain ⟨h105, h103, -⟩ := hh; rw [← hwd] at hR hW; have hrow4 := own_only hrow hW (fun k hk hF => hF); have hb0 := h.b0; have hws := hW.size; exact SGX.n (OP.x (o_apO B0 TI38 TI30 h103 rfl hrow4 (Sl.own h105) rfl (by decide) (exV_one (y := X2)) (by rw [maxLen_eq]; omega) (by omega) (by omega) (fun v' w' h1 h2 h3 _ => ⟨⟨RowE.snoc h1, fun k hk => by rcases h3 with h3 | h3; exact .inl (by rw [← h3]; exact hk); rw [h3, Option.some.injEq] at hk; have := hW.size; omega⟩, h2⟩)))) ?_
              refine WDS.p rfl (by decide) (fun e w hR hh => by skip; exact SG.n (o_bldC (cs := [(.int .i64 0), (.int .i64 0), (.string ⟨#[]⟩), (.string ⟨#[]⟩), (.int .i64 0), (.int .i64 0), (.int .i64 (-1))]) TI30 (Sizes.cons TI3 (Sizes.cons TI3 (Sizes.cons TI9 (Sizes.cons TI9 (Sizes.cons TI3 (Sizes.cons TI3 (Sizes.cons TI3 Sizes.nil))))))) rfl (lcp (show _ = Value.int _ _ from rfl) lnp) rfl rfl ⟨rfl, Only.refl No _⟩)) ?_
              refine WDS.p rfl (by decide) (fun e w hR hh => by obtain ⟨h3, -⟩ := hh; exact SG.n (o_mvh h3 ⟨rfl, Only.refl No _⟩)) ?_
              refine WDS.p rfl (by decide) (fun e w hR hh => by obtain ⟨h108, -⟩ := hh; exact SG.n (o_addi h108 rfl (by omega) ⟨rfl, Only.refl No _⟩)) ?_
              rintro e w hR ⟨h109, h108, h107, h106, h105, h104, h103, h102, h1, h3, h4, h6, h12, -⟩
              rw [← hwd] at hR
              obtain ⟨hr81, hb81⟩ := h106
              replace h := h.keep hR (fun k hF => by rcases hF with hF | hF; have := (hrow.lt k hF).1; omega; exact hF.elim)
              replace hC4 := hR.blk hC4 (fun hF => by rcases hF with hF | hF; have := hvl _ hF; omega; exact hF)
              replace hC9 := hR.blk hC9 (fun hF => by rcases hF with hF | hF; have := hvl _ hF; omega; exact hF)
              replace hq := hq.trans' hR (fun _ h => h) (fun k hk hF => by rcases hF with hF | hF; exact .inr hF; exact hF.elim)
              have hsz8 := hR.size
              have hE2 := hE (by omega) (at_ + 2) (by omega) (at_ + 1 + 1) exM (L ++ [X2]) (e 106) _ (Nat.le_refl _) rfl h hr81 (by rw [List.length_append, List.length_singleton]; omega)
              rw [plE_exM, show ((deep + 1 : Nat) : Int) = (deep : Int) + 1 by omega] at hE2
              have hpr : ¬ (e 106).ownBlock = some p := own_off hr81 h.cell (by decide)
              have hcr : ¬ (e 106).ownBlock = some c4 := own_off hr81 hC4 (by decide)
              refine WL.cx rfl (ox_call Try.call37 (lc h102 (lc rfl (lc h107 (lc h109 ln)))) ((hE2).mono ?_ (fun ch w' hh => by obtain ⟨e, j, h1, h2, h3⟩ := hh; replace h1 : exprT T f (at_ + 1 + 1) exM (deep + 1) = .bad e j := h1; exact ⟨e, j, by rw [hXO, hw1, Pr.bind_ok, h1]; rfl, h2, hq.trans' h3 (fun _ h => h) (fun k hk hF => hF.imp id (fun he => (hb81 k he).resolve_right (by omega)))⟩)))
              rintro v110 w110 ⟨N, j, hN, hrow2, hNl, hij, hvb2, h', hop⟩
              replace hN : exprT T f (at_ + 1 + 1) exM (deep + 1) = .ok N j := hN
              have erow : (L ++ [X2]) ++ N.map (plE T) = L ++ X2 :: N.map (plE T) := by simp
              rw [erow] at hrow2
              rw [List.length_append, List.length_singleton] at hNl
              replace h := h'
              replace hC4 := hop.blk hC4 (fun hF => by rcases hF with hF | hF; omega; exact hcr hF)
              replace hq := hq.trans' hop (fun _ h => h) (fun k hk hF => hF.imp id (fun he => (hb81 k he).resolve_right (by omega)))
              have hvb : ∀ k, v110.ownBlock = some k → v.ownBlock = some k ∨ c4 ≤ k := fun k hk => by
                rcases hvb2 k hk with h8 | h8
                · exact (hb81 k h8).imp id (fun h9 => by omega)
                · exact .inr (by omega)
              obtain ⟨g2, cap2, rfl, hgb3⟩ := own_some hrow2 (by simp only [List.length_append, List.length_cons]; omega)
              have hg2p : ¬ g2 = p := fun he => own_off hrow2 h.cell (by decide) (by rw [he]; rfl)
              have hg2c : ¬ g2 = c4 := fun he => own_off hrow2 hC4 (by decide) (by rw [he]; rfl)
              have hg2r : p < g2 := by have := (hrow2.lt g2 rfl).1; have := h.hp; omega
              have hjl := h.le
              refine WL.c rfl (o_ash (by first | exact (show _ = Value.slice _ _ _ from rfl) | exact rfl) ?_)
              refine WL.nil ?_
              refine W.region ?_
              refine WL.c rfl (o_ld TI75 rfl h4 (cell_of hC4 rfl) ?_)
              refine WL.cx rfl (ox_call Try.call36 (lc rfl (lc rfl ln)) ((mark_spec B0 p lv T fin j _ h [62]).mono ?_ (fun ch w' hh => by obtain ⟨e, j, h1, h2, h3⟩ := hh; exact ⟨e, j, by rw [hXO, hw1, Pr.bind_ok, hN, Pr.bind_ok, h1]; rfl, h2, hq.ext h3⟩)))
              rintro v112 w112 ⟨hw2, h', hop⟩
              replace h := h'
              replace hC4 := hop.blk hC4 (show ¬ c4 = p by omega)
              replace hrow2 := own_only hrow2 hop (fun k hk he => by obtain rfl := ob hk; exact hg2p he)
              replace hq := hq.trans' hop (fun _ h => h) (fun _ _ h => .inl h)
              refine WL.nil ?_
              have hfin : exprT T (f + 1) at_ x deep = .ok ((atE at_ x).opt :: N) (j + 1) ∧ RowE w112 B0 (.slice (some ⟨g2, 0, none⟩) (L ++ X2 :: N.map (plE T)).length cap2) (L ++ ((atE at_ x).opt :: N).map (plE T)) ∧ L.length + ((atE at_ x).opt :: N).length ≤ j + 1 ∧ at_ < j + 1 ∧ (∀ k, (Value.slice (some ⟨g2, 0, none⟩) (L ++ X2 :: N.map (plE T)).length cap2).ownBlock = some k → v.ownBlock = some k ∨ c4 ≤ k) ∧ Psr w112 B0 p lv T fin (j + 1) ∧ Only (fun k => k = p ∨ v.ownBlock = some k) w0 w112 := by
                refine ⟨by rw [hXO, hw1, Pr.bind_ok, hN, Pr.bind_ok, hw2]; rfl, ?_, by rw [List.length_cons]; omega, by omega, hvb, h, hq⟩
                rw [List.map_cons, plE_opt, ← hX]
                rw [hX2] at hrow2 ⊢
                exact hrow2
              exact ⟨_, _, _, rfl, hfin⟩
            · try simp only [decide_eq_true_eq, decide_eq_false_iff_not, Bool.not_eq_true', Bool.not_eq_false', Bool.and_eq_true, Bool.or_eq_true, Bool.and_eq_false_iff, Bool.or_eq_false_iff] at c96
              refine W.seq ?_
              have hO : ¬ (tkA T at_).text = [111, 112, 116, 105, 111, 110] := by simpa using c96
              refine W.region ?_
              refine WL.c rfl (o_eqT h57 rfl ?_)
              refine WL.c rfl (o_ash (show _ = Value.bool _ from rfl) ?_)
              refine WL.nil ?_
              refine W.cond rfl (fun c113 => ?_) (fun c113 => ?_)
              · try simp only [decide_eq_true_eq, decide_eq_false_iff_not, Bool.not_eq_true', Bool.not_eq_false', Bool.and_eq_true, Bool.or_eq_true, Bool.and_eq_false_iff, Bool.or_eq_false_iff] at c113
                refine W.seq ?_
                have hU : (tkA T at_).text = [117, 110, 105, 111, 110] := by simpa using c113
                have hXR : exprT T (f + 1) at_ x deep = (((wantT T (at_ + 1) 3 [123]).bind fun _ j => rowsT (fun i x => exprT T f i x (deep + 1)) T true f j 0).bind fun r j => .ok ((atE at_ x).br true (r.2 : Nat) :: r.1) j) := by
                  rw [exprT_s, if_neg hbg, if_neg hdd, hkn]
                  exact (if_neg hV).trans ((if_neg hO).trans (if_pos hU))
                refine W.region ?_
                refine WL.c rfl (o_fa 0 TI30 rfl TI3 rfl h6 ?_)
                refine WL.u (o_stB TI3 rfl (show _ = Value.int _ _ from rfl) rfl hC6 (show 0 < 7 by decide) ?_)
                intro wq hC6' ho6 hs6
                replace h := h.keep ho6 (fun k hk => by omega)
                replace hrow := own_only hrow ho6 (fun k hk he => by have := hvl k hk; omega)
                replace hC4 := ho6.blk hC4 (show ¬ c4 = c6 by omega)
                replace hC9 := ho6.blk hC9 (show ¬ c9 = c6 by omega)
                replace hq := hq.trans' ho6 (fun _ h => h) (fun k hk he => by omega)
                replace hC6 : wq.heap[c6]? = some (.cells (exV { X with kind := 7 }).toArray 30 (0, 0)) := hC6'
                clear hC6' ho6 hs6
                have hX6 : ({ X with kind := 7 } : Ex) = X.br true 0 := by show _ = ({ X with kind := _, kids := 0 } : Ex); rw [← hXk]; rfl
                rw [hX6] at hC6
                refine WL.nil ?_
                obtain ⟨wd, hwd⟩ : ∃ wd, wd = wq.drew := ⟨_, rfl⟩
                have hxd : Ext wq wd := hwd ▸ Only.drew wq
                replace h := h.ext hxd
                replace hrow := own_ext hrow hxd
                replace hC4 := hxd.blk hC4 (fun h => h)
                replace hC6 := hxd.blk hC6 (fun h => h)
                replace hC9 := hxd.blk hC9 (fun h => h)
                replace hq := hq.ext hxd
                obtain ⟨X2, hX2⟩ : ∃ X2, X2 = (X.br true 0) := ⟨_, rfl⟩
                rw [← hX2] at hC6
                have hvd : ∀ k, v.ownBlock = some k → k < wd.heap.size := fun k hk => (hrow.lt k hk).2
                have hwd0 := hq.size
                refine W.drawF 8 [4] [fun k => v.ownBlock = some k] [(1, fun v _ => v = _), (3, fun v _ => v = _), (4, fun v _ => v = _), (6, fun v _ => v = _), (12, fun v _ => v = _)] rfl (by kernel_rfl) (by kernel_rfl) ⟨Mono.eq, Mono.eq, Mono.eq, Mono.eq, Mono.eq, trivial⟩ ⟨h1, h3, h4, h6, h12, trivial⟩ ?_
                refine WDS.p rfl (by decide) (fun e w hR hh => by obtain ⟨h4, -⟩ := hh; rw [← hwd] at hR; have hc := hR.blk hC4 (fun hF => by rcases hF with hF | hF; have := hvl _ hF; omega; exact hF); exact SG.n (o_ld TI75 rfl h4 (cell_of hc rfl) ⟨rfl, Only.refl No _⟩)) ?_
                refine WDS.p rfl (by decide) (fun e w hR hh => by obtain ⟨h1, -⟩ := hh; exact SG.n (o_mvh h1 ⟨rfl, Only.refl No _⟩)) ?_
                refine WDS.p rfl (by decide) (fun e w hR hh => by obtain ⟨h6, -⟩ := hh; rw [← hwd] at hR; have hc := hR.blk hC6 (fun hF => by rcases hF with hF | hF; have := hvl _ hF; omega; exact hF); exact SG.n (o_ldA TI30 rfl h6 (show Cells _ c6 0 (exV X2) from Cells.of hc 0 _ (by simp)) rfl ⟨rfl, Only.refl No _⟩)) ?_
                refine WDS.q 0 (fun u w => w.ownsRow wd.heap.size 30 7 u 1 (exV X2)) (fun u w w2 hR hh => own_only hh hR (fun k hk hF => by rcases hF with hF | hF; have := hvd k hF; have := (hh.lt k hk).1; omega; exact hF)) (by kernel_rfl) rfl (by decide) (fun e w hR hh => by obtain ⟨h118, -⟩ := hh; rw [← hwd] at hR; exact SG.n (o_bs1 TI38 TI30 h118 (by decide) (by decide) rfl ⟨own_mono (own_new1 rfl) hR.size, Only.alloc w _⟩)) ?_
                refine WDS.mf 0 1 (fun u w => RowE w B0 u (L ++ [X2]) ∧ ∀ k, u.ownBlock = some k → v.ownBlock = some k ∨ wd.heap.size ≤ k) (fun u w w2 hR hh => ⟨own_ext hh.1 hR, hh.2⟩) (by kernel_rfl) rfl rfl rfl (fun e w hR hW hh => by obtain ⟨h119, h117, -⟩ := hh; rw [← hwd] at hR hW; have hrow4 := own_only hrow hW (fun k hk hF => hF); have hb0 := h.b0; have hws := hW.size; exact SGX.n (OP.x (o_apO B0 TI38 TI30 h117 rfl hrow4 (Sl.own h119) rfl (by decide) (exV_one (y := X2)) (by rw [maxLen_eq]; omega) (by omega) (by omega) (fun v' w' h1 h2 h3 _ => ⟨⟨RowE.snoc h1, fun k hk => by rcases h3 with h3 | h3; exact .inl (by rw [← h3]; exact hk); rw [h3, Option.some.injEq] at hk; have := hW.size; omega⟩, h2⟩)))) ?_
                refine WDS.p rfl (by decide) (fun e w hR hh => by obtain ⟨h12, -⟩ := hh; exact SG.n (o_mvh h12 ⟨rfl, Only.refl No _⟩)) ?_
                refine WDS.p rfl (by decide) (fun e w hR hh => by obtain ⟨h3, -⟩ := hh; exact SG.n (o_mvh h3 ⟨rfl, Only.refl No _⟩)) ?_
                refine WDS.p rfl (by decide) (fun e w hR hh => by obtain ⟨h4, -⟩ := hh; exact SG.n (o_mkF (lc h4 ln) ⟨rfl, Only.refl No _⟩)) ?_
                rintro e w hR ⟨h123, h122, h121, h120, h119, h118, h117, h116, h1, h3, h4, h6, h12, -⟩
                rw [← hwd] at hR
                obtain ⟨hr81, hb81⟩ := h120
                replace h := h.keep hR (fun k hF => by rcases hF with hF | hF; have := (hrow.lt k hF).1; omega; exact hF.elim)
                replace hC4 := hR.blk hC4 (fun hF => by rcases hF with hF | hF; have := hvl _ hF; omega; exact hF)
                replace hC9 := hR.blk hC9 (fun hF => by rcases hF with hF | hF; have := hvl _ hF; omega; exact hF)
                replace hq := hq.trans' hR (fun _ h => h) (fun k hk hF => by rcases hF with hF | hF; exact .inr hF; exact hF.elim)
                have hsz8 := hR.size
                have hpx : plE T ((atE at_ x).br true 0) = X2 := by rw [plE_br, ← hX, hX2]
                have hR2 := rows_spec B0 p c4 lv T fin true 60 Try.call60 (fun bx i full y ww h1 h2 h3 h4 h5 h6 => headu_spec B0 p c4 bx lv T fin i full y ww h1 h2 h3 h4 h5 h6) (fun i x => exprT T f i x (deep + 1)) deep f (at_ + 2) (hE (by omega) (at_ + 2) (by omega)) (by omega) L ((atE at_ x).br true 0) rfl (e 120) (at_ + 1) _ h hC4 (by omega) (by rw [hpx]; exact hr81) (by omega) (by omega) (by omega)
                refine WL.cx rfl (ox_call Try.call59 (lc h116 (lc rfl (lc h121 (lc h122 (lc rfl (lc h123 ln)))))) ((hR2).mono ?_ (fun ch w' hh => by obtain ⟨e, j, h1, h2, h3⟩ := hh; exact ⟨e, j, by rw [hXR, h1]; rfl, h2, hq.trans' h3 (fun _ h => h) (fun k hk hF => hF.imp id (fun he => (hb81 k he).resolve_right (by omega)))⟩)))
                rintro v124 w124 ⟨N, kk, j, hN, hrow2, hNl, hij, hvb2, h', hop⟩
                replace h := h'
                replace hq := hq.trans' hop (fun _ h => h) (fun k hk hF => hF.imp id (fun he => (hb81 k he).resolve_right (by omega)))
                have hvb : ∀ k, v124.ownBlock = some k → v.ownBlock = some k ∨ c4 ≤ k := fun k hk => by
                  rcases hvb2 k hk with h8 | h8
                  · exact (hb81 k h8).imp id (fun h9 => by omega)
                  · exact .inr (by omega)
                refine WL.c rfl (o_ash (by first | exact (show _ = Value.slice _ _ _ from rfl) | exact rfl) ?_)
                refine WL.nil ?_
                have hfin : exprT T (f + 1) at_ x deep = .ok ((atE at_ x).br true (kk : Int) :: N) j ∧ RowE w124 B0 v124 (L ++ ((atE at_ x).br true (kk : Int) :: N).map (plE T)) ∧ L.length + ((atE at_ x).br true (kk : Int) :: N).length ≤ j ∧ at_ < j ∧ (∀ k, v124.ownBlock = some k → v.ownBlock = some k ∨ c4 ≤ k) ∧ Psr w124 B0 p lv T fin j ∧ Only (fun k => k = p ∨ v.ownBlock = some k) w0 w124 := by
                  refine ⟨by rw [hXR, hN]; rfl, ?_, by rw [List.length_cons]; omega, by omega, hvb, h, hq⟩
                  rw [plE_br, ← hX] at hrow2
                  rw [List.map_cons, plE_br, ← hX]
                  exact hrow2
                exact ⟨_, _, _, rfl, hfin⟩
              · try simp only [decide_eq_true_eq, decide_eq_false_iff_not, Bool.not_eq_true', Bool.not_eq_false', Bool.and_eq_true, Bool.or_eq_true, Bool.and_eq_false_iff, Bool.or_eq_false_iff] at c113
                refine W.seq ?_
                have hU1 : ¬ (tkA T at_).text = [117, 110, 105, 111, 110] := by simpa using c113
                refine W.region ?_
                refine WL.c rfl (o_eqT h57 rfl ?_)
                refine WL.c rfl (o_ash (show _ = Value.bool _ from rfl) ?_)
                refine WL.nil ?_
                refine W.cond rfl (fun c125 => ?_) (fun c125 => ?_)
                · try simp only [decide_eq_true_eq, decide_eq_false_iff_not, Bool.not_eq_true', Bool.not_eq_false', Bool.and_eq_true, Bool.or_eq_true, Bool.and_eq_false_iff, Bool.or_eq_false_iff] at c125
                  refine W.seq ?_
                  have hU : (tkA T at_).text = [115, 116, 114, 117, 99, 116] := by simpa using c125
                  have hXR : exprT T (f + 1) at_ x deep = (((wantT T (at_ + 1) 3 [123]).bind fun _ j => rowsT (fun i x => exprT T f i x (deep + 1)) T false f j 0).bind fun r j => .ok ((atE at_ x).br false (r.2 : Nat) :: r.1) j) := by
                    rw [exprT_s, if_neg hbg, if_neg hdd, hkn]
                    exact (if_neg hV).trans ((if_neg hO).trans ((if_neg hU1).trans (if_pos hU)))
                  refine W.region ?_
                  refine WL.c rfl (o_fa 0 TI30 rfl TI3 rfl h6 ?_)
                  refine WL.u (o_stB TI3 rfl (show _ = Value.int _ _ from rfl) rfl hC6 (show 0 < 7 by decide) ?_)
                  intro wq hC6' ho6 hs6
                  replace h := h.keep ho6 (fun k hk => by omega)
                  replace hrow := own_only hrow ho6 (fun k hk he => by have := hvl k hk; omega)
                  replace hC4 := ho6.blk hC4 (show ¬ c4 = c6 by omega)
                  replace hC9 := ho6.blk hC9 (show ¬ c9 = c6 by omega)
                  replace hq := hq.trans' ho6 (fun _ h => h) (fun k hk he => by omega)
                  replace hC6 : wq.heap[c6]? = some (.cells (exV { X with kind := 8 }).toArray 30 (0, 0)) := hC6'
                  clear hC6' ho6 hs6
                  have hX6 : ({ X with kind := 8 } : Ex) = X.br false 0 := by show _ = ({ X with kind := _, kids := 0 } : Ex); rw [← hXk]; rfl
                  rw [hX6] at hC6
                  refine WL.nil ?_
                  obtain ⟨wd, hwd⟩ : ∃ wd, wd = wq.drew := ⟨_, rfl⟩
                  have hxd : Ext wq wd := hwd ▸ Only.drew wq
                  replace h := h.ext hxd
                  replace hrow := own_ext hrow hxd
                  replace hC4 := hxd.blk hC4 (fun h => h)
                  replace hC6 := hxd.blk hC6 (fun h => h)
                  replace hC9 := hxd.blk hC9 (fun h => h)
                  replace hq := hq.ext hxd
                  obtain ⟨X2, hX2⟩ : ∃ X2, X2 = (X.br false 0) := ⟨_, rfl⟩
                  rw [← hX2] at hC6
                  have hvd : ∀ k, v.ownBlock = some k → k < wd.heap.size := fun k hk => (hrow.lt k hk).2
                  have hwd0 := hq.size
                  refine W.drawF 8 [4] [fun k => v.ownBlock = some k] [(1, fun v _ => v = _), (3, fun v _ => v = _), (4, fun v _ => v = _), (6, fun v _ => v = _), (12, fun v _ => v = _)] rfl (by kernel_rfl) (by kernel_rfl) ⟨Mono.eq, Mono.eq, Mono.eq, Mono.eq, Mono.eq, trivial⟩ ⟨h1, h3, h4, h6, h12, trivial⟩ ?_
                  refine WDS.p rfl (by decide) (fun e w hR hh => by obtain ⟨h4, -⟩ := hh; rw [← hwd] at hR; have hc := hR.blk hC4 (fun hF => by rcases hF with hF | hF; have := hvl _ hF; omega; exact hF); exact SG.n (o_ld TI75 rfl h4 (cell_of hc rfl) ⟨rfl, Only.refl No _⟩)) ?_
                  refine WDS.p rfl (by decide) (fun e w hR hh => by obtain ⟨h1, -⟩ := hh; exact SG.n (o_mvh h1 ⟨rfl, Only.refl No _⟩)) ?_
                  refine WDS.p rfl (by decide) (fun e w hR hh => by obtain ⟨h6, -⟩ := hh; rw [← hwd] at hR; have hc := hR.blk hC6 (fun hF => by rcases hF with hF | hF; have := hvl _ hF; omega; exact hF); exact SG.n (o_ldA TI30 rfl h6 (show Cells _ c6 0 (exV X2) from Cells.of hc 0 _ (by simp)) rfl ⟨rfl, Only.refl No _⟩)) ?_
                  refine WDS.q 0 (fun u w => w.ownsRow wd.heap.size 30 7 u 1 (exV X2)) (fun u w w2 hR hh => own_only hh hR (fun k hk hF => by rcases hF with hF | hF; have := hvd k hF; have := (hh.lt k hk).1; omega; exact hF)) (by kernel_rfl) rfl (by decide) (fun e w hR hh => by obtain ⟨h130, -⟩ := hh; rw [← hwd] at hR; exact SG.n (o_bs1 TI38 TI30 h130 (by decide) (by decide) rfl ⟨own_mono (own_new1 rfl) hR.size, Only.alloc w _⟩)) ?_
                  refine WDS.mf 0 1 (fun u w => RowE w B0 u (L ++ [X2]) ∧ ∀ k, u.ownBlock = some k → v.ownBlock = some k ∨ wd.heap.size ≤ k) (fun u w w2 hR hh => ⟨own_ext hh.1 hR, hh.2⟩) (by kernel_rfl) rfl rfl rfl (fun e w hR hW hh => by obtain ⟨h131, h129, -⟩ := hh; rw [← hwd] at hR hW; have hrow4 := own_only hrow hW (fun k hk hF => hF); have hb0 := h.b0; have hws := hW.size; exact SGX.n (OP.x (o_apO B0 TI38 TI30 h129 rfl hrow4 (Sl.own h131) rfl (by decide) (exV_one (y := X2)) (by rw [maxLen_eq]; omega) (by omega) (by omega) (fun v' w' h1 h2 h3 _ => ⟨⟨RowE.snoc h1, fun k hk => by rcases h3 with h3 | h3; exact .inl (by rw [← h3]; exact hk); rw [h3, Option.some.injEq] at hk; have := hW.size; omega⟩, h2⟩)))) ?_
                  refine WDS.p rfl (by decide) (fun e w hR hh => by obtain ⟨h12, -⟩ := hh; exact SG.n (o_mvh h12 ⟨rfl, Only.refl No _⟩)) ?_
                  refine WDS.p rfl (by decide) (fun e w hR hh => by obtain ⟨h3, -⟩ := hh; exact SG.n (o_mvh h3 ⟨rfl, Only.refl No _⟩)) ?_
                  refine WDS.p rfl (by decide) (fun e w hR hh => by obtain ⟨h4, -⟩ := hh; exact SG.n (o_mkF (lc h4 ln) ⟨rfl, Only.refl No _⟩)) ?_
                  rintro e w hR ⟨h135, h134, h133, h132, h131, h130, h129, h128, h1, h3, h4, h6, h12, -⟩
                  rw [← hwd] at hR
                  obtain ⟨hr81, hb81⟩ := h132
                  replace h := h.keep hR (fun k hF => by rcases hF with hF | hF; have := (hrow.lt k hF).1; omega; exact hF.elim)
                  replace hC4 := hR.blk hC4 (fun hF => by rcases hF with hF | hF; have := hvl _ hF; omega; exact hF)
                  replace hC9 := hR.blk hC9 (fun hF => by rcases hF with hF | hF; have := hvl _ hF; omega; exact hF)
                  replace hq := hq.trans' hR (fun _ h => h) (fun k hk hF => by rcases hF with hF | hF; exact .inr hF; exact hF.elim)
                  have hsz8 := hR.size
                  have hpx : plE T ((atE at_ x).br false 0) = X2 := by rw [plE_br, ← hX, hX2]
                  have hR2 := rows_spec B0 p c4 lv T fin false 61 Try.call61 (fun bx i full y ww h1 h2 h3 h4 h5 h6 => heads_spec B0 p c4 bx lv T fin i full y ww h1 h2 h3 h4 h5 h6 hln) (fun i x => exprT T f i x (deep + 1)) deep f (at_ + 2) (hE (by omega) (at_ + 2) (by omega)) (by omega) L ((atE at_ x).br false 0) rfl (e 132) (at_ + 1) _ h hC4 (by omega) (by rw [hpx]; exact hr81) (by omega) (by omega) (by omega)
                  refine WL.cx rfl (ox_call Try.call59 (lc h128 (lc rfl (lc h133 (lc h134 (lc rfl (lc h135 ln)))))) ((hR2).mono ?_ (fun ch w' hh => by obtain ⟨e, j, h1, h2, h3⟩ := hh; exact ⟨e, j, by rw [hXR, h1]; rfl, h2, hq.trans' h3 (fun _ h => h) (fun k hk hF => hF.imp id (fun he => (hb81 k he).resolve_right (by omega)))⟩)))
                  rintro v136 w136 ⟨N, kk, j, hN, hrow2, hNl, hij, hvb2, h', hop⟩
                  replace h := h'
                  replace hq := hq.trans' hop (fun _ h => h) (fun k hk hF => hF.imp id (fun he => (hb81 k he).resolve_right (by omega)))
                  have hvb : ∀ k, v136.ownBlock = some k → v.ownBlock = some k ∨ c4 ≤ k := fun k hk => by
                    rcases hvb2 k hk with h8 | h8
                    · exact (hb81 k h8).imp id (fun h9 => by omega)
                    · exact .inr (by omega)
                  refine WL.c rfl (o_ash (by first | exact (show _ = Value.slice _ _ _ from rfl) | exact rfl) ?_)
                  refine WL.nil ?_
                  have hfin : exprT T (f + 1) at_ x deep = .ok ((atE at_ x).br false (kk : Int) :: N) j ∧ RowE w136 B0 v136 (L ++ ((atE at_ x).br false (kk : Int) :: N).map (plE T)) ∧ L.length + ((atE at_ x).br false (kk : Int) :: N).length ≤ j ∧ at_ < j ∧ (∀ k, v136.ownBlock = some k → v.ownBlock = some k ∨ c4 ≤ k) ∧ Psr w136 B0 p lv T fin j ∧ Only (fun k => k = p ∨ v.ownBlock = some k) w0 w136 := by
                    refine ⟨by rw [hXR, hN]; rfl, ?_, by rw [List.length_cons]; omega, by omega, hvb, h, hq⟩
                    rw [plE_br, ← hX] at hrow2
                    rw [List.map_cons, plE_br, ← hX]
                    exact hrow2
                  exact ⟨_, _, _, rfl, hfin⟩
                · try simp only [decide_eq_true_eq, decide_eq_false_iff_not, Bool.not_eq_true', Bool.not_eq_false', Bool.and_eq_true, Bool.or_eq_true, Bool.and_eq_false_iff, Bool.or_eq_false_iff] at c125
                  refine W.seq ?_
                  refine W.cut (fun e1 w1 => Psr w1 B0 p lv T fin (at_ + 1) ∧ RowE w1 B0 v L ∧ w1.heap[c4]? = some (.cells #[.pointer (some ⟨p, 0, none⟩)] 75 (0, 0)) ∧ w1.heap[c6]? = some (.cells (exV (X.nm (tkA T at_).text)).toArray 30 (0, 0)) ∧ w1.heap[c9]? = some (.cells (tokV (tkA T at_)) 58 (0, 0)) ∧ Only (fun k => k = p ∨ v.ownBlock = some k) w0 w1 ∧ e1 1 = v ∧ e1 3 = .int .i64 (deep : Int) ∧ e1 4 = .pointer (some ⟨c4, 0, none⟩) ∧ e1 6 = .pointer (some ⟨c6, 0, none⟩) ∧ e1 9 = .pointer (some ⟨c9, 0, none⟩)) ?_ ?_
                  · -- region 15
                    refine W.enum rfl ?_
                    have hd := Only.drew w
                    replace h := h.ext hd
                    replace hrow := own_ext hrow hd
                    replace hC4 := hd.blk hC4 (fun h => h)
                    replace hC6 := hd.blk hC6 (fun h => h)
                    replace hC9 := hd.blk hC9 (fun h => h)
                    replace hq := hq.ext hd
                    clear hd
                    generalize w.drew = wd at *
                    have hU2 : ¬ (tkA T at_).text = [115, 116, 114, 117, 99, 116] := by simpa using c125
                    refine WA.step (r := [0, 2]) (by kernel_rfl) (by decide) (all2 ?_ ?_)
                    · skip
                      refine WO.c rfl rfl (o_fa 1 TI58 rfl TI9 rfl h9 ?_)
                      refine WA.step (r := [1, 2]) (by kernel_rfl) (by decide) (all2 ?_ ?_)
                      · skip
                        refine WO.c rfl rfl (o_ld TI9 rfl rfl (cell_of hC9 rfl) ?_)
                        refine WA.step (r := [2]) (by kernel_rfl) (by decide) (all1 ?_)
                        refine WO.c rfl rfl (o_fa 0 TI30 rfl TI3 rfl h6 ?_)
                        refine WA.step (r := [3]) (by kernel_rfl) (by decide) (all1 ?_)
                        refine WO.u rfl (o_stB TI3 rfl (show _ = Value.int _ _ from rfl) rfl hC6 (show 0 < 7 by decide) ?_)
                        intro wk hC6' ho6 hs6
                        replace h := h.keep ho6 (fun k hk => by omega)
                        replace hrow := own_only hrow ho6 (fun k hk he => by have := hvl k hk; omega)
                        replace hC4 := ho6.blk hC4 (show ¬ c4 = c6 by omega)
                        replace hC9 := ho6.blk hC9 (show ¬ c9 = c6 by omega)
                        replace hq := hq.trans' ho6 (fun _ h => h) (fun k hk he => by omega)
                        replace hC6 : wk.heap[c6]? = some (.cells (exV { X with kind := 9 }).toArray 30 (0, 0)) := hC6'
                        clear hC6' ho6 hs6
                        refine WA.step (r := [4]) (by kernel_rfl) (by decide) (all1 ?_)
                        refine WO.c rfl rfl (o_fa 2 TI30 rfl TI9 rfl h6 ?_)
                        refine WA.step (r := [5]) (by kernel_rfl) (by decide) (all1 ?_)
                        refine WO.u rfl (o_stB TI9 rfl (show _ = st (tkA T at_).text from rfl) rfl hC6 (show 2 < 7 by decide) ?_)
                        intro wn hC6' ho6 hs6
                        replace h := h.keep ho6 (fun k hk => by omega)
                        replace hrow := own_only hrow ho6 (fun k hk he => by have := hvl k hk; omega)
                        replace hC4 := ho6.blk hC4 (show ¬ c4 = c6 by omega)
                        replace hC9 := ho6.blk hC9 (show ¬ c9 = c6 by omega)
                        replace hq := hq.trans' ho6 (fun _ h => h) (fun k hk he => by omega)
                        replace hC6 : wn.heap[c6]? = some (.cells (exV (X.nm (tkA T at_).text)).toArray 30 (0, 0)) := hC6'
                        clear hC6' ho6 hs6
                        refine WA.done (by kernel_rfl) ?_
                        exact ⟨h, hrow, hC4, hC6, hC9, hq, h1, h3, h4, h6, h9⟩
                      · skip
                        refine WO.c rfl rfl (o_fa 0 TI30 rfl TI3 rfl h6 ?_)
                        refine WA.step (r := [1, 3]) (by kernel_rfl) (by decide) (all2 ?_ ?_)
                        · skip
                          refine WO.c rfl rfl (o_ld TI9 rfl rfl (cell_of hC9 rfl) ?_)
                          refine WA.step (r := [3]) (by kernel_rfl) (by decide) (all1 ?_)
                          refine WO.u rfl (o_stB TI3 rfl (show _ = Value.int _ _ from rfl) rfl hC6 (show 0 < 7 by decide) ?_)
                          intro wk hC6' ho6 hs6
                          replace h := h.keep ho6 (fun k hk => by omega)
                          replace hrow := own_only hrow ho6 (fun k hk he => by have := hvl k hk; omega)
                          replace hC4 := ho6.blk hC4 (show ¬ c4 = c6 by omega)
                          replace hC9 := ho6.blk hC9 (show ¬ c9 = c6 by omega)
                          replace hq := hq.trans' ho6 (fun _ h => h) (fun k hk he => by omega)
                          replace hC6 : wk.heap[c6]? = some (.cells (exV { X with kind := 9 }).toArray 30 (0, 0)) := hC6'
                          clear hC6' ho6 hs6
                          refine WA.step (r := [4]) (by kernel_rfl) (by decide) (all1 ?_)
                          refine WO.c rfl rfl (o_fa 2 TI30 rfl TI9 rfl h6 ?_)
                          refine WA.step (r := [5]) (by kernel_rfl) (by decide) (all1 ?_)
                          refine WO.u rfl (o_stB TI9 rfl (show _ = st (tkA T at_).text from rfl) rfl hC6 (show 2 < 7 by decide) ?_)
                          intro wn hC6' ho6 hs6
                          replace h := h.keep ho6 (fun k hk => by omega)
                          replace hrow := own_only hrow ho6 (fun k hk he => by have := hvl k hk; omega)
                          replace hC4 := ho6.blk hC4 (show ¬ c4 = c6 by omega)
                          replace hC9 := ho6.blk hC9 (show ¬ c9 = c6 by omega)
                          replace hq := hq.trans' ho6 (fun _ h => h) (fun k hk he => by omega)
                          replace hC6 : wn.heap[c6]? = some (.cells (exV (X.nm (tkA T at_).text)).toArray 30 (0, 0)) := hC6'
                          clear hC6' ho6 hs6
                          refine WA.done (by kernel_rfl) ?_
                          exact ⟨h, hrow, hC4, hC6, hC9, hq, h1, h3, h4, h6, h9⟩
                        · skip
                          refine WO.u rfl (o_stB TI3 rfl (show _ = Value.int _ _ from rfl) rfl hC6 (show 0 < 7 by decide) ?_)
                          intro wk hC6' ho6 hs6
                          replace h := h.keep ho6 (fun k hk => by omega)
                          replace hrow := own_only hrow ho6 (fun k hk he => by have := hvl k hk; omega)
                          replace hC4 := ho6.blk hC4 (show ¬ c4 = c6 by omega)
                          replace hC9 := ho6.blk hC9 (show ¬ c9 = c6 by omega)
                          replace hq := hq.trans' ho6 (fun _ h => h) (fun k hk he => by omega)
                          replace hC6 : wk.heap[c6]? = some (.cells (exV { X with kind := 9 }).toArray 30 (0, 0)) := hC6'
                          clear hC6' ho6 hs6
                          refine WA.step (r := [1]) (by kernel_rfl) (by decide) (all1 ?_)
                          refine WO.c rfl rfl (o_ld TI9 rfl rfl (cell_of hC9 rfl) ?_)
                          refine WA.step (r := [4]) (by kernel_rfl) (by decide) (all1 ?_)
                          refine WO.c rfl rfl (o_fa 2 TI30 rfl TI9 rfl h6 ?_)
                          refine WA.step (r := [5]) (by kernel_rfl) (by decide) (all1 ?_)
                          refine WO.u rfl (o_stB TI9 rfl (show _ = st (tkA T at_).text from rfl) rfl hC6 (show 2 < 7 by decide) ?_)
                          intro wn hC6' ho6 hs6
                          replace h := h.keep ho6 (fun k hk => by omega)
                          replace hrow := own_only hrow ho6 (fun k hk he => by have := hvl k hk; omega)
                          replace hC4 := ho6.blk hC4 (show ¬ c4 = c6 by omega)
                          replace hC9 := ho6.blk hC9 (show ¬ c9 = c6 by omega)
                          replace hq := hq.trans' ho6 (fun _ h => h) (fun k hk he => by omega)
                          replace hC6 : wn.heap[c6]? = some (.cells (exV (X.nm (tkA T at_).text)).toArray 30 (0, 0)) := hC6'
                          clear hC6' ho6 hs6
                          refine WA.done (by kernel_rfl) ?_
                          exact ⟨h, hrow, hC4, hC6, hC9, hq, h1, h3, h4, h6, h9⟩
                    · skip
                      refine WO.c rfl rfl (o_fa 0 TI30 rfl TI3 rfl h6 ?_)
                      refine WA.step (r := [0, 3]) (by kernel_rfl) (by decide) (all2 ?_ ?_)
                      · skip
                        refine WO.c rfl rfl (o_fa 1 TI58 rfl TI9 rfl h9 ?_)
                        refine WA.step (r := [1, 3]) (by kernel_rfl) (by decide) (all2 ?_ ?_)
                        · skip
                          refine WO.c rfl rfl (o_ld TI9 rfl rfl (cell_of hC9 rfl) ?_)
                          refine WA.step (r := [3]) (by kernel_rfl) (by decide) (all1 ?_)
                          refine WO.u rfl (o_stB TI3 rfl (show _ = Value.int _ _ from rfl) rfl hC6 (show 0 < 7 by decide) ?_)
                          intro wk hC6' ho6 hs6
                          replace h := h.keep ho6 (fun k hk => by omega)
                          replace hrow := own_only hrow ho6 (fun k hk he => by have := hvl k hk; omega)
                          replace hC4 := ho6.blk hC4 (show ¬ c4 = c6 by omega)
                          replace hC9 := ho6.blk hC9 (show ¬ c9 = c6 by omega)
                          replace hq := hq.trans' ho6 (fun _ h => h) (fun k hk he => by omega)
                          replace hC6 : wk.heap[c6]? = some (.cells (exV { X with kind := 9 }).toArray 30 (0, 0)) := hC6'
                          clear hC6' ho6 hs6
                          refine WA.step (r := [4]) (by kernel_rfl) (by decide) (all1 ?_)
                          refine WO.c rfl rfl (o_fa 2 TI30 rfl TI9 rfl h6 ?_)
                          refine WA.step (r := [5]) (by kernel_rfl) (by decide) (all1 ?_)
                          refine WO.u rfl (o_stB TI9 rfl (show _ = st (tkA T at_).text from rfl) rfl hC6 (show 2 < 7 by decide) ?_)
                          intro wn hC6' ho6 hs6
                          replace h := h.keep ho6 (fun k hk => by omega)
                          replace hrow := own_only hrow ho6 (fun k hk he => by have := hvl k hk; omega)
                          replace hC4 := ho6.blk hC4 (show ¬ c4 = c6 by omega)
                          replace hC9 := ho6.blk hC9 (show ¬ c9 = c6 by omega)
                          replace hq := hq.trans' ho6 (fun _ h => h) (fun k hk he => by omega)
                          replace hC6 : wn.heap[c6]? = some (.cells (exV (X.nm (tkA T at_).text)).toArray 30 (0, 0)) := hC6'
                          clear hC6' ho6 hs6
                          refine WA.done (by kernel_rfl) ?_
                          exact ⟨h, hrow, hC4, hC6, hC9, hq, h1, h3, h4, h6, h9⟩
                        · skip
                          refine WO.u rfl (o_stB TI3 rfl (show _ = Value.int _ _ from rfl) rfl hC6 (show 0 < 7 by decide) ?_)
                          intro wk hC6' ho6 hs6
                          replace h := h.keep ho6 (fun k hk => by omega)
                          replace hrow := own_only hrow ho6 (fun k hk he => by have := hvl k hk; omega)
                          replace hC4 := ho6.blk hC4 (show ¬ c4 = c6 by omega)
                          replace hC9 := ho6.blk hC9 (show ¬ c9 = c6 by omega)
                          replace hq := hq.trans' ho6 (fun _ h => h) (fun k hk he => by omega)
                          replace hC6 : wk.heap[c6]? = some (.cells (exV { X with kind := 9 }).toArray 30 (0, 0)) := hC6'
                          clear hC6' ho6 hs6
                          refine WA.step (r := [1]) (by kernel_rfl) (by decide) (all1 ?_)
                          refine WO.c rfl rfl (o_ld TI9 rfl rfl (cell_of hC9 rfl) ?_)
                          refine WA.step (r := [4]) (by kernel_rfl) (by decide) (all1 ?_)
                          refine WO.c rfl rfl (o_fa 2 TI30 rfl TI9 rfl h6 ?_)
                          refine WA.step (r := [5]) (by kernel_rfl) (by decide) (all1 ?_)
                          refine WO.u rfl (o_stB TI9 rfl (show _ = st (tkA T at_).text from rfl) rfl hC6 (show 2 < 7 by decide) ?_)
                          intro wn hC6' ho6 hs6
                          replace h := h.keep ho6 (fun k hk => by omega)
                          replace hrow := own_only hrow ho6 (fun k hk he => by have := hvl k hk; omega)
                          replace hC4 := ho6.blk hC4 (show ¬ c4 = c6 by omega)
                          replace hC9 := ho6.blk hC9 (show ¬ c9 = c6 by omega)
                          replace hq := hq.trans' ho6 (fun _ h => h) (fun k hk he => by omega)
                          replace hC6 : wn.heap[c6]? = some (.cells (exV (X.nm (tkA T at_).text)).toArray 30 (0, 0)) := hC6'
                          clear hC6' ho6 hs6
                          refine WA.done (by kernel_rfl) ?_
                          exact ⟨h, hrow, hC4, hC6, hC9, hq, h1, h3, h4, h6, h9⟩
                      · skip
                        refine WO.u rfl (o_stB TI3 rfl (show _ = Value.int _ _ from rfl) rfl hC6 (show 0 < 7 by decide) ?_)
                        intro wk hC6' ho6 hs6
                        replace h := h.keep ho6 (fun k hk => by omega)
                        replace hrow := own_only hrow ho6 (fun k hk he => by have := hvl k hk; omega)
                        replace hC4 := ho6.blk hC4 (show ¬ c4 = c6 by omega)
                        replace hC9 := ho6.blk hC9 (show ¬ c9 = c6 by omega)
                        replace hq := hq.trans' ho6 (fun _ h => h) (fun k hk he => by omega)
                        replace hC6 : wk.heap[c6]? = some (.cells (exV { X with kind := 9 }).toArray 30 (0, 0)) := hC6'
                        clear hC6' ho6 hs6
                        refine WA.step (r := [0]) (by kernel_rfl) (by decide) (all1 ?_)
                        refine WO.c rfl rfl (o_fa 1 TI58 rfl TI9 rfl h9 ?_)
                        refine WA.step (r := [1]) (by kernel_rfl) (by decide) (all1 ?_)
                        refine WO.c rfl rfl (o_ld TI9 rfl rfl (cell_of hC9 rfl) ?_)
                        refine WA.step (r := [4]) (by kernel_rfl) (by decide) (all1 ?_)
                        refine WO.c rfl rfl (o_fa 2 TI30 rfl TI9 rfl h6 ?_)
                        refine WA.step (r := [5]) (by kernel_rfl) (by decide) (all1 ?_)
                        refine WO.u rfl (o_stB TI9 rfl (show _ = st (tkA T at_).text from rfl) rfl hC6 (show 2 < 7 by decide) ?_)
                        intro wn hC6' ho6 hs6
                        replace h := h.keep ho6 (fun k hk => by omega)
                        replace hrow := own_only hrow ho6 (fun k hk he => by have := hvl k hk; omega)
                        replace hC4 := ho6.blk hC4 (show ¬ c4 = c6 by omega)
                        replace hC9 := ho6.blk hC9 (show ¬ c9 = c6 by omega)
                        replace hq := hq.trans' ho6 (fun _ h => h) (fun k hk he => by omega)
                        replace hC6 : wn.heap[c6]? = some (.cells (exV (X.nm (tkA T at_).text)).toArray 30 (0, 0)) := hC6'
                        clear hC6' ho6 hs6
                        refine WA.done (by kernel_rfl) ?_
                        exact ⟨h, hrow, hC4, hC6, hC9, hq, h1, h3, h4, h6, h9⟩
                  rintro e w ⟨h, hrow, hC4, hC6, hC9, hq, h1, h3, h4, h6, h9⟩
                  refine W.region ?_
                  refine WL.c rfl (o_mvh h1 ?_)
                  refine WL.c rfl (o_ldA TI30 rfl h6 (show Cells _ c6 0 (exV (X.nm (tkA T at_).text)) from Cells.of hC6 0 _ (by simp)) rfl ?_)
                  refine WL.apO (B0) rfl rfl TI38 TI30 (show _ = Value.agg (exV (X.nm (tkA T at_).text)).toArray from rfl) rfl hrow (by decide) (by decide) rfl exV_one rfl (by rw [maxLen_eq]; omega) (by omega) (by have := h.b0; omega) ?_
                  intro v2 w2 hown ho hob _
                  replace hob : v2.ownBlock = v.ownBlock ∨ _ := hob
                  replace ho : Only (fun k => v.ownBlock = some k) _ _ := ho
                  replace hown := RowE.snoc hown
                  have hvb : ∀ k, v2.ownBlock = some k → v.ownBlock = some k ∨ c4 ≤ k := fun k hk => by
                    rcases hob with hb | hb
                    · exact .inl (by rw [← hb]; exact hk)
                    · rw [hb, Option.some.injEq] at hk; have := hq.size; omega
                  replace h := h.keep ho (fun k hk => by have := (hrow.lt k hk).1; omega)
                  replace hq := hq.trans' ho (fun _ h => h) (fun _ _ h => .inr h)
                  refine WL.c rfl (o_ash (by first | exact (show _ = Value.slice _ _ _ from rfl) | exact rfl) ?_)
                  refine WL.nil ?_
                  have hU2 : ¬ (tkA T at_).text = [115, 116, 114, 117, 99, 116] := by simpa using c125
                  have hfin : exprT T (f + 1) at_ x deep = .ok [(atE at_ x).nm (tkA T at_).text] (at_ + 1) ∧ RowE w2 B0 v2 (L ++ [(atE at_ x).nm (tkA T at_).text].map (plE T)) ∧ L.length + [(atE at_ x).nm (tkA T at_).text].length ≤ at_ + 1 ∧ at_ < at_ + 1 ∧ (∀ k, v2.ownBlock = some k → v.ownBlock = some k ∨ c4 ≤ k) ∧ Psr w2 B0 p lv T fin (at_ + 1) ∧ Only (fun k => k = p ∨ v.ownBlock = some k) w0 w2 := by
                    refine ⟨by rw [exprT_s, if_neg hbg, if_neg hdd, hkn]; exact (if_neg hV).trans ((if_neg hO).trans ((if_neg hU1).trans (if_neg hU2))), ?_, by rw [List.length_singleton]; omega, by omega, hvb, h, hq⟩
                    rw [List.map_singleton, plE_nm, ← hX]
                    exact hown
                  exact ⟨_, _, _, rfl, hfin⟩
        rintro e w ⟨v2, N, j, h1, hfin⟩
        refine W.seq ?_
        refine W.region ?_
        refine WL.c rfl (o_mvh h1 ?_)
        refine WL.c rfl (o_ash (by first | exact (show _ = Value.slice _ _ _ from rfl) | exact rfl) ?_)
        refine WL.nil ?_
        refine W.ret ?_
        refine ret1v rfl (show _ = v2 from rfl) ?_
        obtain ⟨g1, g2, g3, g4, g5, g6, g7⟩ := hfin
        exact ⟨N, j, g1, g2, g3, g4, g5, g6, g7⟩
end Go.Proofs.Ytcljkkfpcomdcaa
