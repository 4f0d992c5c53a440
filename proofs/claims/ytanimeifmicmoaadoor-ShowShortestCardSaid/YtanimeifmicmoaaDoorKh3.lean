/-
  Walks and lemmas. Written by program out of specs of mine.
-/
import Derived.WalkKit
import Derived.WalkSpells
import Derived.WalkLawsBesides
import Derived.Deep.Quiet
import Derived.StillTail
import Derived.StringKeys
import Derived.Laws.StructEq
import Derived.Laws.Externs
import Derived.Laws.Tables
import Derived.Scope
import Derived.Test.YtanimeifmicmoaaDoorProg
import Derived.Laws.AppendOwn
import Derived.Maps.AppendAt
import Derived.Recover
import Derived.Lib.Bytealg
import Derived.SizedLaws
import Derived.ChangeArms
import Derived.ChangeSlices
import Derived.Lib.Builder
import Derived.Lib.UnsafeStr
import Derived.Shelf.Strconv.Itoa0
import Derived.Shelf.Strconv.Itoa1
import Derived.Shelf.LaysM
import Derived.Shelf.Strconv.Itoa2
import Derived.Shelf.Strconv.Itoa3
import Derived.Test.YtanimeifmicmoaaDoorRows
import Derived.ProofKit
import Derived.OpenShut
import Derived.ShutString
import Derived.ChangeOld
import Derived.Below
import Derived.JoinedCond
import Derived.SliceStrings
import Derived.Test.YtanimeifmicmoaaDoorCards
import Derived.Test.YtanimeifmicmoaaDoorTie
import Derived.Deep.DeepHandedRow
import Derived.Lib.LaidTab
import Derived.Test.YtanimeifmicmoaaDoorKh2
set_option linter.unusedSimpArgs false
set_option linter.unusedVariables false
set_option maxRecDepth 100000
set_option linter.unusedSimpArgs false
set_option linter.unusedVariables false
set_option maxRecDepth 100000
namespace Go.Proofs.YtanimeifmicmoaaDoor
open Go Go.Vc Go.RowKit Go.Proofs

theorem own_new1 {w : World} {v : Value} {el : TypeId} {s : Nat} (hv : v.cells.size = s) : (w.alloc (.cells v.cells el)).ownsRow w.heap.size el s (.slice (some ⟨w.heap.size, 0, none⟩) 1 1) 1 v.cells.toList :=
  ⟨by simp [hv], .inr ⟨w.heap.size, 1, v.cells, rfl, Nat.le_refl _, heap_alloc_new w _, Nat.le_refl _, by rw [maxLen_eq]; omega, by rw [hv]; omega, by rw [Nat.one_mul]; exact List.take_of_length_le (by simp [hv])⟩⟩
theorem RowE.snoc {w : World} {B0 : Nat} {v : Value} {L : List Ex} {y : Ex} (h : w.ownsRow B0 36 7 v (L.length + 1) (exs L ++ (Value.agg (exV y).toArray).cells.toList)) : RowE w B0 v (L ++ [y]) := by
  show World.ownsRow _ _ _ _ _ (L ++ [y]).length _
  rw [exs_snoc, List.length_append]
  exact h
theorem exV_one {y : Ex} : ∀ a ∈ (Value.agg (exV y).toArray).cells.toList, a.oneCell' = true := by
  intro a ha
  simp [Value.cells, exV] at ha
  rcases ha with rfl | rfl | rfl | rfl | rfl | rfl | rfl <;> rfl
theorem exprT_s {T : List Tk} {f i : Nat} {x : Ex} {deep : Nat} : exprT T (f + 1) i x deep =
    (if bgnT (tkA T i) = false then .bad 60 i
    else if 16 < deep then .bad 61 i
    else match leafE (tkA T i).text with
    | some kn => .ok [(atE i x).lf kn.1 kn.2] (i + 1)
    | none =>
      if (tkA T i).text = [118, 101, 99, 116, 111, 114] ∨ (tkA T i).text = [108, 105, 115, 116] then
        (wantT T (i + 1) 3 [60]).bind fun _ j => (exprT T f j exM (deep + 1)).bind fun N j => (wantT T j 3 [44]).bind fun _ j => (numT T j).bind fun n j => (wantT T j 3 [62]).bind fun _ j =>
          .ok ((atE i x).vec (decide ((tkA T i).text = [108, 105, 115, 116])) n :: N) j
      else if (tkA T i).text = [111, 112, 116, 105, 111, 110] then
        (wantT T (i + 1) 3 [60]).bind fun _ j => (exprT T f j exM (deep + 1)).bind fun N j => (wantT T j 3 [62]).bind fun _ j => .ok ((atE i x).opt :: N) j
      else if (tkA T i).text = [117, 110, 105, 111, 110] then
        ((wantT T (i + 1) 3 [123]).bind fun _ j => rowsT (fun i x => exprT T f i x (deep + 1)) T true f j 0).bind fun r j => .ok ((atE i x).br true (r.2 : Nat) :: r.1) j
      else if (tkA T i).text = [115, 116, 114, 117, 99, 116] then
        ((wantT T (i + 1) 3 [123]).bind fun _ j => rowsT (fun i x => exprT T f i x (deep + 1)) T false f j 0).bind fun r j => .ok ((atE i x).br false (r.2 : Nat) :: r.1) j
      else .ok [(atE i x).nm (tkA T i).text] (i + 1)) := rfl
theorem plE_lf {T : List Tk} {x : Ex} {k n : Int} : plE T (x.lf k n) = (plE T x).lf k n := by unfold plE; split <;> split <;> first | rfl | (rename_i h1 h2; exact absurd h1 h2) | (rename_i h1 h2; exact absurd h2 h1)
theorem plE_vec {T : List Tk} {x : Ex} {b : Bool} {n : Int} : plE T (x.vec b n) = (plE T x).vec b n := by unfold plE; split <;> split <;> first | rfl | (rename_i h1 h2; exact absurd h1 h2) | (rename_i h1 h2; exact absurd h2 h1)
theorem plE_opt {T : List Tk} {x : Ex} : plE T x.opt = (plE T x).opt := by unfold plE; split <;> split <;> first | rfl | (rename_i h1 h2; exact absurd h1 h2) | (rename_i h1 h2; exact absurd h2 h1)
theorem plE_br {T : List Tk} {x : Ex} {u : Bool} {n : Int} : plE T (x.br u n) = (plE T x).br u n := by unfold plE; split <;> split <;> first | rfl | (rename_i h1 h2; exact absurd h1 h2) | (rename_i h1 h2; exact absurd h2 h1)
theorem plE_nm {T : List Tk} {x : Ex} {s : List UInt8} : plE T (x.nm s) = (plE T x).nm s := by unfold plE; split <;> split <;> first | rfl | (rename_i h1 h2; exact absurd h1 h2) | (rename_i h1 h2; exact absurd h2 h1)
theorem plE_neg {T : List Tk} {x : Ex} (h : (plE T x).at_ < 0) : x.at_ < 0 := by
  unfold plE at h
  split at h
  · assumption
  · simp only at h; omega
theorem plE_atE {T : List Tk} {i : Nat} {x : Ex} : plE T (atE i x) = if (plE T x).at_ < 0 then { plE T x with at_ := ((tkA T i).at_ : Int) } else plE T x := by
  by_cases h : x.at_ < 0
  · have h1 : plE T x = x := by unfold plE; rw [if_pos h]
    rw [h1, if_pos h]
    unfold atE
    rw [if_pos h]
    unfold plE
    rw [if_neg (by show ¬ (i : Int) < 0; omega)]
    simp
  · rw [if_neg (fun h1 => h (plE_neg h1))]
    unfold atE
    rw [if_neg h]
theorem plE_kids {T : List Tk} {x : Ex} : (plE T x).kids = x.kids := by unfold plE; split <;> rfl
theorem atE_kids {i : Nat} {x : Ex} : (atE i x).kids = x.kids := by unfold atE; split <;> rfl
theorem plE_exM {T : List Tk} : plE T exM = exM := by unfold plE; rw [if_pos (by decide)]
theorem bgnT_lt {T : List Tk} {i : Nat} (h : bgnT (tkA T i) = true) : i < T.length := tkA_kind (k := 1) (by decide) (by simp only [bgnT, Bool.and_eq_true, decide_eq_true_eq] at h; exact h.1)
set_option maxHeartbeats 4000000 in
theorem expr_step (B0 p : Nat) (lv : Value) (T : List Tk) (fin f deep : Nat) (hln : ∀ i, (tkA T i).text.length ≤ 9223372036854775807) (hE : deep ≤ 16 → ∀ m, T.length + 2 ≤ f + m → ESpec B0 p lv T fin (fun i x => exprT T f i x (deep + 1)) (deep + 1) m) (hdp : deep ≤ 17) (m at_ : Nat) (hfm : T.length + 2 ≤ f + 1 + m) (x : Ex) (L : List Ex) (v : Value) (w0 : World) (hm : m ≤ at_) (hxk : x.kids = 0) (h : Psr w0 B0 p lv T fin at_) (hrow : RowE w0 B0 v L) (hl : L.length ≤ at_) : CaX Tryd.prog 34 #[.pointer (some ⟨p, 0, none⟩), v, .agg (exV (plE T x)).toArray, .int .i64 (deep : Int)] w0 (fun v' w' => ∃ N j, exprT T (f + 1) at_ x deep = .ok N j ∧ RowE w' B0 v' (L ++ N.map (plE T)) ∧ L.length + N.length ≤ j ∧ at_ < j ∧ (∀ k, v'.ownBlock = some k → v.ownBlock = some k ∨ w0.heap.size ≤ k) ∧ Psr w' B0 p lv T fin j ∧ Only (fun k => k = p ∨ v.ownBlock = some k) w0 w') (fun ch w' => ∃ e j, exprT T (f + 1) at_ x deep = .bad e j ∧ ch = [pan e (plc T fin j)] ∧ Only (fun k => k = p ∨ v.ownBlock = some k) w0 w') := by
  have hq : Only (fun k => k = p ∨ v.ownBlock = some k) w0 w0 := Only.refl _ _
  have hsm := h.small
  have hle := h.le
  have hpl := (Array.getElem?_eq_some_iff.1 h.cell).1
  have hvp : ¬ v.ownBlock = some p := own_off hrow h.cell (by decide)
  have hvl : ∀ k, v.ownBlock = some k → k < w0.heap.size := fun k hk => (hrow.lt k hk).2
  have hB0 := h.b0
  have hpB := h.hp
  refine CaX.of Tryd.func34 Tryd.ntmps34 rfl rfl ?_
  refine W.seq ?_
  refine W.region ?_
  refine WL.c rfl (o_boxB rfl ?_)
  intro w4 hC4 hx4 hs4
  replace hC4 : w4.heap[w0.heap.size]? = some (.cells #[.pointer (some ⟨p, 0, none⟩)] 67 (0, 0)) := hC4
  replace h := h.ext hx4
  replace hrow := own_ext hrow hx4
  replace hq := hq.ext hx4
  obtain ⟨c4, hc4⟩ : ∃ c, c = w0.heap.size := ⟨_, rfl⟩
  rw [← hc4] at hC4 hs4 ⊢
  refine WL.c rfl (o_boxB rfl ?_)
  intro w6 hC6 hx6 hs6
  replace hC6 : w6.heap[w4.heap.size]? = some (.cells (exV (plE T x)).toArray 36 (0, 0)) := hC6
  replace h := h.ext hx6
  replace hrow := own_ext hrow hx6
  replace hC4 := hx6.blk hC4 (fun h => h)
  replace hq := hq.ext hx6
  obtain ⟨c6, hc6⟩ : ∃ c, c = w4.heap.size := ⟨_, rfl⟩
  rw [← hc6] at hC6 hs6 ⊢
  refine WL.c rfl (o_ash (by first | exact (show _ = Value.slice _ _ _ from rfl) | exact rfl) ?_)
  refine WL.nil ?_
  refine W.seq ?_
  refine W.region ?_
  refine WL.c rfl (o_ld TI67 rfl rfl (cell_of hC4 rfl) ?_)
  refine WL.c rfl (o_call Tryd.call49 (lc rfl ln) ((peek_spec B0 p lv T fin at_ _ h).mono ?_))
  rintro v14 w14 ⟨rfl, hx14⟩
  replace h := h.ext hx14
  replace hrow := own_ext hrow hx14
  replace hC4 := hx14.blk hC4 (fun h => h)
  replace hC6 := hx14.blk hC6 (fun h => h)
  replace hq := hq.ext hx14
  have h14s := hx14.size
  refine WL.c rfl (o_alB TI94 ?_)
  intro wa hCa hxa hsa
  refine WL.u (o_stA TI94 rfl (show _ = Value.agg (tokV (tkA T at_)) from rfl) rfl rfl hCa rfl ?_)
  intro w9 hC9 hob hsb
  have hxb := Ext.own hxa (Nat.le_refl _) hob
  clear hCa hxa hob
  replace h := h.ext hxb
  replace hrow := own_ext hrow hxb
  replace hC4 := hxb.blk hC4 (fun h => h)
  replace hC6 := hxb.blk hC6 (fun h => h)
  replace hq := hq.ext hxb
  obtain ⟨c9, hc9⟩ : ∃ c, c = w14.heap.size := ⟨_, rfl⟩
  rw [← hc9] at hC9 ⊢
  replace hC9 : w9.heap[c9]? = some (.cells (tokV (tkA T at_)) 94 (0, 0)) := hC9
  refine WL.nil ?_
  refine W.seq ?_
  refine W.seq ?_
  refine W.region ?_
  refine WL.c rfl (o_ldA TI94 rfl rfl (cells_all hC9) rfl ?_)
  refine WL.c rfl (o_call Tryd.call51 (lc rfl ln) ((begins_spec (tkA T at_) _ (hln at_)).mono ?_))
  rintro v16 w16 ⟨rfl, hx16⟩
  replace h := h.ext hx16
  replace hrow := own_ext hrow hx16
  replace hC4 := hx16.blk hC4 (fun h => h)
  replace hC6 := hx16.blk hC6 (fun h => h)
  replace hC9 := hx16.blk hC9 (fun h => h)
  replace hq := hq.ext hx16
  refine WL.c rfl (o_not' rfl ?_)
  refine WL.nil ?_
  refine W.cond rfl (fun c17 => ?_) (fun c17 => ?_)
  · try simp only [decide_eq_true_eq, decide_eq_false_iff_not, Bool.not_eq_true', Bool.not_eq_false', Bool.and_eq_true, Bool.or_eq_true, Bool.and_eq_false_iff, Bool.or_eq_false_iff] at c17
    have hbg : bgnT (tkA T at_) = false := by simp_all
    refine W.region ?_
    refine WL.c rfl (o_ld TI67 rfl rfl (cell_of hC4 rfl) ?_)
    refine WL.cx rfl (ox_call Tryd.call29 (lc rfl (lc rfl ln)) ((fails_spec B0 p lv T fin at_ _ h 60).mono ?_ (fun ch w' hh => by obtain ⟨h1, h2⟩ := hh; exact ⟨60, at_, by rw [exprT_s, if_pos hbg], h1, hq.ext h2⟩)))
    exact fun _ _ hf => hf.elim
  · try simp only [decide_eq_true_eq, decide_eq_false_iff_not, Bool.not_eq_true', Bool.not_eq_false', Bool.and_eq_true, Bool.or_eq_true, Bool.and_eq_false_iff, Bool.or_eq_false_iff] at c17
    have hbg : ¬ bgnT (tkA T at_) = false := by simp_all
    have hlt := bgnT_lt (T := T) (i := at_) (by simpa using hbg)
    refine W.skip ?_
    refine W.seq ?_
    refine W.seq ?_
    refine W.region ?_
    refine WL.c rfl (o_mvh (show _ = Value.int _ _ from rfl) ?_)
    refine WL.c rfl (o_gt rfl rfl ?_)
    refine WL.nil ?_
    refine W.cond rfl (fun c21 => ?_) (fun c21 => ?_)
    · try simp only [decide_eq_true_eq, decide_eq_false_iff_not, Bool.not_eq_true', Bool.not_eq_false', Bool.and_eq_true, Bool.or_eq_true, Bool.and_eq_false_iff, Bool.or_eq_false_iff] at c21
      have hdd : 16 < deep := by omega
      refine W.region ?_
      refine WL.c rfl (o_ld TI67 rfl rfl (cell_of hC4 rfl) ?_)
      refine WL.cx rfl (ox_call Tryd.call29 (lc rfl (lc rfl ln)) ((fails_spec B0 p lv T fin at_ _ h 61).mono ?_ (fun ch w' hh => by obtain ⟨h1, h2⟩ := hh; exact ⟨61, at_, by rw [exprT_s, if_neg hbg, if_pos hdd], h1, hq.ext h2⟩)))
      exact fun _ _ hf => hf.elim
    · try simp only [decide_eq_true_eq, decide_eq_false_iff_not, Bool.not_eq_true', Bool.not_eq_false', Bool.and_eq_true, Bool.or_eq_true, Bool.and_eq_false_iff, Bool.or_eq_false_iff] at c21
      have hdd : ¬ 16 < deep := by omega
      refine W.skip ?_
      refine W.seq ?_
      refine W.seq ?_
      refine W.region ?_
      refine WL.c rfl (o_fa 6 TI36 rfl TI3 rfl rfl ?_)
      refine WL.c rfl (o_ld TI3 rfl rfl (cell_of hC6 rfl) ?_)
      refine WL.c rfl (o_lt rfl rfl ?_)
      refine WL.nil ?_
      refine W.cut (fun e1 w1 => c9 ≤ w1.heap.size ∧ Psr w1 B0 p lv T fin at_ ∧ RowE w1 B0 v L ∧ w1.heap[c4]? = some (.cells #[.pointer (some ⟨p, 0, none⟩)] 67 (0, 0)) ∧ w1.heap[c6]? = some (.cells (exV (plE T (atE at_ x))).toArray 36 (0, 0)) ∧ w1.heap[c9]? = some (.cells (tokV (tkA T at_)) 94 (0, 0)) ∧ Only (fun k => k = p ∨ v.ownBlock = some k) w0 w1 ∧ e1 1 = v ∧ e1 3 = .int .i64 (deep : Int) ∧ e1 4 = .pointer (some ⟨c4, 0, none⟩) ∧ e1 6 = .pointer (some ⟨c6, 0, none⟩) ∧ e1 9 = .pointer (some ⟨c9, 0, none⟩)) ?_ ?_
      · -- both ways
        refine W.cond rfl (fun c26 => ?_) (fun c26 => ?_)
        · try simp only [decide_eq_true_eq, decide_eq_false_iff_not, Bool.not_eq_true', Bool.not_eq_false', Bool.and_eq_true, Bool.or_eq_true, Bool.and_eq_false_iff, Bool.or_eq_false_iff] at c26
          refine W.region ?_
          refine WL.c rfl (o_fa 3 TI94 rfl TI3 rfl rfl ?_)
          refine WL.c rfl (o_ld TI3 rfl rfl (cell_of hC9 rfl) ?_)
          refine WL.c rfl (o_fa 6 TI36 rfl TI3 rfl rfl ?_)
          refine WL.u (o_stB TI3 rfl (show _ = Value.int _ _ from rfl) rfl hC6 (show 6 < 7 by decide) ?_)
          intro w29 hC6' ho29 hs29
          replace h := h.keep ho29 (fun k hk => by omega)
          replace hrow := own_only hrow ho29 (fun k hk he => by have := hvl k hk; omega)
          replace hC4 := ho29.blk hC4 (show ¬ c4 = c6 by omega)
          replace hC9 := ho29.blk hC9 (show ¬ c9 = c6 by omega)
          replace hq := hq.trans' ho29 (fun _ h => h) (fun k hk he => by omega)
          refine WL.nil ?_
          first | exact ⟨Nat.le_of_lt (Array.getElem?_eq_some_iff.1 hC9).1, h, hrow, hC4, (by rw [plE_atE, if_neg (by omega)]; exact hC6), hC9, hq, rfl, rfl, rfl, rfl, rfl⟩ | exact ⟨Nat.le_of_lt (Array.getElem?_eq_some_iff.1 hC9).1, h, hrow, hC4, (by rw [plE_atE, if_pos (by omega)]; exact hC6'), hC9, hq, rfl, rfl, rfl, rfl, rfl⟩
        · try simp only [decide_eq_true_eq, decide_eq_false_iff_not, Bool.not_eq_true', Bool.not_eq_false', Bool.and_eq_true, Bool.or_eq_true, Bool.and_eq_false_iff, Bool.or_eq_false_iff] at c26
          refine W.skip ?_
          first | exact ⟨Nat.le_of_lt (Array.getElem?_eq_some_iff.1 hC9).1, h, hrow, hC4, (by rw [plE_atE, if_neg (by omega)]; exact hC6), hC9, hq, rfl, rfl, rfl, rfl, rfl⟩ | exact ⟨Nat.le_of_lt (Array.getElem?_eq_some_iff.1 hC9).1, h, hrow, hC4, (by rw [plE_atE, if_pos (by omega)]; exact hC6'), hC9, hq, rfl, rfl, rfl, rfl, rfl⟩
      rintro e w ⟨hw9, h, hrow, hC4, hC6, hC9, hq, h1, h3, h4, h6, h9⟩
      obtain ⟨X, hX⟩ : ∃ X, X = plE T (atE at_ x) := ⟨_, rfl⟩
      rw [← hX] at hC6
      have hXk : X.kids = 0 := by rw [hX, plE_kids, atE_kids]; exact hxk
      refine W.seq ?_
      refine W.region ?_
      refine WL.c rfl (o_ld TI67 rfl h4 (cell_of hC4 rfl) ?_)
      refine WL.c rfl (o_nil rfl ?_)
      refine WL.c rfl (o_fa 1 TI69 rfl TI3 rfl rfl ?_)
      refine WL.c rfl (o_ld TI3 rfl rfl (cell_of h.cell rfl) ?_)
      refine WL.c rfl (o_addi rfl rfl (by omega) ?_)
      refine WL.c rfl (o_nil rfl ?_)
      refine WL.c rfl (o_fa 1 TI69 rfl TI3 rfl rfl ?_)
      refine WL.u (o_stB TI3 rfl (show _ = Value.int _ _ from rfl) rfl h.cell (show 1 < 3 by decide) ?_)
      intro w36 hBp hop hsp
      replace h := h.move (a2 := at_ + 1) hBp hop (by omega)
      replace hrow := own_only hrow hop (fun k hk he => by subst he; exact hvp hk)
      replace hC4 := hop.blk hC4 (show ¬ c4 = p by omega)
      replace hC6 := hop.blk hC6 (show ¬ c6 = p by omega)
      replace hC9 := hop.blk hC9 (show ¬ c9 = p by omega)
      replace hq := hq.trans' hop (fun _ h => h) (fun _ _ h => .inl h)
      refine WL.nil ?_
      refine W.seq ?_
      refine W.seq ?_
      refine W.region ?_
      refine WL.c rfl (o_fa 1 TI94 rfl TI9 rfl h9 ?_)
      refine WL.c rfl (o_ld TI9 rfl rfl (cell_of hC9 rfl) ?_)
      refine WL.c rfl (o_call Tryd.call52 (lc rfl ln) ((leaf_spec (tkA T at_).text _).mono ?_))
      rintro v40 w40 ⟨rfl, hx40⟩
      have hC9o := hC9
      replace h := h.ext hx40
      replace hrow := own_ext hrow hx40
      replace hC4 := hx40.blk hC4 (fun h => h)
      replace hC6 := hx40.blk hC6 (fun h => h)
      replace hC9 := hx40.blk hC9 (fun h => h)
      replace hq := hq.ext hx40
      refine WL.c rfl (o_mvh (by first | exact (show _ = Value.tuple _ from rfl) | exact rfl) ?_)
      refine WL.c rfl (o_ext rfl rfl ?_)
      refine WL.c rfl (o_ext rfl rfl ?_)
      refine WL.c rfl (o_alB TI36 ?_)
      intro wa hCa hxa hsa
      refine WL.u (o_stA TI36 rfl (show _ = Value.agg (exV { ex0 with kind := ((leafE (tkA T at_).text).getD (0, 0)).1, n := ((leafE (tkA T at_).text).getD (0, 0)).2 }).toArray from rfl) rfl rfl hCa rfl ?_)
      intro w10 hC10 hob hsb
      have hxb := Ext.own hxa (Nat.le_refl _) hob
      clear hCa hxa hob
      replace h := h.ext hxb
      replace hrow := own_ext hrow hxb
      replace hC4 := hxb.blk hC4 (fun h => h)
      replace hC6 := hxb.blk hC6 (fun h => h)
      replace hC9 := hxb.blk hC9 (fun h => h)
      replace hq := hq.ext hxb
      obtain ⟨c10, hc10⟩ : ∃ c, c = w40.heap.size := ⟨_, rfl⟩
      rw [← hc10] at hC10 ⊢
      have h109 : c9 < c10 := by rw [hc10]; exact Nat.lt_of_lt_of_le (Array.getElem?_eq_some_iff.1 hC9o).1 hx40.size
      refine WL.c rfl (o_ash (show _ = Value.bool _ from rfl) ?_)
      refine WL.nil ?_
      refine W.seq ?_
      refine W.region ?_
      refine WL.c rfl (o_mvh (show _ = Value.bool _ from rfl) ?_)
      refine WL.nil ?_
      refine W.cond rfl (fun c43 => ?_) (fun c43 => ?_)
      · try simp only [decide_eq_true_eq, decide_eq_false_iff_not, Bool.not_eq_true', Bool.not_eq_false', Bool.and_eq_true, Bool.or_eq_true, Bool.and_eq_false_iff, Bool.or_eq_false_iff] at c43
        obtain ⟨kn, hkn⟩ := Option.isSome_iff_exists.1 (show (leafE (tkA T at_).text).isSome = true by simpa using c43)
        rw [hkn] at hC10
        replace hC10 : w10.heap[c10]? = some (.cells #[.int .i64 kn.1, .int .i64 kn.2, st [], st [], .int .i64 0, .int .i64 0, .int .i64 0] 36 (0, 0)) := hC10
        refine W.seq ?_
        refine W.cut (fun e1 w1 => Psr w1 B0 p lv T fin (at_ + 1) ∧ RowE w1 B0 v L ∧ w1.heap[c4]? = some (.cells #[.pointer (some ⟨p, 0, none⟩)] 67 (0, 0)) ∧ w1.heap[c6]? = some (.cells (exV (X.lf kn.1 kn.2)).toArray 36 (0, 0)) ∧ w1.heap[c9]? = some (.cells (tokV (tkA T at_)) 94 (0, 0)) ∧ Only (fun k => k = p ∨ v.ownBlock = some k) w0 w1 ∧ e1 1 = v ∧ e1 3 = .int .i64 (deep : Int) ∧ e1 4 = .pointer (some ⟨c4, 0, none⟩) ∧ e1 6 = .pointer (some ⟨c6, 0, none⟩) ∧ e1 9 = .pointer (some ⟨c9, 0, none⟩)) ?_ ?_
        · -- region 11
          refine W.enum rfl ?_
          have hd := Only.drew w10
          replace h := h.ext hd
          replace hrow := own_ext hrow hd
          replace hC4 := hd.blk hC4 (fun h => h)
          replace hC6 := hd.blk hC6 (fun h => h)
          replace hC9 := hd.blk hC9 (fun h => h)
          replace hC10 := hd.blk hC10 (fun h => h)
          replace hq := hq.ext hd
          clear hd
          generalize w10.drew = wd at *
          refine WA.step (r := [0, 2]) (by kernel_rfl) (by decide) (all2 ?_ ?_)
          · skip
            refine WO.c rfl rfl (o_fa 0 TI36 rfl TI3 rfl rfl ?_)
            refine WA.step (r := [1, 2]) (by kernel_rfl) (by decide) (all2 ?_ ?_)
            · skip
              refine WO.c rfl rfl (o_ld TI3 rfl rfl (cell_of hC10 rfl) ?_)
              refine WA.step (r := [2, 4]) (by kernel_rfl) (by decide) (all2 ?_ ?_)
              · skip
                refine WO.c rfl rfl (o_fa 1 TI36 rfl TI3 rfl rfl ?_)
                refine WA.step (r := [3, 4]) (by kernel_rfl) (by decide) (all2 ?_ ?_)
                · skip
                  refine WO.c rfl rfl (o_ld TI3 rfl rfl (cell_of hC10 rfl) ?_)
                  refine WA.step (r := [4]) (by kernel_rfl) (by decide) (all1 ?_)
                  refine WO.c rfl rfl (o_fa 0 TI36 rfl TI3 rfl h6 ?_)
                  refine WA.step (r := [5]) (by kernel_rfl) (by decide) (all1 ?_)
                  refine WO.u rfl (o_stB TI3 rfl (show _ = Value.int .i64 kn.1 from rfl) rfl hC6 (show 0 < 7 by decide) ?_)
                  intro wk hC6' ho6 hs6
                  replace h := h.keep ho6 (fun k hk => by omega)
                  replace hrow := own_only hrow ho6 (fun k hk he => by have := hvl k hk; omega)
                  replace hC4 := ho6.blk hC4 (show ¬ c4 = c6 by omega)
                  replace hC9 := ho6.blk hC9 (show ¬ c9 = c6 by omega)
                  replace hC10 := ho6.blk hC10 (show ¬ c10 = c6 by omega)
                  replace hq := hq.trans' ho6 (fun _ h => h) (fun k hk he => by omega)
                  replace hC6 : wk.heap[c6]? = some (.cells (exV { X with kind := kn.1 }).toArray 36 (0, 0)) := hC6'
                  clear hC6' ho6 hs6
                  refine WA.step (r := [6]) (by kernel_rfl) (by decide) (all1 ?_)
                  refine WO.c rfl rfl (o_fa 1 TI36 rfl TI3 rfl h6 ?_)
                  refine WA.step (r := [7]) (by kernel_rfl) (by decide) (all1 ?_)
                  refine WO.u rfl (o_stB TI3 rfl (show _ = Value.int .i64 kn.2 from rfl) rfl hC6 (show 1 < 7 by decide) ?_)
                  intro wn hC6' ho6 hs6
                  replace h := h.keep ho6 (fun k hk => by omega)
                  replace hrow := own_only hrow ho6 (fun k hk he => by have := hvl k hk; omega)
                  replace hC4 := ho6.blk hC4 (show ¬ c4 = c6 by omega)
                  replace hC9 := ho6.blk hC9 (show ¬ c9 = c6 by omega)
                  replace hC10 := ho6.blk hC10 (show ¬ c10 = c6 by omega)
                  replace hq := hq.trans' ho6 (fun _ h => h) (fun k hk he => by omega)
                  replace hC6 : wn.heap[c6]? = some (.cells (exV (X.lf kn.1 kn.2)).toArray 36 (0, 0)) := hC6'
                  clear hC6' ho6 hs6
                  refine WA.done (by kernel_rfl) ?_
                  exact ⟨h, hrow, hC4, hC6, hC9, hq, h1, h3, h4, h6, h9⟩
                · skip
                  refine WO.c rfl rfl (o_fa 0 TI36 rfl TI3 rfl h6 ?_)
                  refine WA.step (r := [3, 5]) (by kernel_rfl) (by decide) (all2 ?_ ?_)
                  · skip
                    refine WO.c rfl rfl (o_ld TI3 rfl rfl (cell_of hC10 rfl) ?_)
                    refine WA.step (r := [5]) (by kernel_rfl) (by decide) (all1 ?_)
                    refine WO.u rfl (o_stB TI3 rfl (show _ = Value.int .i64 kn.1 from rfl) rfl hC6 (show 0 < 7 by decide) ?_)
                    intro wk hC6' ho6 hs6
                    replace h := h.keep ho6 (fun k hk => by omega)
                    replace hrow := own_only hrow ho6 (fun k hk he => by have := hvl k hk; omega)
                    replace hC4 := ho6.blk hC4 (show ¬ c4 = c6 by omega)
                    replace hC9 := ho6.blk hC9 (show ¬ c9 = c6 by omega)
                    replace hC10 := ho6.blk hC10 (show ¬ c10 = c6 by omega)
                    replace hq := hq.trans' ho6 (fun _ h => h) (fun k hk he => by omega)
                    replace hC6 : wk.heap[c6]? = some (.cells (exV { X with kind := kn.1 }).toArray 36 (0, 0)) := hC6'
                    clear hC6' ho6 hs6
                    refine WA.step (r := [6]) (by kernel_rfl) (by decide) (all1 ?_)
                    refine WO.c rfl rfl (o_fa 1 TI36 rfl TI3 rfl h6 ?_)
                    refine WA.step (r := [7]) (by kernel_rfl) (by decide) (all1 ?_)
                    refine WO.u rfl (o_stB TI3 rfl (show _ = Value.int .i64 kn.2 from rfl) rfl hC6 (show 1 < 7 by decide) ?_)
                    intro wn hC6' ho6 hs6
                    replace h := h.keep ho6 (fun k hk => by omega)
                    replace hrow := own_only hrow ho6 (fun k hk he => by have := hvl k hk; omega)
                    replace hC4 := ho6.blk hC4 (show ¬ c4 = c6 by omega)
                    replace hC9 := ho6.blk hC9 (show ¬ c9 = c6 by omega)
                    replace hC10 := ho6.blk hC10 (show ¬ c10 = c6 by omega)
                    replace hq := hq.trans' ho6 (fun _ h => h) (fun k hk he => by omega)
                    replace hC6 : wn.heap[c6]? = some (.cells (exV (X.lf kn.1 kn.2)).toArray 36 (0, 0)) := hC6'
                    clear hC6' ho6 hs6
                    refine WA.done (by kernel_rfl) ?_
                    exact ⟨h, hrow, hC4, hC6, hC9, hq, h1, h3, h4, h6, h9⟩
                  · skip
                    refine WO.u rfl (o_stB TI3 rfl (show _ = Value.int .i64 kn.1 from rfl) rfl hC6 (show 0 < 7 by decide) ?_)
                    intro wk hC6' ho6 hs6
                    replace h := h.keep ho6 (fun k hk => by omega)
                    replace hrow := own_only hrow ho6 (fun k hk he => by have := hvl k hk; omega)
                    replace hC4 := ho6.blk hC4 (show ¬ c4 = c6 by omega)
                    replace hC9 := ho6.blk hC9 (show ¬ c9 = c6 by omega)
                    replace hC10 := ho6.blk hC10 (show ¬ c10 = c6 by omega)
                    replace hq := hq.trans' ho6 (fun _ h => h) (fun k hk he => by omega)
                    replace hC6 : wk.heap[c6]? = some (.cells (exV { X with kind := kn.1 }).toArray 36 (0, 0)) := hC6'
                    clear hC6' ho6 hs6
                    refine WA.step (r := [3]) (by kernel_rfl) (by decide) (all1 ?_)
                    refine WO.c rfl rfl (o_ld TI3 rfl rfl (cell_of hC10 rfl) ?_)
                    refine WA.step (r := [6]) (by kernel_rfl) (by decide) (all1 ?_)
                    refine WO.c rfl rfl (o_fa 1 TI36 rfl TI3 rfl h6 ?_)
                    refine WA.step (r := [7]) (by kernel_rfl) (by decide) (all1 ?_)
                    refine WO.u rfl (o_stB TI3 rfl (show _ = Value.int .i64 kn.2 from rfl) rfl hC6 (show 1 < 7 by decide) ?_)
                    intro wn hC6' ho6 hs6
                    replace h := h.keep ho6 (fun k hk => by omega)
                    replace hrow := own_only hrow ho6 (fun k hk he => by have := hvl k hk; omega)
                    replace hC4 := ho6.blk hC4 (show ¬ c4 = c6 by omega)
                    replace hC9 := ho6.blk hC9 (show ¬ c9 = c6 by omega)
                    replace hC10 := ho6.blk hC10 (show ¬ c10 = c6 by omega)
                    replace hq := hq.trans' ho6 (fun _ h => h) (fun k hk he => by omega)
                    replace hC6 : wn.heap[c6]? = some (.cells (exV (X.lf kn.1 kn.2)).toArray 36 (0, 0)) := hC6'
                    clear hC6' ho6 hs6
                    refine WA.done (by kernel_rfl) ?_
                    exact ⟨h, hrow, hC4, hC6, hC9, hq, h1, h3, h4, h6, h9⟩
              · skip
                refine WO.c rfl rfl (o_fa 0 TI36 rfl TI3 rfl h6 ?_)
                refine WA.step (r := [2, 5]) (by kernel_rfl) (by decide) (all2 ?_ ?_)
                · skip
                  refine WO.c rfl rfl (o_fa 1 TI36 rfl TI3 rfl rfl ?_)
                  refine WA.step (r := [3, 5]) (by kernel_rfl) (by decide) (all2 ?_ ?_)
                  · skip
                    refine WO.c rfl rfl (o_ld TI3 rfl rfl (cell_of hC10 rfl) ?_)
                    refine WA.step (r := [5]) (by kernel_rfl) (by decide) (all1 ?_)
                    refine WO.u rfl (o_stB TI3 rfl (show _ = Value.int .i64 kn.1 from rfl) rfl hC6 (show 0 < 7 by decide) ?_)
                    intro wk hC6' ho6 hs6
                    replace h := h.keep ho6 (fun k hk => by omega)
                    replace hrow := own_only hrow ho6 (fun k hk he => by have := hvl k hk; omega)
                    replace hC4 := ho6.blk hC4 (show ¬ c4 = c6 by omega)
                    replace hC9 := ho6.blk hC9 (show ¬ c9 = c6 by omega)
                    replace hC10 := ho6.blk hC10 (show ¬ c10 = c6 by omega)
                    replace hq := hq.trans' ho6 (fun _ h => h) (fun k hk he => by omega)
                    replace hC6 : wk.heap[c6]? = some (.cells (exV { X with kind := kn.1 }).toArray 36 (0, 0)) := hC6'
                    clear hC6' ho6 hs6
                    refine WA.step (r := [6]) (by kernel_rfl) (by decide) (all1 ?_)
                    refine WO.c rfl rfl (o_fa 1 TI36 rfl TI3 rfl h6 ?_)
                    refine WA.step (r := [7]) (by kernel_rfl) (by decide) (all1 ?_)
                    refine WO.u rfl (o_stB TI3 rfl (show _ = Value.int .i64 kn.2 from rfl) rfl hC6 (show 1 < 7 by decide) ?_)
                    intro wn hC6' ho6 hs6
                    replace h := h.keep ho6 (fun k hk => by omega)
                    replace hrow := own_only hrow ho6 (fun k hk he => by have := hvl k hk; omega)
                    replace hC4 := ho6.blk hC4 (show ¬ c4 = c6 by omega)
                    replace hC9 := ho6.blk hC9 (show ¬ c9 = c6 by omega)
                    replace hC10 := ho6.blk hC10 (show ¬ c10 = c6 by omega)
                    replace hq := hq.trans' ho6 (fun _ h => h) (fun k hk he => by omega)
                    replace hC6 : wn.heap[c6]? = some (.cells (exV (X.lf kn.1 kn.2)).toArray 36 (0, 0)) := hC6'
                    clear hC6' ho6 hs6
                    refine WA.done (by kernel_rfl) ?_
                    exact ⟨h, hrow, hC4, hC6, hC9, hq, h1, h3, h4, h6, h9⟩
                  · skip
                    refine WO.u rfl (o_stB TI3 rfl (show _ = Value.int .i64 kn.1 from rfl) rfl hC6 (show 0 < 7 by decide) ?_)
                    intro wk hC6' ho6 hs6
                    replace h := h.keep ho6 (fun k hk => by omega)
                    replace hrow := own_only hrow ho6 (fun k hk he => by have := hvl k hk; omega)
                    replace hC4 := ho6.blk hC4 (show ¬ c4 = c6 by omega)
                    replace hC9 := ho6.blk hC9 (show ¬ c9 = c6 by omega)
                    replace hC10 := ho6.blk hC10 (show ¬ c10 = c6 by omega)
                    replace hq := hq.trans' ho6 (fun _ h => h) (fun k hk he => by omega)
                    replace hC6 : wk.heap[c6]? = some (.cells (exV { X with kind := kn.1 }).toArray 36 (0, 0)) := hC6'
                    clear hC6' ho6 hs6
                    refine WA.step (r := [3]) (by kernel_rfl) (by decide) (all1 ?_)
                    refine WO.c rfl rfl (o_ld TI3 rfl rfl (cell_of hC10 rfl) ?_)
                    refine WA.step (r := [6]) (by kernel_rfl) (by decide) (all1 ?_)
                    refine WO.c rfl rfl (o_fa 1 TI36 rfl TI3 rfl h6 ?_)
                    refine WA.step (r := [7]) (by kernel_rfl) (by decide) (all1 ?_)
                    refine WO.u rfl (o_stB TI3 rfl (show _ = Value.int .i64 kn.2 from rfl) rfl hC6 (show 1 < 7 by decide) ?_)
                    intro wn hC6' ho6 hs6
                    replace h := h.keep ho6 (fun k hk => by omega)
                    replace hrow := own_only hrow ho6 (fun k hk he => by have := hvl k hk; omega)
                    replace hC4 := ho6.blk hC4 (show ¬ c4 = c6 by omega)
                    replace hC9 := ho6.blk hC9 (show ¬ c9 = c6 by omega)
                    replace hC10 := ho6.blk hC10 (show ¬ c10 = c6 by omega)
                    replace hq := hq.trans' ho6 (fun _ h => h) (fun k hk he => by omega)
                    replace hC6 : wn.heap[c6]? = some (.cells (exV (X.lf kn.1 kn.2)).toArray 36 (0, 0)) := hC6'
                    clear hC6' ho6 hs6
                    refine WA.done (by kernel_rfl) ?_
                    exact ⟨h, hrow, hC4, hC6, hC9, hq, h1, h3, h4, h6, h9⟩
                · skip
                  refine WO.u rfl (o_stB TI3 rfl (show _ = Value.int .i64 kn.1 from rfl) rfl hC6 (show 0 < 7 by decide) ?_)
                  intro wk hC6' ho6 hs6
                  replace h := h.keep ho6 (fun k hk => by omega)
                  replace hrow := own_only hrow ho6 (fun k hk he => by have := hvl k hk; omega)
                  replace hC4 := ho6.blk hC4 (show ¬ c4 = c6 by omega)
                  replace hC9 := ho6.blk hC9 (show ¬ c9 = c6 by omega)
                  replace hC10 := ho6.blk hC10 (show ¬ c10 = c6 by omega)
                  replace hq := hq.trans' ho6 (fun _ h => h) (fun k hk he => by omega)
                  replace hC6 : wk.heap[c6]? = some (.cells (exV { X with kind := kn.1 }).toArray 36 (0, 0)) := hC6'
                  clear hC6' ho6 hs6
                  refine WA.step (r := [2]) (by kernel_rfl) (by decide) (all1 ?_)
                  refine WO.c rfl rfl (o_fa 1 TI36 rfl TI3 rfl rfl ?_)
                  refine WA.step (r := [3]) (by kernel_rfl) (by decide) (all1 ?_)
                  refine WO.c rfl rfl (o_ld TI3 rfl rfl (cell_of hC10 rfl) ?_)
                  refine WA.step (r := [6]) (by kernel_rfl) (by decide) (all1 ?_)
                  refine WO.c rfl rfl (o_fa 1 TI36 rfl TI3 rfl h6 ?_)
                  refine WA.step (r := [7]) (by kernel_rfl) (by decide) (all1 ?_)
                  refine WO.u rfl (o_stB TI3 rfl (show _ = Value.int .i64 kn.2 from rfl) rfl hC6 (show 1 < 7 by decide) ?_)
                  intro wn hC6' ho6 hs6
                  replace h := h.keep ho6 (fun k hk => by omega)
                  replace hrow := own_only hrow ho6 (fun k hk he => by have := hvl k hk; omega)
                  replace hC4 := ho6.blk hC4 (show ¬ c4 = c6 by omega)
                  replace hC9 := ho6.blk hC9 (show ¬ c9 = c6 by omega)
                  replace hC10 := ho6.blk hC10 (show ¬ c10 = c6 by omega)
                  replace hq := hq.trans' ho6 (fun _ h => h) (fun k hk he => by omega)
                  replace hC6 : wn.heap[c6]? = some (.cells (exV (X.lf kn.1 kn.2)).toArray 36 (0, 0)) := hC6'
                  clear hC6' ho6 hs6
                  refine WA.done (by kernel_rfl) ?_
                  exact ⟨h, hrow, hC4, hC6, hC9, hq, h1, h3, h4, h6, h9⟩
            · skip
              refine WO.c rfl rfl (o_fa 1 TI36 rfl TI3 rfl rfl ?_)
              refine WA.step (r := [1, 3]) (by kernel_rfl) (by decide) (all2 ?_ ?_)
              · skip
                refine WO.c rfl rfl (o_ld TI3 rfl rfl (cell_of hC10 rfl) ?_)
                refine WA.step (r := [3, 4]) (by kernel_rfl) (by decide) (all2 ?_ ?_)
                · skip
                  refine WO.c rfl rfl (o_ld TI3 rfl rfl (cell_of hC10 rfl) ?_)
                  refine WA.step (r := [4]) (by kernel_rfl) (by decide) (all1 ?_)
                  refine WO.c rfl rfl (o_fa 0 TI36 rfl TI3 rfl h6 ?_)
                  refine WA.step (r := [5]) (by kernel_rfl) (by decide) (all1 ?_)
                  refine WO.u rfl (o_stB TI3 rfl (show _ = Value.int .i64 kn.1 from rfl) rfl hC6 (show 0 < 7 by decide) ?_)
                  intro wk hC6' ho6 hs6
                  replace h := h.keep ho6 (fun k hk => by omega)
                  replace hrow := own_only hrow ho6 (fun k hk he => by have := hvl k hk; omega)
                  replace hC4 := ho6.blk hC4 (show ¬ c4 = c6 by omega)
                  replace hC9 := ho6.blk hC9 (show ¬ c9 = c6 by omega)
                  replace hC10 := ho6.blk hC10 (show ¬ c10 = c6 by omega)
                  replace hq := hq.trans' ho6 (fun _ h => h) (fun k hk he => by omega)
                  replace hC6 : wk.heap[c6]? = some (.cells (exV { X with kind := kn.1 }).toArray 36 (0, 0)) := hC6'
                  clear hC6' ho6 hs6
                  refine WA.step (r := [6]) (by kernel_rfl) (by decide) (all1 ?_)
                  refine WO.c rfl rfl (o_fa 1 TI36 rfl TI3 rfl h6 ?_)
                  refine WA.step (r := [7]) (by kernel_rfl) (by decide) (all1 ?_)
                  refine WO.u rfl (o_stB TI3 rfl (show _ = Value.int .i64 kn.2 from rfl) rfl hC6 (show 1 < 7 by decide) ?_)
                  intro wn hC6' ho6 hs6
                  replace h := h.keep ho6 (fun k hk => by omega)
                  replace hrow := own_only hrow ho6 (fun k hk he => by have := hvl k hk; omega)
                  replace hC4 := ho6.blk hC4 (show ¬ c4 = c6 by omega)
                  replace hC9 := ho6.blk hC9 (show ¬ c9 = c6 by omega)
                  replace hC10 := ho6.blk hC10 (show ¬ c10 = c6 by omega)
                  replace hq := hq.trans' ho6 (fun _ h => h) (fun k hk he => by omega)
                  replace hC6 : wn.heap[c6]? = some (.cells (exV (X.lf kn.1 kn.2)).toArray 36 (0, 0)) := hC6'
                  clear hC6' ho6 hs6
                  refine WA.done (by kernel_rfl) ?_
                  exact ⟨h, hrow, hC4, hC6, hC9, hq, h1, h3, h4, h6, h9⟩
                · skip
                  refine WO.c rfl rfl (o_fa 0 TI36 rfl TI3 rfl h6 ?_)
                  refine WA.step (r := [3, 5]) (by kernel_rfl) (by decide) (all2 ?_ ?_)
                  · skip
                    refine WO.c rfl rfl (o_ld TI3 rfl rfl (cell_of hC10 rfl) ?_)
                    refine WA.step (r := [5]) (by kernel_rfl) (by decide) (all1 ?_)
                    refine WO.u rfl (o_stB TI3 rfl (show _ = Value.int .i64 kn.1 from rfl) rfl hC6 (show 0 < 7 by decide) ?_)
                    intro wk hC6' ho6 hs6
                    replace h := h.keep ho6 (fun k hk => by omega)
                    replace hrow := own_only hrow ho6 (fun k hk he => by have := hvl k hk; omega)
                    replace hC4 := ho6.blk hC4 (show ¬ c4 = c6 by omega)
                    replace hC9 := ho6.blk hC9 (show ¬ c9 = c6 by omega)
                    replace hC10 := ho6.blk hC10 (show ¬ c10 = c6 by omega)
                    replace hq := hq.trans' ho6 (fun _ h => h) (fun k hk he => by omega)
                    replace hC6 : wk.heap[c6]? = some (.cells (exV { X with kind := kn.1 }).toArray 36 (0, 0)) := hC6'
                    clear hC6' ho6 hs6
                    refine WA.step (r := [6]) (by kernel_rfl) (by decide) (all1 ?_)
                    refine WO.c rfl rfl (o_fa 1 TI36 rfl TI3 rfl h6 ?_)
                    refine WA.step (r := [7]) (by kernel_rfl) (by decide) (all1 ?_)
                    refine WO.u rfl (o_stB TI3 rfl (show _ = Value.int .i64 kn.2 from rfl) rfl hC6 (show 1 < 7 by decide) ?_)
                    intro wn hC6' ho6 hs6
                    replace h := h.keep ho6 (fun k hk => by omega)
                    replace hrow := own_only hrow ho6 (fun k hk he => by have := hvl k hk; omega)
                    replace hC4 := ho6.blk hC4 (show ¬ c4 = c6 by omega)
                    replace hC9 := ho6.blk hC9 (show ¬ c9 = c6 by omega)
                    replace hC10 := ho6.blk hC10 (show ¬ c10 = c6 by omega)
                    replace hq := hq.trans' ho6 (fun _ h => h) (fun k hk he => by omega)
                    replace hC6 : wn.heap[c6]? = some (.cells (exV (X.lf kn.1 kn.2)).toArray 36 (0, 0)) := hC6'
                    clear hC6' ho6 hs6
                    refine WA.done (by kernel_rfl) ?_
                    exact ⟨h, hrow, hC4, hC6, hC9, hq, h1, h3, h4, h6, h9⟩
                  · skip
                    refine WO.u rfl (o_stB TI3 rfl (show _ = Value.int .i64 kn.1 from rfl) rfl hC6 (show 0 < 7 by decide) ?_)
                    intro wk hC6' ho6 hs6
                    replace h := h.keep ho6 (fun k hk => by omega)
                    replace hrow := own_only hrow ho6 (fun k hk he => by have := hvl k hk; omega)
                    replace hC4 := ho6.blk hC4 (show ¬ c4 = c6 by omega)
                    replace hC9 := ho6.blk hC9 (show ¬ c9 = c6 by omega)
                    replace hC10 := ho6.blk hC10 (show ¬ c10 = c6 by omega)
                    replace hq := hq.trans' ho6 (fun _ h => h) (fun k hk he => by omega)
                    replace hC6 : wk.heap[c6]? = some (.cells (exV { X with kind := kn.1 }).toArray 36 (0, 0)) := hC6'
                    clear hC6' ho6 hs6
                    refine WA.step (r := [3]) (by kernel_rfl) (by decide) (all1 ?_)
                    refine WO.c rfl rfl (o_ld TI3 rfl rfl (cell_of hC10 rfl) ?_)
                    refine WA.step (r := [6]) (by kernel_rfl) (by decide) (all1 ?_)
                    refine WO.c rfl rfl (o_fa 1 TI36 rfl TI3 rfl h6 ?_)
                    refine WA.step (r := [7]) (by kernel_rfl) (by decide) (all1 ?_)
                    refine WO.u rfl (o_stB TI3 rfl (show _ = Value.int .i64 kn.2 from rfl) rfl hC6 (show 1 < 7 by decide) ?_)
                    intro wn hC6' ho6 hs6
                    replace h := h.keep ho6 (fun k hk => by omega)
                    replace hrow := own_only hrow ho6 (fun k hk he => by have := hvl k hk; omega)
                    replace hC4 := ho6.blk hC4 (show ¬ c4 = c6 by omega)
                    replace hC9 := ho6.blk hC9 (show ¬ c9 = c6 by omega)
                    replace hC10 := ho6.blk hC10 (show ¬ c10 = c6 by omega)
                    replace hq := hq.trans' ho6 (fun _ h => h) (fun k hk he => by omega)
                    replace hC6 : wn.heap[c6]? = some (.cells (exV (X.lf kn.1 kn.2)).toArray 36 (0, 0)) := hC6'
                    clear hC6' ho6 hs6
                    refine WA.done (by kernel_rfl) ?_
                    exact ⟨h, hrow, hC4, hC6, hC9, hq, h1, h3, h4, h6, h9⟩
              · skip
                refine WO.c rfl rfl (o_ld TI3 rfl rfl (cell_of hC10 rfl) ?_)
                refine WA.step (r := [1]) (by kernel_rfl) (by decide) (all1 ?_)
                refine WO.c rfl rfl (o_ld TI3 rfl rfl (cell_of hC10 rfl) ?_)
                refine WA.step (r := [4]) (by kernel_rfl) (by decide) (all1 ?_)
                refine WO.c rfl rfl (o_fa 0 TI36 rfl TI3 rfl h6 ?_)
                refine WA.step (r := [5]) (by kernel_rfl) (by decide) (all1 ?_)
                refine WO.u rfl (o_stB TI3 rfl (show _ = Value.int .i64 kn.1 from rfl) rfl hC6 (show 0 < 7 by decide) ?_)
                intro wk hC6' ho6 hs6
                replace h := h.keep ho6 (fun k hk => by omega)
                replace hrow := own_only hrow ho6 (fun k hk he => by have := hvl k hk; omega)
                replace hC4 := ho6.blk hC4 (show ¬ c4 = c6 by omega)
                replace hC9 := ho6.blk hC9 (show ¬ c9 = c6 by omega)
                replace hC10 := ho6.blk hC10 (show ¬ c10 = c6 by omega)
                replace hq := hq.trans' ho6 (fun _ h => h) (fun k hk he => by omega)
                replace hC6 : wk.heap[c6]? = some (.cells (exV { X with kind := kn.1 }).toArray 36 (0, 0)) := hC6'
                clear hC6' ho6 hs6
                refine WA.step (r := [6]) (by kernel_rfl) (by decide) (all1 ?_)
                refine WO.c rfl rfl (o_fa 1 TI36 rfl TI3 rfl h6 ?_)
                refine WA.step (r := [7]) (by kernel_rfl) (by decide) (all1 ?_)
                refine WO.u rfl (o_stB TI3 rfl (show _ = Value.int .i64 kn.2 from rfl) rfl hC6 (show 1 < 7 by decide) ?_)
                intro wn hC6' ho6 hs6
                replace h := h.keep ho6 (fun k hk => by omega)
                replace hrow := own_only hrow ho6 (fun k hk he => by have := hvl k hk; omega)
                replace hC4 := ho6.blk hC4 (show ¬ c4 = c6 by omega)
                replace hC9 := ho6.blk hC9 (show ¬ c9 = c6 by omega)
                replace hC10 := ho6.blk hC10 (show ¬ c10 = c6 by omega)
                replace hq := hq.trans' ho6 (fun _ h => h) (fun k hk he => by omega)
                replace hC6 : wn.heap[c6]? = some (.cells (exV (X.lf kn.1 kn.2)).toArray 36 (0, 0)) := hC6'
                clear hC6' ho6 hs6
                refine WA.done (by kernel_rfl) ?_
                exact ⟨h, hrow, hC4, hC6, hC9, hq, h1, h3, h4, h6, h9⟩
          · skip
            refine WO.c rfl rfl (o_fa 1 TI36 rfl TI3 rfl rfl ?_)
            refine WA.step (r := [0, 3]) (by kernel_rfl) (by decide) (all2 ?_ ?_)
            · skip
              refine WO.c rfl rfl (o_fa 0 TI36 rfl TI3 rfl rfl ?_)
              refine WA.step (r := [1, 3]) (by kernel_rfl) (by decide) (all2 ?_ ?_)
              · skip
                refine WO.c rfl rfl (o_ld TI3 rfl rfl (cell_of hC10 rfl) ?_)
                refine WA.step (r := [3, 4]) (by kernel_rfl) (by decide) (all2 ?_ ?_)
                · skip
                  refine WO.c rfl rfl (o_ld TI3 rfl rfl (cell_of hC10 rfl) ?_)
                  refine WA.step (r := [4]) (by kernel_rfl) (by decide) (all1 ?_)
                  refine WO.c rfl rfl (o_fa 0 TI36 rfl TI3 rfl h6 ?_)
                  refine WA.step (r := [5]) (by kernel_rfl) (by decide) (all1 ?_)
                  refine WO.u rfl (o_stB TI3 rfl (show _ = Value.int .i64 kn.1 from rfl) rfl hC6 (show 0 < 7 by decide) ?_)
                  intro wk hC6' ho6 hs6
                  replace h := h.keep ho6 (fun k hk => by omega)
                  replace hrow := own_only hrow ho6 (fun k hk he => by have := hvl k hk; omega)
                  replace hC4 := ho6.blk hC4 (show ¬ c4 = c6 by omega)
                  replace hC9 := ho6.blk hC9 (show ¬ c9 = c6 by omega)
                  replace hC10 := ho6.blk hC10 (show ¬ c10 = c6 by omega)
                  replace hq := hq.trans' ho6 (fun _ h => h) (fun k hk he => by omega)
                  replace hC6 : wk.heap[c6]? = some (.cells (exV { X with kind := kn.1 }).toArray 36 (0, 0)) := hC6'
                  clear hC6' ho6 hs6
                  refine WA.step (r := [6]) (by kernel_rfl) (by decide) (all1 ?_)
                  refine WO.c rfl rfl (o_fa 1 TI36 rfl TI3 rfl h6 ?_)
                  refine WA.step (r := [7]) (by kernel_rfl) (by decide) (all1 ?_)
                  refine WO.u rfl (o_stB TI3 rfl (show _ = Value.int .i64 kn.2 from rfl) rfl hC6 (show 1 < 7 by decide) ?_)
                  intro wn hC6' ho6 hs6
                  replace h := h.keep ho6 (fun k hk => by omega)
                  replace hrow := own_only hrow ho6 (fun k hk he => by have := hvl k hk; omega)
                  replace hC4 := ho6.blk hC4 (show ¬ c4 = c6 by omega)
                  replace hC9 := ho6.blk hC9 (show ¬ c9 = c6 by omega)
                  replace hC10 := ho6.blk hC10 (show ¬ c10 = c6 by omega)
                  replace hq := hq.trans' ho6 (fun _ h => h) (fun k hk he => by omega)
                  replace hC6 : wn.heap[c6]? = some (.cells (exV (X.lf kn.1 kn.2)).toArray 36 (0, 0)) := hC6'
                  clear hC6' ho6 hs6
                  refine WA.done (by kernel_rfl) ?_
                  exact ⟨h, hrow, hC4, hC6, hC9, hq, h1, h3, h4, h6, h9⟩
                · skip
                  refine WO.c rfl rfl (o_fa 0 TI36 rfl TI3 rfl h6 ?_)
                  refine WA.step (r := [3, 5]) (by kernel_rfl) (by decide) (all2 ?_ ?_)
                  · skip
                    refine WO.c rfl rfl (o_ld TI3 rfl rfl (cell_of hC10 rfl) ?_)
                    refine WA.step (r := [5]) (by kernel_rfl) (by decide) (all1 ?_)
                    refine WO.u rfl (o_stB TI3 rfl (show _ = Value.int .i64 kn.1 from rfl) rfl hC6 (show 0 < 7 by decide) ?_)
                    intro wk hC6' ho6 hs6
                    replace h := h.keep ho6 (fun k hk => by omega)
                    replace hrow := own_only hrow ho6 (fun k hk he => by have := hvl k hk; omega)
                    replace hC4 := ho6.blk hC4 (show ¬ c4 = c6 by omega)
                    replace hC9 := ho6.blk hC9 (show ¬ c9 = c6 by omega)
                    replace hC10 := ho6.blk hC10 (show ¬ c10 = c6 by omega)
                    replace hq := hq.trans' ho6 (fun _ h => h) (fun k hk he => by omega)
                    replace hC6 : wk.heap[c6]? = some (.cells (exV { X with kind := kn.1 }).toArray 36 (0, 0)) := hC6'
                    clear hC6' ho6 hs6
                    refine WA.step (r := [6]) (by kernel_rfl) (by decide) (all1 ?_)
                    refine WO.c rfl rfl (o_fa 1 TI36 rfl TI3 rfl h6 ?_)
                    refine WA.step (r := [7]) (by kernel_rfl) (by decide) (all1 ?_)
                    refine WO.u rfl (o_stB TI3 rfl (show _ = Value.int .i64 kn.2 from rfl) rfl hC6 (show 1 < 7 by decide) ?_)
                    intro wn hC6' ho6 hs6
                    replace h := h.keep ho6 (fun k hk => by omega)
                    replace hrow := own_only hrow ho6 (fun k hk he => by have := hvl k hk; omega)
                    replace hC4 := ho6.blk hC4 (show ¬ c4 = c6 by omega)
                    replace hC9 := ho6.blk hC9 (show ¬ c9 = c6 by omega)
                    replace hC10 := ho6.blk hC10 (show ¬ c10 = c6 by omega)
                    replace hq := hq.trans' ho6 (fun _ h => h) (fun k hk he => by omega)
                    replace hC6 : wn.heap[c6]? = some (.cells (exV (X.lf kn.1 kn.2)).toArray 36 (0, 0)) := hC6'
                    clear hC6' ho6 hs6
                    refine WA.done (by kernel_rfl) ?_
                    exact ⟨h, hrow, hC4, hC6, hC9, hq, h1, h3, h4, h6, h9⟩
                  · skip
                    refine WO.u rfl (o_stB TI3 rfl (show _ = Value.int .i64 kn.1 from rfl) rfl hC6 (show 0 < 7 by decide) ?_)
                    intro wk hC6' ho6 hs6
                    replace h := h.keep ho6 (fun k hk => by omega)
                    replace hrow := own_only hrow ho6 (fun k hk he => by have := hvl k hk; omega)
                    replace hC4 := ho6.blk hC4 (show ¬ c4 = c6 by omega)
                    replace hC9 := ho6.blk hC9 (show ¬ c9 = c6 by omega)
                    replace hC10 := ho6.blk hC10 (show ¬ c10 = c6 by omega)
                    replace hq := hq.trans' ho6 (fun _ h => h) (fun k hk he => by omega)
                    replace hC6 : wk.heap[c6]? = some (.cells (exV { X with kind := kn.1 }).toArray 36 (0, 0)) := hC6'
                    clear hC6' ho6 hs6
                    refine WA.step (r := [3]) (by kernel_rfl) (by decide) (all1 ?_)
                    refine WO.c rfl rfl (o_ld TI3 rfl rfl (cell_of hC10 rfl) ?_)
                    refine WA.step (r := [6]) (by kernel_rfl) (by decide) (all1 ?_)
                    refine WO.c rfl rfl (o_fa 1 TI36 rfl TI3 rfl h6 ?_)
                    refine WA.step (r := [7]) (by kernel_rfl) (by decide) (all1 ?_)
                    refine WO.u rfl (o_stB TI3 rfl (show _ = Value.int .i64 kn.2 from rfl) rfl hC6 (show 1 < 7 by decide) ?_)
                    intro wn hC6' ho6 hs6
                    replace h := h.keep ho6 (fun k hk => by omega)
                    replace hrow := own_only hrow ho6 (fun k hk he => by have := hvl k hk; omega)
                    replace hC4 := ho6.blk hC4 (show ¬ c4 = c6 by omega)
                    replace hC9 := ho6.blk hC9 (show ¬ c9 = c6 by omega)
                    replace hC10 := ho6.blk hC10 (show ¬ c10 = c6 by omega)
                    replace hq := hq.trans' ho6 (fun _ h => h) (fun k hk he => by omega)
                    replace hC6 : wn.heap[c6]? = some (.cells (exV (X.lf kn.1 kn.2)).toArray 36 (0, 0)) := hC6'
                    clear hC6' ho6 hs6
                    refine WA.done (by kernel_rfl) ?_
                    exact ⟨h, hrow, hC4, hC6, hC9, hq, h1, h3, h4, h6, h9⟩
              · skip
                refine WO.c rfl rfl (o_ld TI3 rfl rfl (cell_of hC10 rfl) ?_)
                refine WA.step (r := [1]) (by kernel_rfl) (by decide) (all1 ?_)
                refine WO.c rfl rfl (o_ld TI3 rfl rfl (cell_of hC10 rfl) ?_)
                refine WA.step (r := [4]) (by kernel_rfl) (by decide) (all1 ?_)
                refine WO.c rfl rfl (o_fa 0 TI36 rfl TI3 rfl h6 ?_)
                refine WA.step (r := [5]) (by kernel_rfl) (by decide) (all1 ?_)
                refine WO.u rfl (o_stB TI3 rfl (show _ = Value.int .i64 kn.1 from rfl) rfl hC6 (show 0 < 7 by decide) ?_)
                intro wk hC6' ho6 hs6
                replace h := h.keep ho6 (fun k hk => by omega)
                replace hrow := own_only hrow ho6 (fun k hk he => by have := hvl k hk; omega)
                replace hC4 := ho6.blk hC4 (show ¬ c4 = c6 by omega)
                replace hC9 := ho6.blk hC9 (show ¬ c9 = c6 by omega)
                replace hC10 := ho6.blk hC10 (show ¬ c10 = c6 by omega)
                replace hq := hq.trans' ho6 (fun _ h => h) (fun k hk he => by omega)
                replace hC6 : wk.heap[c6]? = some (.cells (exV { X with kind := kn.1 }).toArray 36 (0, 0)) := hC6'
                clear hC6' ho6 hs6
                refine WA.step (r := [6]) (by kernel_rfl) (by decide) (all1 ?_)
                refine WO.c rfl rfl (o_fa 1 TI36 rfl TI3 rfl h6 ?_)
                refine WA.step (r := [7]) (by kernel_rfl) (by decide) (all1 ?_)
                refine WO.u rfl (o_stB TI3 rfl (show _ = Value.int .i64 kn.2 from rfl) rfl hC6 (show 1 < 7 by decide) ?_)
                intro wn hC6' ho6 hs6
                replace h := h.keep ho6 (fun k hk => by omega)
                replace hrow := own_only hrow ho6 (fun k hk he => by have := hvl k hk; omega)
                replace hC4 := ho6.blk hC4 (show ¬ c4 = c6 by omega)
                replace hC9 := ho6.blk hC9 (show ¬ c9 = c6 by omega)
                replace hC10 := ho6.blk hC10 (show ¬ c10 = c6 by omega)
                replace hq := hq.trans' ho6 (fun _ h => h) (fun k hk he => by omega)
                replace hC6 : wn.heap[c6]? = some (.cells (exV (X.lf kn.1 kn.2)).toArray 36 (0, 0)) := hC6'
                clear hC6' ho6 hs6
                refine WA.done (by kernel_rfl) ?_
                exact ⟨h, hrow, hC4, hC6, hC9, hq, h1, h3, h4, h6, h9⟩
            · skip
              refine WO.c rfl rfl (o_ld TI3 rfl rfl (cell_of hC10 rfl) ?_)
              refine WA.step (r := [0]) (by kernel_rfl) (by decide) (all1 ?_)
              refine WO.c rfl rfl (o_fa 0 TI36 rfl TI3 rfl rfl ?_)
              refine WA.step (r := [1]) (by kernel_rfl) (by decide) (all1 ?_)
              refine WO.c rfl rfl (o_ld TI3 rfl rfl (cell_of hC10 rfl) ?_)
              refine WA.step (r := [4]) (by kernel_rfl) (by decide) (all1 ?_)
              refine WO.c rfl rfl (o_fa 0 TI36 rfl TI3 rfl h6 ?_)
              refine WA.step (r := [5]) (by kernel_rfl) (by decide) (all1 ?_)
              refine WO.u rfl (o_stB TI3 rfl (show _ = Value.int .i64 kn.1 from rfl) rfl hC6 (show 0 < 7 by decide) ?_)
              intro wk hC6' ho6 hs6
              replace h := h.keep ho6 (fun k hk => by omega)
              replace hrow := own_only hrow ho6 (fun k hk he => by have := hvl k hk; omega)
              replace hC4 := ho6.blk hC4 (show ¬ c4 = c6 by omega)
              replace hC9 := ho6.blk hC9 (show ¬ c9 = c6 by omega)
              replace hC10 := ho6.blk hC10 (show ¬ c10 = c6 by omega)
              replace hq := hq.trans' ho6 (fun _ h => h) (fun k hk he => by omega)
              replace hC6 : wk.heap[c6]? = some (.cells (exV { X with kind := kn.1 }).toArray 36 (0, 0)) := hC6'
              clear hC6' ho6 hs6
              refine WA.step (r := [6]) (by kernel_rfl) (by decide) (all1 ?_)
              refine WO.c rfl rfl (o_fa 1 TI36 rfl TI3 rfl h6 ?_)
              refine WA.step (r := [7]) (by kernel_rfl) (by decide) (all1 ?_)
              refine WO.u rfl (o_stB TI3 rfl (show _ = Value.int .i64 kn.2 from rfl) rfl hC6 (show 1 < 7 by decide) ?_)
              intro wn hC6' ho6 hs6
              replace h := h.keep ho6 (fun k hk => by omega)
              replace hrow := own_only hrow ho6 (fun k hk he => by have := hvl k hk; omega)
              replace hC4 := ho6.blk hC4 (show ¬ c4 = c6 by omega)
              replace hC9 := ho6.blk hC9 (show ¬ c9 = c6 by omega)
              replace hC10 := ho6.blk hC10 (show ¬ c10 = c6 by omega)
              replace hq := hq.trans' ho6 (fun _ h => h) (fun k hk he => by omega)
              replace hC6 : wn.heap[c6]? = some (.cells (exV (X.lf kn.1 kn.2)).toArray 36 (0, 0)) := hC6'
              clear hC6' ho6 hs6
              refine WA.done (by kernel_rfl) ?_
              exact ⟨h, hrow, hC4, hC6, hC9, hq, h1, h3, h4, h6, h9⟩
        rintro e w ⟨h, hrow, hC4, hC6, hC9, hq, h1, h3, h4, h6, h9⟩
        refine W.seq ?_
        refine W.region ?_
        refine WL.c rfl (o_mvh h1 ?_)
        refine WL.c rfl (o_ldA TI36 rfl h6 (show Cells _ c6 0 (exV (X.lf kn.1 kn.2)) from Cells.of hC6 0 _ (by simp)) rfl ?_)
        refine WL.apO (B0) rfl rfl TI32 TI36 (show _ = Value.agg (exV (X.lf kn.1 kn.2)).toArray from rfl) rfl hrow (by decide) (by decide) rfl exV_one rfl (by rw [maxLen_eq]; omega) (by omega) (by have := h.b0; omega) ?_
        intro v2 w2 hown ho hob _
        replace hob : v2.ownBlock = v.ownBlock ∨ _ := hob
        replace ho : Only (fun k => v.ownBlock = some k) _ _ := ho
        replace hown := RowE.snoc hown
        have hvb : ∀ k, v2.ownBlock = some k → v.ownBlock = some k ∨ c4 ≤ k := fun k hk => by
          rcases hob with hb | hb
          · exact .inl (by rw [← hb]; exact hk)
          · rw [hb, Option.some.injEq] at hk; have := hq.size; omega
        replace h := h.keep ho (fun k hk => by have := (hrow.lt k hk).1; omega)
        replace hq := hq.trans' ho (fun _ h => h) (fun _ _ h => .inr h)
        refine WL.c rfl (o_ash (by first | exact (show _ = Value.slice _ _ _ from rfl) | exact rfl) ?_)
        refine WL.nil ?_
        refine W.ret ?_
        refine ret1v rfl (show _ = v2 from rfl) ?_
        refine ⟨[(atE at_ x).lf kn.1 kn.2], at_ + 1, by rw [exprT_s, if_neg hbg, if_neg hdd, hkn], ?_, by simp; omega, by omega, hvb, h, hq⟩
        rw [List.map_singleton, plE_lf, ← hX]
        exact hown
      · try simp only [decide_eq_true_eq, decide_eq_false_iff_not, Bool.not_eq_true', Bool.not_eq_false', Bool.and_eq_true, Bool.or_eq_true, Bool.and_eq_false_iff, Bool.or_eq_false_iff] at c43
        have hkn : leafE (tkA T at_).text = none := by simpa using c43
        refine W.skip ?_
        refine W.seq ?_
        refine W.region ?_
        refine WL.c rfl (o_mvh h1 ?_)
        refine WL.c rfl (o_lenR TI32 rfl (Sl.own hrow) ?_)
        refine WL.c rfl (o_ash (show _ = Value.int _ _ from rfl) ?_)
        refine WL.nil ?_
        refine W.seq ?_
        refine W.seq ?_
        refine W.region ?_
        refine WL.c rfl (o_fa 1 TI94 rfl TI9 rfl h9 ?_)
        refine WL.c rfl (o_ld TI9 rfl rfl (cell_of hC9 rfl) ?_)
        refine WL.nil ?_
        refine W.block ?_
        refine W.seq ?_
        refine W.seq ?_
        refine W.region ?_
        refine WL.c rfl (o_eqT rfl rfl ?_)
        refine WL.c rfl (o_ash (show _ = Value.bool _ from rfl) ?_)
        refine WL.nil ?_
        refine W.cut (fun e1 w1 => Psr w1 B0 p lv T fin (at_ + 1) ∧ RowE w1 B0 v L ∧ w1.heap[c4]? = some (.cells #[.pointer (some ⟨p, 0, none⟩)] 67 (0, 0)) ∧ w1.heap[c6]? = some (.cells (exV X).toArray 36 (0, 0)) ∧ w1.heap[c9]? = some (.cells (tokV (tkA T at_)) 94 (0, 0)) ∧ Only (fun k => k = p ∨ v.ownBlock = some k) w0 w1 ∧ e1 1 = v ∧ e1 3 = .int .i64 (deep : Int) ∧ e1 4 = .pointer (some ⟨c4, 0, none⟩) ∧ e1 6 = .pointer (some ⟨c6, 0, none⟩) ∧ e1 9 = .pointer (some ⟨c9, 0, none⟩) ∧ e1 12 = .int .i64 (L.length : Int) ∧ e1 57 = st (tkA T at_).text ∧ e1 66 = .bool (decide ((tkA T at_).text = [118, 101, 99, 116, 111, 114] ∨ (tkA T at_).text = [108, 105, 115, 116]))) ?_ ?_
        · -- both ways
          refine W.cond rfl (fun c66 => ?_) (fun c66 => ?_)
          · try simp only [decide_eq_true_eq, decide_eq_false_iff_not, Bool.not_eq_true', Bool.not_eq_false', Bool.and_eq_true, Bool.or_eq_true, Bool.and_eq_false_iff, Bool.or_eq_false_iff] at c66
            refine W.skip ?_
            first | exact ⟨h, hrow, hC4, hC6, hC9, hq, h1, h3, h4, h6, h9, rfl, rfl, congrArg Value.bool (by simp [c66])⟩
          · try simp only [decide_eq_true_eq, decide_eq_false_iff_not, Bool.not_eq_true', Bool.not_eq_false', Bool.and_eq_true, Bool.or_eq_true, Bool.and_eq_false_iff, Bool.or_eq_false_iff] at c66
            refine W.region ?_
            refine WL.c rfl (o_eqT rfl rfl ?_)
            refine WL.c rfl (o_ash (show _ = Value.bool _ from rfl) ?_)
            refine WL.nil ?_
            first | exact ⟨h, hrow, hC4, hC6, hC9, hq, h1, h3, h4, h6, h9, rfl, rfl, congrArg Value.bool (by simp [c66])⟩
        rintro e w ⟨h, hrow, hC4, hC6, hC9, hq, h1, h3, h4, h6, h9, h12, h57, h66⟩
        refine W.cut (fun e1 w1 => ∃ (v2 : Value) (N : List Ex) (j : Nat), e1 1 = v2 ∧ exprT T (f + 1) at_ x deep = .ok N j ∧ RowE w1 B0 v2 (L ++ N.map (plE T)) ∧ L.length + N.length ≤ j ∧ at_ < j ∧ (∀ k, v2.ownBlock = some k → v.ownBlock = some k ∨ c4 ≤ k) ∧ Psr w1 B0 p lv T fin j ∧ Only (fun k => k = p ∨ v.ownBlock = some k) w0 w1) ?_ ?_
        · -- both ways
          refine W.cond h66 (fun c66 => ?_) (fun c66 => ?_)
          · try simp only [decide_eq_true_eq, decide_eq_false_iff_not, Bool.not_eq_true', Bool.not_eq_false', Bool.and_eq_true, Bool.or_eq_true, Bool.and_eq_false_iff, Bool.or_eq_false_iff] at c66
            refine W.seq ?_
            have hV : ((tkA T at_).text = [118, 101, 99, 116, 111, 114] ∨ (tkA T at_).text = [108, 105, 115, 116]) := by simpa using c66
            have hXV : exprT T (f + 1) at_ x deep = ((wantT T (at_ + 1) 3 [60]).bind fun _ j => (exprT T f j exM (deep + 1)).bind fun N j => (wantT T j 3 [44]).bind fun _ j => (numT T j).bind fun n j => (wantT T j 3 [62]).bind fun _ j => .ok ((atE at_ x).vec (decide ((tkA T at_).text = [108, 105, 115, 116])) n :: N) j) := by
              rw [exprT_s, if_neg hbg, if_neg hdd, hkn]
              exact if_pos hV
            refine W.region ?_
            refine WL.c rfl (o_fa 0 TI36 rfl TI3 rfl h6 ?_)
            refine WL.u (o_stB TI3 rfl (show _ = Value.int _ _ from rfl) rfl hC6 (show 0 < 7 by decide) ?_)
            intro wq hC6' ho6 hs6
            replace h := h.keep ho6 (fun k hk => by omega)
            replace hrow := own_only hrow ho6 (fun k hk he => by have := hvl k hk; omega)
            replace hC4 := ho6.blk hC4 (show ¬ c4 = c6 by omega)
            replace hC9 := ho6.blk hC9 (show ¬ c9 = c6 by omega)
            replace hq := hq.trans' ho6 (fun _ h => h) (fun k hk he => by omega)
            replace hC6 : wq.heap[c6]? = some (.cells (exV { X with kind := 4 }).toArray 36 (0, 0)) := hC6'
            clear hC6' ho6 hs6
            refine WL.c rfl (o_fa 5 TI36 rfl TI3 rfl h6 ?_)
            refine WL.u (o_stB TI3 rfl (show _ = Value.int _ _ from rfl) rfl hC6 (show 5 < 7 by decide) ?_)
            intro wr hC6' ho6 hs6
            replace h := h.keep ho6 (fun k hk => by omega)
            replace hrow := own_only hrow ho6 (fun k hk he => by have := hvl k hk; omega)
            replace hC4 := ho6.blk hC4 (show ¬ c4 = c6 by omega)
            replace hC9 := ho6.blk hC9 (show ¬ c9 = c6 by omega)
            replace hq := hq.trans' ho6 (fun _ h => h) (fun k hk he => by omega)
            replace hC6 : wr.heap[c6]? = some (.cells (exV { X with kind := 4, kids := 1 }).toArray 36 (0, 0)) := hC6'
            clear hC6' ho6 hs6
            refine WL.nil ?_
            refine W.seq ?_
            refine W.seq ?_
            refine W.region ?_
            refine WL.c rfl (o_fa 1 TI94 rfl TI9 rfl h9 ?_)
            refine WL.c rfl (o_ld TI9 rfl rfl (cell_of hC9 rfl) ?_)
            refine WL.c rfl (o_eqT rfl rfl ?_)
            refine WL.nil ?_
            refine W.cut (fun e1 w1 => Psr w1 B0 p lv T fin (at_ + 1) ∧ RowE w1 B0 v L ∧ w1.heap[c4]? = some (.cells #[.pointer (some ⟨p, 0, none⟩)] 67 (0, 0)) ∧ w1.heap[c6]? = some (.cells (exV (X.vec (decide ((tkA T at_).text = [108, 105, 115, 116])) X.n)).toArray 36 (0, 0)) ∧ w1.heap[c9]? = some (.cells (tokV (tkA T at_)) 94 (0, 0)) ∧ Only (fun k => k = p ∨ v.ownBlock = some k) w0 w1 ∧ e1 1 = v ∧ e1 3 = .int .i64 (deep : Int) ∧ e1 4 = .pointer (some ⟨c4, 0, none⟩) ∧ e1 6 = .pointer (some ⟨c6, 0, none⟩) ∧ e1 9 = .pointer (some ⟨c9, 0, none⟩) ∧ e1 12 = .int .i64 (L.length : Int)) ?_ ?_
            · -- both ways
              refine W.cond rfl (fun c73 => ?_) (fun c73 => ?_)
              · try simp only [decide_eq_true_eq, decide_eq_false_iff_not, Bool.not_eq_true', Bool.not_eq_false', Bool.and_eq_true, Bool.or_eq_true, Bool.and_eq_false_iff, Bool.or_eq_false_iff] at c73
                refine W.region ?_
                refine WL.c rfl (o_fa 0 TI36 rfl TI3 rfl h6 ?_)
                refine WL.u (o_stB TI3 rfl (show _ = Value.int _ _ from rfl) rfl hC6 (show 0 < 7 by decide) ?_)
                intro ws hC6' ho6 hs6
                replace h := h.keep ho6 (fun k hk => by omega)
                replace hrow := own_only hrow ho6 (fun k hk he => by have := hvl k hk; omega)
                replace hC4 := ho6.blk hC4 (show ¬ c4 = c6 by omega)
                replace hC9 := ho6.blk hC9 (show ¬ c9 = c6 by omega)
                replace hq := hq.trans' ho6 (fun _ h => h) (fun k hk he => by omega)
                replace hC6 : ws.heap[c6]? = some (.cells (exV { X with kind := 5, kids := 1 }).toArray 36 (0, 0)) := hC6'
                clear hC6' ho6 hs6
                refine WL.nil ?_
                first | exact ⟨h, hrow, hC4, (by rw [decide_eq_true c73]; exact hC6), hC9, hq, h1, h3, h4, h6, h9, h12⟩ | exact ⟨h, hrow, hC4, (by rw [decide_eq_false c73]; exact hC6), hC9, hq, h1, h3, h4, h6, h9, h12⟩
              · try simp only [decide_eq_true_eq, decide_eq_false_iff_not, Bool.not_eq_true', Bool.not_eq_false', Bool.and_eq_true, Bool.or_eq_true, Bool.and_eq_false_iff, Bool.or_eq_false_iff] at c73
                refine W.skip ?_
                first | exact ⟨h, hrow, hC4, (by rw [decide_eq_true c73]; exact hC6), hC9, hq, h1, h3, h4, h6, h9, h12⟩ | exact ⟨h, hrow, hC4, (by rw [decide_eq_false c73]; exact hC6), hC9, hq, h1, h3, h4, h6, h9, h12⟩
            rintro e w ⟨h, hrow, hC4, hC6, hC9, hq, h1, h3, h4, h6, h9, h12⟩
            refine W.seq ?_
            refine W.region ?_
            refine WL.c rfl (o_ld TI67 rfl h4 (cell_of hC4 rfl) ?_)
            refine WL.cx rfl (ox_call Tryd.call33 (lc rfl (lc rfl ln)) ((mark_spec B0 p lv T fin (at_ + 1) _ h [60]).mono ?_ (fun ch w' hh => by obtain ⟨e, j, h1, h2, h3⟩ := hh; exact ⟨e, j, by rw [hXV, h1]; rfl, h2, hq.ext h3⟩)))
            rintro v76 w76 ⟨hw1, h', hop⟩
            replace h := h'
            replace hrow := own_only hrow hop (fun k hk he => by subst he; exact hvp hk)
            replace hC4 := hop.blk hC4 (show ¬ c4 = p by omega)
            replace hC6 := hop.blk hC6 (show ¬ c6 = p by omega)
            replace hC9 := hop.blk hC9 (show ¬ c9 = p by omega)
            replace hq := hq.trans' hop (fun _ h => h) (fun _ _ h => .inl h)
            refine WL.nil ?_
            refine W.seq ?_
            obtain ⟨wd, hwd⟩ : ∃ wd, wd = w76.drew := ⟨_, rfl⟩
            have hxd : Ext w76 wd := hwd ▸ Only.drew w76
            replace h := h.ext hxd
            replace hrow := own_ext hrow hxd
            replace hC4 := hxd.blk hC4 (fun h => h)
            replace hC6 := hxd.blk hC6 (fun h => h)
            replace hC9 := hxd.blk hC9 (fun h => h)
            replace hq := hq.ext hxd
            obtain ⟨X2, hX2⟩ : ∃ X2, X2 = (X.vec (decide ((tkA T at_).text = [108, 105, 115, 116])) X.n) := ⟨_, rfl⟩
            rw [← hX2] at hC6
            have hvd : ∀ k, v.ownBlock = some k → k < wd.heap.size := fun k hk => (hrow.lt k hk).2
            have hwd0 := hq.size
            refine W.drawF 8 [4] [fun k => v.ownBlock = some k] [(1, fun v _ => v = _), (3, fun v _ => v = _), (4, fun v _ => v = _), (6, fun v _ => v = _), (12, fun v _ => v = _)] rfl (by kernel_rfl) (by kernel_rfl) ⟨Mono.eq, Mono.eq, Mono.eq, Mono.eq, Mono.eq, trivial⟩ ⟨h1, h3, h4, h6, h12, trivial⟩ ?_
            refine WDS.p rfl (by decide) (fun e w hR hh => by obtain ⟨h4, -⟩ := hh; rw [← hwd] at hR; have hc := hR.blk hC4 (fun hF => by rcases hF with hF | hF; have := hvl _ hF; omega; exact hF); exact SG.n (o_ld TI67 rfl h4 (cell_of hc rfl) ⟨rfl, Only.refl No _⟩)) ?_
            refine WDS.p rfl (by decide) (fun e w hR hh => by obtain ⟨h1, -⟩ := hh; exact SG.n (o_mvh h1 ⟨rfl, Only.refl No _⟩)) ?_
            refine WDS.p rfl (by decide) (fun e w hR hh => by obtain ⟨h6, -⟩ := hh; rw [← hwd] at hR; have hc := hR.blk hC6 (fun hF => by rcases hF with hF | hF; have := hvl _ hF; omega; exact hF); exact SG.n (o_ldA TI36 rfl h6 (show Cells _ c6 0 (exV X2) from Cells.of hc 0 _ (by simp)) rfl ⟨rfl, Only.refl No _⟩)) ?_
            refine WDS.q 0 (fun u w => w.ownsRow wd.heap.size 36 7 u 1 (exV X2)) (fun u w w2 hR hh => own_only hh hR (fun k hk hF => by rcases hF with hF | hF; have := hvd k hF; have := (hh.lt k hk).1; omega; exact hF)) (by kernel_rfl) rfl (by decide) (fun e w hR hh => by obtain ⟨h79, -⟩ := hh; rw [← hwd] at hR; exact SG.n (o_bs1 TI32 TI36 h79 (by decide) (by decide) rfl ⟨own_mono (own_new1 rfl) hR.size, Only.alloc w _⟩)) ?_
            refine WDS.mf 0 1 (fun u w => RowE w B0 u (L ++ [X2]) ∧ ∀ k, u.ownBlock = some k → v.ownBlock = some k ∨ wd.heap.size ≤ k) (fun u w w2 hR hh => ⟨own_ext hh.1 hR, hh.2⟩) (by kernel_rfl) rfl rfl rfl (fun e w hR hW hh => by obtain ⟨h80, h78, -⟩ := hh; rw [← hwd] at hR hW; have hrow4 := own_only hrow hW (fun k hk hF => hF); have hb0 := h.b0; have hws := hW.size; exact SGX.n (OP.x (o_apO B0 TI32 TI36 h78 rfl hrow4 (Sl.own h80) rfl (by decide) (exV_one (y := X2)) (by rw [maxLen_eq]; omega) (by omega) (by omega) (fun v' w' h1 h2 h3 _ => ⟨⟨RowE.snoc h1, fun k hk => by rcases h3 with h3 | h3; exact .inl (by rw [← h3]; exact hk); rw [h3, Option.some.injEq] at hk; have := hW.size; omega⟩, h2⟩)))) ?_
            refine WDS.p rfl (by decide) (fun e w hR hh => by skip; exact SG.n (o_bldC (cs := [(.int .i64 0), (.int .i64 0), (.string ⟨#[]⟩), (.string ⟨#[]⟩), (.int .i64 0), (.int .i64 0), (.int .i64 (-1))]) TI36 (Sizes.cons TI3 (Sizes.cons TI3 (Sizes.cons TI9 (Sizes.cons TI9 (Sizes.cons TI3 (Sizes.cons TI3 (Sizes.cons TI3 Sizes.nil))))))) rfl (lcp (show _ = Value.int _ _ from rfl) lnp) rfl rfl ⟨rfl, Only.refl No _⟩)) ?_
            refine WDS.p rfl (by decide) (fun e w hR hh => by obtain ⟨h3, -⟩ := hh; exact SG.n (o_mvh h3 ⟨rfl, Only.refl No _⟩)) ?_
            refine WDS.p rfl (by decide) (fun e w hR hh => by obtain ⟨h83, -⟩ := hh; exact SG.n (o_addi h83 rfl (by omega) ⟨rfl, Only.refl No _⟩)) ?_
            rintro e w hR ⟨h84, h83, h82, h81, h80, h79, h78, h77, h1, h3, h4, h6, h12, -⟩
            rw [← hwd] at hR
            obtain ⟨hr81, hb81⟩ := h81
            replace h := h.keep hR (fun k hF => by rcases hF with hF | hF; have := (hrow.lt k hF).1; omega; exact hF.elim)
            replace hC4 := hR.blk hC4 (fun hF => by rcases hF with hF | hF; have := hvl _ hF; omega; exact hF)
            replace hC9 := hR.blk hC9 (fun hF => by rcases hF with hF | hF; have := hvl _ hF; omega; exact hF)
            replace hq := hq.trans' hR (fun _ h => h) (fun k hk hF => by rcases hF with hF | hF; exact .inr hF; exact hF.elim)
            have hsz8 := hR.size
            have hE2 := hE (by omega) (at_ + 2) (by omega) (at_ + 1 + 1) exM (L ++ [X2]) (e 81) _ (Nat.le_refl _) rfl h hr81 (by rw [List.length_append, List.length_singleton]; omega)
            rw [plE_exM, show ((deep + 1 : Nat) : Int) = (deep : Int) + 1 by omega] at hE2
            have hpr : ¬ (e 81).ownBlock = some p := own_off hr81 h.cell (by decide)
            have hcr : ¬ (e 81).ownBlock = some c4 := own_off hr81 hC4 (by decide)
            refine WL.cx rfl (ox_call Tryd.call34 (lc h77 (lc rfl (lc h82 (lc h84 ln)))) ((hE2).mono ?_ (fun ch w' hh => by obtain ⟨e, j, h1, h2, h3⟩ := hh; replace h1 : exprT T f (at_ + 1 + 1) exM (deep + 1) = .bad e j := h1; exact ⟨e, j, by rw [hXV, hw1, Pr.bind_ok, h1]; rfl, h2, hq.trans' h3 (fun _ h => h) (fun k hk hF => hF.imp id (fun he => (hb81 k he).resolve_right (by omega)))⟩)))
            rintro v85 w85 ⟨N, j, hN, hrow2, hNl, hij, hvb2, h', hop⟩
            replace hN : exprT T f (at_ + 1 + 1) exM (deep + 1) = .ok N j := hN
            have erow : (L ++ [X2]) ++ N.map (plE T) = L ++ X2 :: N.map (plE T) := by simp
            rw [erow] at hrow2
            rw [List.length_append, List.length_singleton] at hNl
            replace h := h'
            replace hC4 := hop.blk hC4 (fun hF => by rcases hF with hF | hF; omega; exact hcr hF)
            replace hq := hq.trans' hop (fun _ h => h) (fun k hk hF => hF.imp id (fun he => (hb81 k he).resolve_right (by omega)))
            have hvb : ∀ k, v85.ownBlock = some k → v.ownBlock = some k ∨ c4 ≤ k := fun k hk => by
              rcases hvb2 k hk with h8 | h8
              · exact (hb81 k h8).imp id (fun h9 => by omega)
              · exact .inr (by omega)
            obtain ⟨g2, cap2, rfl, hgb3⟩ := own_some hrow2 (by simp only [List.length_append, List.length_cons]; omega)
            have hg2p : ¬ g2 = p := fun he => own_off hrow2 h.cell (by decide) (by rw [he]; rfl)
            have hg2c : ¬ g2 = c4 := fun he => own_off hrow2 hC4 (by decide) (by rw [he]; rfl)
            have hg2r : p < g2 := by have := (hrow2.lt g2 rfl).1; have := h.hp; omega
            have hjl := h.le
            refine WL.c rfl (o_ash (by first | exact (show _ = Value.slice _ _ _ from rfl) | exact rfl) ?_)
            refine WL.nil ?_
            refine W.seq ?_
            refine W.region ?_
            refine WL.c rfl (o_ld TI67 rfl h4 (cell_of hC4 rfl) ?_)
            refine WL.cx rfl (ox_call Tryd.call33 (lc rfl (lc rfl ln)) ((mark_spec B0 p lv T fin j _ h [44]).mono ?_ (fun ch w' hh => by obtain ⟨e, j, h1, h2, h3⟩ := hh; exact ⟨e, j, by rw [hXV, hw1, Pr.bind_ok, hN, Pr.bind_ok, h1]; rfl, h2, hq.ext h3⟩)))
            rintro v87 w87 ⟨hw2, h', hop⟩
            replace h := h'
            replace hC4 := hop.blk hC4 (show ¬ c4 = p by omega)
            replace hrow2 := own_only hrow2 hop (fun k hk he => by obtain rfl := ob hk; exact hg2p he)
            replace hq := hq.trans' hop (fun _ h => h) (fun _ _ h => .inl h)
            refine WL.nil ?_
            refine W.seq ?_
            refine W.region ?_
            refine WL.c rfl (o_mvh (by first | exact (show _ = Value.slice _ _ _ from rfl) | exact rfl) ?_)
            refine WL.c rfl (o_mvh h12 ?_)
            refine WL.c rfl (o_ld TI67 rfl h4 (cell_of hC4 rfl) ?_)
            refine WL.cx rfl (ox_call Tryd.call53 (lc rfl ln) ((nump_spec B0 p lv T fin (j + 1) _ h).mono ?_ (fun ch w' hh => by obtain ⟨e, j, h1, h2, h3⟩ := hh; exact ⟨e, j, by rw [hXV, hw1, Pr.bind_ok, hN, Pr.bind_ok, hw2, Pr.bind_ok, h1]; rfl, h2, hq.ext h3⟩)))
            rintro v91 w91 ⟨nn, hw3, rfl, h', hop⟩
            replace h := h'
            replace hC4 := hop.blk hC4 (show ¬ c4 = p by omega)
            replace hrow2 := own_only hrow2 hop (fun k hk he => by obtain rfl := ob hk; exact hg2p he)
            replace hq := hq.trans' hop (fun _ h => h) (fun _ _ h => .inl h)
            refine WL.c rfl (o_ixB (i := L.length) TI32 TI36 (show _ = Value.slice (some ⟨g2, 0, none⟩) (L ++ X2 :: N.map (plE T)).length cap2 from rfl) (by first | rfl | exact h12) (by simp only [List.length_append, List.length_cons]; omega) ?_)
            refine WL.c rfl (o_fa 1 TI36 rfl TI3 rfl rfl ?_)
            refine WL.u (o_stRj (i := L.length * 7 + 1) TI3 rfl (by omega) (show _ = Value.int .i64 (nn : Int) from rfl) rfl hrow2 rfl (by simp only [List.length_append, List.length_cons]; omega) ?_)
            intro w93 hrow3 ho93 hs93
            rw [exs_setN] at hrow3
            clear hrow2
            have hrow2 : RowE w93 B0 (.slice (some ⟨g2, 0, none⟩) (L ++ X2 :: N.map (plE T)).length cap2) (L ++ X2.wn (nn : Int) :: N.map (plE T)) := by
              show World.ownsRow _ _ _ _ _ (L ++ X2.wn (nn : Int) :: N.map (plE T)).length _
              rw [show (L ++ X2.wn (nn : Int) :: N.map (plE T)).length = (L ++ X2 :: N.map (plE T)).length by simp only [List.length_append, List.length_cons]]
              exact hrow3
            clear hrow3
            replace h := h.keep ho93 (fun k hk => by obtain rfl := ob hk; exact hg2r)
            replace hC4 := ho93.blk hC4 (fun hk => hg2c (ob hk))
            replace hq := hq.trans' ho93 (fun _ h => h) (fun k hk hF => .inr ((hvb k hF).resolve_right (by omega)))
            refine WL.nil ?_
            refine W.region ?_
            refine WL.c rfl (o_ld TI67 rfl h4 (cell_of hC4 rfl) ?_)
            refine WL.cx rfl (ox_call Tryd.call33 (lc rfl (lc rfl ln)) ((mark_spec B0 p lv T fin (j + 1 + 1) _ h [62]).mono ?_ (fun ch w' hh => by obtain ⟨e, j, h1, h2, h3⟩ := hh; exact ⟨e, j, by rw [hXV, hw1, Pr.bind_ok, hN, Pr.bind_ok, hw2, Pr.bind_ok, hw3, Pr.bind_ok, h1]; rfl, h2, hq.ext h3⟩)))
            rintro v95 w95 ⟨hw4, h', hop⟩
            replace h := h'
            replace hC4 := hop.blk hC4 (show ¬ c4 = p by omega)
            replace hrow2 := own_only hrow2 hop (fun k hk he => by obtain rfl := ob hk; exact hg2p he)
            replace hq := hq.trans' hop (fun _ h => h) (fun _ _ h => .inl h)
            refine WL.nil ?_
            have hfin : exprT T (f + 1) at_ x deep = .ok ((atE at_ x).vec (decide ((tkA T at_).text = [108, 105, 115, 116])) nn :: N) (j + 1 + 1 + 1) ∧ RowE w95 B0 (.slice (some ⟨g2, 0, none⟩) (L ++ X2 :: N.map (plE T)).length cap2) (L ++ ((atE at_ x).vec (decide ((tkA T at_).text = [108, 105, 115, 116])) nn :: N).map (plE T)) ∧ L.length + ((atE at_ x).vec (decide ((tkA T at_).text = [108, 105, 115, 116])) nn :: N).length ≤ j + 1 + 1 + 1 ∧ at_ < j + 1 + 1 + 1 ∧ (∀ k, (Value.slice (some ⟨g2, 0, none⟩) (L ++ X2 :: N.map (plE T)).length cap2).ownBlock = some k → v.ownBlock = some k ∨ c4 ≤ k) ∧ Psr w95 B0 p lv T fin (j + 1 + 1 + 1) ∧ Only (fun k => k = p ∨ v.ownBlock = some k) w0 w95 := by
              refine ⟨by rw [hXV, hw1, Pr.bind_ok, hN, Pr.bind_ok, hw2, Pr.bind_ok, hw3, Pr.bind_ok, hw4]; rfl, ?_, by rw [List.length_cons]; omega, by omega, hvb, h, hq⟩
              rw [List.map_cons, plE_vec, ← hX]
              rw [hX2] at hrow2 ⊢
              exact hrow2
            exact ⟨_, _, _, rfl, hfin⟩
          · try simp only [decide_eq_true_eq, decide_eq_false_iff_not, Bool.not_eq_true', Bool.not_eq_false', Bool.and_eq_true, Bool.or_eq_true, Bool.and_eq_false_iff, Bool.or_eq_false_iff] at c66
            refine W.seq ?_
            have hV : ¬ ((tkA T at_).text = [118, 101, 99, 116, 111, 114] ∨ (tkA T at_).text = [108, 105, 115, 116]) := by simpa using c66
            refine W.region ?_
            refine WL.c rfl (o_eqT h57 rfl ?_)
            refine WL.c rfl (o_ash (show _ = Value.bool _ from rfl) ?_)
            refine WL.nil ?_
            refine W.cond rfl (fun c96 => ?_) (fun c96 => ?_)
            · try simp only [decide_eq_true_eq, decide_eq_false_iff_not, Bool.not_eq_true', Bool.not_eq_false', Bool.and_eq_true, Bool.or_eq_true, Bool.and_eq_false_iff, Bool.or_eq_false_iff] at c96
              refine W.seq ?_
              have hO : (tkA T at_).text = [111, 112, 116, 105, 111, 110] := by simpa using c96
              have hXO : exprT T (f + 1) at_ x deep = ((wantT T (at_ + 1) 3 [60]).bind fun _ j => (exprT T f j exM (deep + 1)).bind fun N j => (wantT T j 3 [62]).bind fun _ j => .ok ((atE at_ x).opt :: N) j) := by
                rw [exprT_s, if_neg hbg, if_neg hdd, hkn]
                exact (if_neg hV).trans (if_pos hO)
              refine W.region ?_
              refine WL.c rfl (o_fa 0 TI36 rfl TI3 rfl h6 ?_)
              refine WL.u (o_stB TI3 rfl (show _ = Value.int _ _ from rfl) rfl hC6 (show 0 < 7 by decide) ?_)
              intro wq hC6' ho6 hs6
              replace h := h.keep ho6 (fun k hk => by omega)
              replace hrow := own_only hrow ho6 (fun k hk he => by have := hvl k hk; omega)
              replace hC4 := ho6.blk hC4 (show ¬ c4 = c6 by omega)
              replace hC9 := ho6.blk hC9 (show ¬ c9 = c6 by omega)
              replace hq := hq.trans' ho6 (fun _ h => h) (fun k hk he => by omega)
              replace hC6 : wq.heap[c6]? = some (.cells (exV { X with kind := 6 }).toArray 36 (0, 0)) := hC6'
              clear hC6' ho6 hs6
              refine WL.c rfl (o_fa 5 TI36 rfl TI3 rfl h6 ?_)
              refine WL.u (o_stB TI3 rfl (show _ = Value.int _ _ from rfl) rfl hC6 (show 5 < 7 by decide) ?_)
              intro wr hC6' ho6 hs6
              replace h := h.keep ho6 (fun k hk => by omega)
              replace hrow := own_only hrow ho6 (fun k hk he => by have := hvl k hk; omega)
              replace hC4 := ho6.blk hC4 (show ¬ c4 = c6 by omega)
              replace hC9 := ho6.blk hC9 (show ¬ c9 = c6 by omega)
              replace hq := hq.trans' ho6 (fun _ h => h) (fun k hk he => by omega)
              replace hC6 : wr.heap[c6]? = some (.cells (exV X.opt).toArray 36 (0, 0)) := hC6'
              clear hC6' ho6 hs6
              refine WL.nil ?_
              refine W.seq ?_
              refine W.region ?_
              refine WL.c rfl (o_ld TI67 rfl h4 (cell_of hC4 rfl) ?_)
              refine WL.cx rfl (ox_call Tryd.call33 (lc rfl (lc rfl ln)) ((mark_spec B0 p lv T fin (at_ + 1) _ h [60]).mono ?_ (fun ch w' hh => by obtain ⟨e, j, h1, h2, h3⟩ := hh; exact ⟨e, j, by rw [hXO, h1]; rfl, h2, hq.ext h3⟩)))
              rintro v101 w101 ⟨hw1, h', hop⟩
              replace h := h'
              replace hrow := own_only hrow hop (fun k hk he => by subst he; exact hvp hk)
              replace hC4 := hop.blk hC4 (show ¬ c4 = p by omega)
              replace hC6 := hop.blk hC6 (show ¬ c6 = p by omega)
              replace hC9 := hop.blk hC9 (show ¬ c9 = p by omega)
              replace hq := hq.trans' hop (fun _ h => h) (fun _ _ h => .inl h)
              refine WL.nil ?_
              refine W.seq ?_
              obtain ⟨wd, hwd⟩ : ∃ wd, wd = w101.drew := ⟨_, rfl⟩
              have hxd : Ext w101 wd := hwd ▸ Only.drew w101
              replace h := h.ext hxd
              replace hrow := own_ext hrow hxd
              replace hC4 := hxd.blk hC4 (fun h => h)
              replace hC6 := hxd.blk hC6 (fun h => h)
              replace hC9 := hxd.blk hC9 (fun h => h)
              replace hq := hq.ext hxd
              obtain ⟨X2, hX2⟩ : ∃ X2, X2 = X.opt := ⟨_, rfl⟩
              rw [← hX2] at hC6
              have hvd : ∀ k, v.ownBlock = some k → k < wd.heap.size := fun k hk => (hrow.lt k hk).2
              have hwd0 := hq.size
              refine W.drawF 8 [4] [fun k => v.ownBlock = some k] [(1, fun v _ => v = _), (3, fun v _ => v = _), (4, fun v _ => v = _), (6, fun v _ => v = _), (12, fun v _ => v = _)] rfl (by kernel_rfl) (by kernel_rfl) ⟨Mono.eq, Mono.eq, Mono.eq, Mono.eq, Mono.eq, trivial⟩ ⟨h1, h3, h4, h6, h12, trivial⟩ ?_
              refine WDS.p rfl (by decide) (fun e w hR hh => by obtain ⟨h4, -⟩ := hh; rw [← hwd] at hR; have hc := hR.blk hC4 (fun hF => by rcases hF with hF | hF; have := hvl _ hF; omega; exact hF); exact SG.n (o_ld TI67 rfl h4 (cell_of hc rfl) ⟨rfl, Only.refl No _⟩)) ?_
              refine WDS.p rfl (by decide) (fun e w hR hh => by obtain ⟨h1, -⟩ := hh; exact SG.n (o_mvh h1 ⟨rfl, Only.refl No _⟩)) ?_
              refine WDS.p rfl (by decide) (fun e w hR hh => by obtain ⟨h6, -⟩ := hh; rw [← hwd] at hR; have hc := hR.blk hC6 (fun hF => by rcases hF with hF | hF; have := hvl _ hF; omega; exact hF); exact SG.n (o_ldA TI36 rfl h6 (show Cells _ c6 0 (exV X2) from Cells.of hc 0 _ (by simp)) rfl ⟨rfl, Only.refl No _⟩)) ?_
              refine WDS.q 0 (fun u w => w.ownsRow wd.heap.size 36 7 u 1 (exV X2)) (fun u w w2 hR hh => own_only hh hR (fun k hk hF => by rcases hF with hF | hF; have := hvd k hF; have := (hh.lt k hk).1; omega; exact hF)) (by kernel_rfl) rfl (by decide) (fun e w hR hh => by obtain ⟨h104, -⟩ := hh; rw [← hwd] at hR; exact SG.n (o_bs1 TI32 TI36 h104 (by decide) (by decide) rfl ⟨own_mono (own_new1 rfl) hR.size, Only.alloc w _⟩)) ?_
              refine WDS.mf 0 1 (fun u w => RowE w B0 u (L ++ [X2]) ∧ ∀ k, u.ownBlock = some k → v.ownBlock = some k ∨ wd.heap.size ≤ k) (fun u w w2 hR hh => ⟨own_ext hh.1 hR, hh.2⟩) (by kernel_rfl) rfl rfl rfl (fun e w hR hW hh => by obtain ⟨h105, h103, -⟩ := hh; rw [← hwd] at hR hW; have hrow4 := own_only hrow hW (fun k hk hF => hF); have hb0 := h.b0; have hws := hW.size; exact SGX.n (OP.x (o_apO B0 TI32 TI36 h103 rfl hrow4 (Sl.own h105) rfl (by decide) (exV_one (y := X2)) (by rw [maxLen_eq]; omega) (by omega) (by omega) (fun v' w' h1 h2 h3 _ => ⟨⟨RowE.snoc h1, fun k hk => by rcases h3 with h3 | h3; exact .inl (by rw [← h3]; exact hk); rw [h3, Option.some.injEq] at hk; have := hW.size; omega⟩, h2⟩)))) ?_
              refine WDS.p rfl (by decide) (fun e w hR hh => by skip; exact SG.n (o_bldC (cs := [(.int .i64 0), (.int .i64 0), (.string ⟨#[]⟩), (.string ⟨#[]⟩), (.int .i64 0), (.int .i64 0), (.int .i64 (-1))]) TI36 (Sizes.cons TI3 (Sizes.cons TI3 (Sizes.cons TI9 (Sizes.cons TI9 (Sizes.cons TI3 (Sizes.cons TI3 (Sizes.cons TI3 Sizes.nil))))))) rfl (lcp (show _ = Value.int _ _ from rfl) lnp) rfl rfl ⟨rfl, Only.refl No _⟩)) ?_
              refine WDS.p rfl (by decide) (fun e w hR hh => by obtain ⟨h3, -⟩ := hh; exact SG.n (o_mvh h3 ⟨rfl, Only.refl No _⟩)) ?_
              refine WDS.p rfl (by decide) (fun e w hR hh => by obtain ⟨h108, -⟩ := hh; exact SG.n (o_addi h108 rfl (by omega) ⟨rfl, Only.refl No _⟩)) ?_
              rintro e w hR ⟨h109, h108, h107, h106, h105, h104, h103, h102, h1, h3, h4, h6, h12, -⟩
              rw [← hwd] at hR
              obtain ⟨hr81, hb81⟩ := h106
              replace h := h.keep hR (fun k hF => by rcases hF with hF | hF; have := (hrow.lt k hF).1; omega; exact hF.elim)
              replace hC4 := hR.blk hC4 (fun hF => by rcases hF with hF | hF; have := hvl _ hF; omega; exact hF)
              replace hC9 := hR.blk hC9 (fun hF => by rcases hF with hF | hF; have := hvl _ hF; omega; exact hF)
              replace hq := hq.trans' hR (fun _ h => h) (fun k hk hF => by rcases hF with hF | hF; exact .inr hF; exact hF.elim)
              have hsz8 := hR.size
              have hE2 := hE (by omega) (at_ + 2) (by omega) (at_ + 1 + 1) exM (L ++ [X2]) (e 106) _ (Nat.le_refl _) rfl h hr81 (by rw [List.length_append, List.length_singleton]; omega)
              rw [plE_exM, show ((deep + 1 : Nat) : Int) = (deep : Int) + 1 by omega] at hE2
              have hpr : ¬ (e 106).ownBlock = some p := own_off hr81 h.cell (by decide)
              have hcr : ¬ (e 106).ownBlock = some c4 := own_off hr81 hC4 (by decide)
              refine WL.cx rfl (ox_call Tryd.call34 (lc h102 (lc rfl (lc h107 (lc h109 ln)))) ((hE2).mono ?_ (fun ch w' hh => by obtain ⟨e, j, h1, h2, h3⟩ := hh; replace h1 : exprT T f (at_ + 1 + 1) exM (deep + 1) = .bad e j := h1; exact ⟨e, j, by rw [hXO, hw1, Pr.bind_ok, h1]; rfl, h2, hq.trans' h3 (fun _ h => h) (fun k hk hF => hF.imp id (fun he => (hb81 k he).resolve_right (by omega)))⟩)))
              rintro v110 w110 ⟨N, j, hN, hrow2, hNl, hij, hvb2, h', hop⟩
              replace hN : exprT T f (at_ + 1 + 1) exM (deep + 1) = .ok N j := hN
              have erow : (L ++ [X2]) ++ N.map (plE T) = L ++ X2 :: N.map (plE T) := by simp
              rw [erow] at hrow2
              rw [List.length_append, List.length_singleton] at hNl
              replace h := h'
              replace hC4 := hop.blk hC4 (fun hF => by rcases hF with hF | hF; omega; exact hcr hF)
              replace hq := hq.trans' hop (fun _ h => h) (fun k hk hF => hF.imp id (fun he => (hb81 k he).resolve_right (by omega)))
              have hvb : ∀ k, v110.ownBlock = some k → v.ownBlock = some k ∨ c4 ≤ k := fun k hk => by
                rcases hvb2 k hk with h8 | h8
                · exact (hb81 k h8).imp id (fun h9 => by omega)
                · exact .inr (by omega)
              obtain ⟨g2, cap2, rfl, hgb3⟩ := own_some hrow2 (by simp only [List.length_append, List.length_cons]; omega)
              have hg2p : ¬ g2 = p := fun he => own_off hrow2 h.cell (by decide) (by rw [he]; rfl)
              have hg2c : ¬ g2 = c4 := fun he => own_off hrow2 hC4 (by decide) (by rw [he]; rfl)
              have hg2r : p < g2 := by have := (hrow2.lt g2 rfl).1; have := h.hp; omega
              have hjl := h.le
              refine WL.c rfl (o_ash (by first | exact (show _ = Value.slice _ _ _ from rfl) | exact rfl) ?_)
              refine WL.nil ?_
              refine W.region ?_
              refine WL.c rfl (o_ld TI67 rfl h4 (cell_of hC4 rfl) ?_)
              refine WL.cx rfl (ox_call Tryd.call33 (lc rfl (lc rfl ln)) ((mark_spec B0 p lv T fin j _ h [62]).mono ?_ (fun ch w' hh => by obtain ⟨e, j, h1, h2, h3⟩ := hh; exact ⟨e, j, by rw [hXO, hw1, Pr.bind_ok, hN, Pr.bind_ok, h1]; rfl, h2, hq.ext h3⟩)))
              rintro v112 w112 ⟨hw2, h', hop⟩
              replace h := h'
              replace hC4 := hop.blk hC4 (show ¬ c4 = p by omega)
              replace hrow2 := own_only hrow2 hop (fun k hk he => by obtain rfl := ob hk; exact hg2p he)
              replace hq := hq.trans' hop (fun _ h => h) (fun _ _ h => .inl h)
              refine WL.nil ?_
              have hfin : exprT T (f + 1) at_ x deep = .ok ((atE at_ x).opt :: N) (j + 1) ∧ RowE w112 B0 (.slice (some ⟨g2, 0, none⟩) (L ++ X2 :: N.map (plE T)).length cap2) (L ++ ((atE at_ x).opt :: N).map (plE T)) ∧ L.length + ((atE at_ x).opt :: N).length ≤ j + 1 ∧ at_ < j + 1 ∧ (∀ k, (Value.slice (some ⟨g2, 0, none⟩) (L ++ X2 :: N.map (plE T)).length cap2).ownBlock = some k → v.ownBlock = some k ∨ c4 ≤ k) ∧ Psr w112 B0 p lv T fin (j + 1) ∧ Only (fun k => k = p ∨ v.ownBlock = some k) w0 w112 := by
                refine ⟨by rw [hXO, hw1, Pr.bind_ok, hN, Pr.bind_ok, hw2]; rfl, ?_, by rw [List.length_cons]; omega, by omega, hvb, h, hq⟩
                rw [List.map_cons, plE_opt, ← hX]
                rw [hX2] at hrow2 ⊢
                exact hrow2
              exact ⟨_, _, _, rfl, hfin⟩
            · try simp only [decide_eq_true_eq, decide_eq_false_iff_not, Bool.not_eq_true', Bool.not_eq_false', Bool.and_eq_true, Bool.or_eq_true, Bool.and_eq_false_iff, Bool.or_eq_false_iff] at c96
              refine W.seq ?_
              have hO : ¬ (tkA T at_).text = [111, 112, 116, 105, 111, 110] := by simpa using c96
              refine W.region ?_
              refine WL.c rfl (o_eqT h57 rfl ?_)
              refine WL.c rfl (o_ash (show _ = Value.bool _ from rfl) ?_)
              refine WL.nil ?_
              refine W.cond rfl (fun c113 => ?_) (fun c113 => ?_)
              · try simp only [decide_eq_true_eq, decide_eq_false_iff_not, Bool.not_eq_true', Bool.not_eq_false', Bool.and_eq_true, Bool.or_eq_true, Bool.and_eq_false_iff, Bool.or_eq_false_iff] at c113
                refine W.seq ?_
                have hU : (tkA T at_).text = [117, 110, 105, 111, 110] := by simpa using c113
                have hXR : exprT T (f + 1) at_ x deep = (((wantT T (at_ + 1) 3 [123]).bind fun _ j => rowsT (fun i x => exprT T f i x (deep + 1)) T true f j 0).bind fun r j => .ok ((atE at_ x).br true (r.2 : Nat) :: r.1) j) := by
                  rw [exprT_s, if_neg hbg, if_neg hdd, hkn]
                  exact (if_neg hV).trans ((if_neg hO).trans (if_pos hU))
                refine W.region ?_
                refine WL.c rfl (o_fa 0 TI36 rfl TI3 rfl h6 ?_)
                refine WL.u (o_stB TI3 rfl (show _ = Value.int _ _ from rfl) rfl hC6 (show 0 < 7 by decide) ?_)
                intro wq hC6' ho6 hs6
                replace h := h.keep ho6 (fun k hk => by omega)
                replace hrow := own_only hrow ho6 (fun k hk he => by have := hvl k hk; omega)
                replace hC4 := ho6.blk hC4 (show ¬ c4 = c6 by omega)
                replace hC9 := ho6.blk hC9 (show ¬ c9 = c6 by omega)
                replace hq := hq.trans' ho6 (fun _ h => h) (fun k hk he => by omega)
                replace hC6 : wq.heap[c6]? = some (.cells (exV { X with kind := 7 }).toArray 36 (0, 0)) := hC6'
                clear hC6' ho6 hs6
                have hX6 : ({ X with kind := 7 } : Ex) = X.br true 0 := by show _ = ({ X with kind := _, kids := 0 } : Ex); rw [← hXk]; rfl
                rw [hX6] at hC6
                refine WL.nil ?_
                obtain ⟨wd, hwd⟩ : ∃ wd, wd = wq.drew := ⟨_, rfl⟩
                have hxd : Ext wq wd := hwd ▸ Only.drew wq
                replace h := h.ext hxd
                replace hrow := own_ext hrow hxd
                replace hC4 := hxd.blk hC4 (fun h => h)
                replace hC6 := hxd.blk hC6 (fun h => h)
                replace hC9 := hxd.blk hC9 (fun h => h)
                replace hq := hq.ext hxd
                obtain ⟨X2, hX2⟩ : ∃ X2, X2 = (X.br true 0) := ⟨_, rfl⟩
                rw [← hX2] at hC6
                have hvd : ∀ k, v.ownBlock = some k → k < wd.heap.size := fun k hk => (hrow.lt k hk).2
                have hwd0 := hq.size
                refine W.drawF 8 [4] [fun k => v.ownBlock = some k] [(1, fun v _ => v = _), (3, fun v _ => v = _), (4, fun v _ => v = _), (6, fun v _ => v = _), (12, fun v _ => v = _)] rfl (by kernel_rfl) (by kernel_rfl) ⟨Mono.eq, Mono.eq, Mono.eq, Mono.eq, Mono.eq, trivial⟩ ⟨h1, h3, h4, h6, h12, trivial⟩ ?_
                refine WDS.p rfl (by decide) (fun e w hR hh => by obtain ⟨h4, -⟩ := hh; rw [← hwd] at hR; have hc := hR.blk hC4 (fun hF => by rcases hF with hF | hF; have := hvl _ hF; omega; exact hF); exact SG.n (o_ld TI67 rfl h4 (cell_of hc rfl) ⟨rfl, Only.refl No _⟩)) ?_
                refine WDS.p rfl (by decide) (fun e w hR hh => by obtain ⟨h1, -⟩ := hh; exact SG.n (o_mvh h1 ⟨rfl, Only.refl No _⟩)) ?_
                refine WDS.p rfl (by decide) (fun e w hR hh => by obtain ⟨h6, -⟩ := hh; rw [← hwd] at hR; have hc := hR.blk hC6 (fun hF => by rcases hF with hF | hF; have := hvl _ hF; omega; exact hF); exact SG.n (o_ldA TI36 rfl h6 (show Cells _ c6 0 (exV X2) from Cells.of hc 0 _ (by simp)) rfl ⟨rfl, Only.refl No _⟩)) ?_
                refine WDS.q 0 (fun u w => w.ownsRow wd.heap.size 36 7 u 1 (exV X2)) (fun u w w2 hR hh => own_only hh hR (fun k hk hF => by rcases hF with hF | hF; have := hvd k hF; have := (hh.lt k hk).1; omega; exact hF)) (by kernel_rfl) rfl (by decide) (fun e w hR hh => by obtain ⟨h118, -⟩ := hh; rw [← hwd] at hR; exact SG.n (o_bs1 TI32 TI36 h118 (by decide) (by decide) rfl ⟨own_mono (own_new1 rfl) hR.size, Only.alloc w _⟩)) ?_
                refine WDS.mf 0 1 (fun u w => RowE w B0 u (L ++ [X2]) ∧ ∀ k, u.ownBlock = some k → v.ownBlock = some k ∨ wd.heap.size ≤ k) (fun u w w2 hR hh => ⟨own_ext hh.1 hR, hh.2⟩) (by kernel_rfl) rfl rfl rfl (fun e w hR hW hh => by obtain ⟨h119, h117, -⟩ := hh; rw [← hwd] at hR hW; have hrow4 := own_only hrow hW (fun k hk hF => hF); have hb0 := h.b0; have hws := hW.size; exact SGX.n (OP.x (o_apO B0 TI32 TI36 h117 rfl hrow4 (Sl.own h119) rfl (by decide) (exV_one (y := X2)) (by rw [maxLen_eq]; omega) (by omega) (by omega) (fun v' w' h1 h2 h3 _ => ⟨⟨RowE.snoc h1, fun k hk => by rcases h3 with h3 | h3; exact .inl (by rw [← h3]; exact hk); rw [h3, Option.some.injEq] at hk; have := hW.size; omega⟩, h2⟩)))) ?_
                refine WDS.p rfl (by decide) (fun e w hR hh => by obtain ⟨h12, -⟩ := hh; exact SG.n (o_mvh h12 ⟨rfl, Only.refl No _⟩)) ?_
                refine WDS.p rfl (by decide) (fun e w hR hh => by obtain ⟨h3, -⟩ := hh; exact SG.n (o_mvh h3 ⟨rfl, Only.refl No _⟩)) ?_
                refine WDS.p rfl (by decide) (fun e w hR hh => by obtain ⟨h4, -⟩ := hh; exact SG.n (o_mkF (lc h4 ln) ⟨rfl, Only.refl No _⟩)) ?_
                rintro e w hR ⟨h123, h122, h121, h120, h119, h118, h117, h116, h1, h3, h4, h6, h12, -⟩
                rw [← hwd] at hR
                obtain ⟨hr81, hb81⟩ := h120
                replace h := h.keep hR (fun k hF => by rcases hF with hF | hF; have := (hrow.lt k hF).1; omega; exact hF.elim)
                replace hC4 := hR.blk hC4 (fun hF => by rcases hF with hF | hF; have := hvl _ hF; omega; exact hF)
                replace hC9 := hR.blk hC9 (fun hF => by rcases hF with hF | hF; have := hvl _ hF; omega; exact hF)
                replace hq := hq.trans' hR (fun _ h => h) (fun k hk hF => by rcases hF with hF | hF; exact .inr hF; exact hF.elim)
                have hsz8 := hR.size
                have hpx : plE T ((atE at_ x).br true 0) = X2 := by rw [plE_br, ← hX, hX2]
                have hR2 := rows_spec B0 p c4 lv T fin true 55 Tryd.call55 (fun bx i full y ww h1 h2 h3 h4 h5 h6 => headu_spec B0 p c4 bx lv T fin i full y ww h1 h2 h3 h4 h5 h6) (fun i x => exprT T f i x (deep + 1)) deep f (at_ + 2) (hE (by omega) (at_ + 2) (by omega)) (by omega) L ((atE at_ x).br true 0) rfl (e 120) (at_ + 1) _ h hC4 (by omega) (by rw [hpx]; exact hr81) (by omega) (by omega) (by omega)
                refine WL.cx rfl (ox_call Tryd.call54 (lc h116 (lc rfl (lc h121 (lc h122 (lc rfl (lc h123 ln)))))) ((hR2).mono ?_ (fun ch w' hh => by obtain ⟨e, j, h1, h2, h3⟩ := hh; exact ⟨e, j, by rw [hXR, h1]; rfl, h2, hq.trans' h3 (fun _ h => h) (fun k hk hF => hF.imp id (fun he => (hb81 k he).resolve_right (by omega)))⟩)))
                rintro v124 w124 ⟨N, kk, j, hN, hrow2, hNl, hij, hvb2, h', hop⟩
                replace h := h'
                replace hq := hq.trans' hop (fun _ h => h) (fun k hk hF => hF.imp id (fun he => (hb81 k he).resolve_right (by omega)))
                have hvb : ∀ k, v124.ownBlock = some k → v.ownBlock = some k ∨ c4 ≤ k := fun k hk => by
                  rcases hvb2 k hk with h8 | h8
                  · exact (hb81 k h8).imp id (fun h9 => by omega)
                  · exact .inr (by omega)
                refine WL.c rfl (o_ash (by first | exact (show _ = Value.slice _ _ _ from rfl) | exact rfl) ?_)
                refine WL.nil ?_
                have hfin : exprT T (f + 1) at_ x deep = .ok ((atE at_ x).br true (kk : Int) :: N) j ∧ RowE w124 B0 v124 (L ++ ((atE at_ x).br true (kk : Int) :: N).map (plE T)) ∧ L.length + ((atE at_ x).br true (kk : Int) :: N).length ≤ j ∧ at_ < j ∧ (∀ k, v124.ownBlock = some k → v.ownBlock = some k ∨ c4 ≤ k) ∧ Psr w124 B0 p lv T fin j ∧ Only (fun k => k = p ∨ v.ownBlock = some k) w0 w124 := by
                  refine ⟨by rw [hXR, hN]; rfl, ?_, by rw [List.length_cons]; omega, by omega, hvb, h, hq⟩
                  rw [plE_br, ← hX] at hrow2
                  rw [List.map_cons, plE_br, ← hX]
                  exact hrow2
                exact ⟨_, _, _, rfl, hfin⟩
              · try simp only [decide_eq_true_eq, decide_eq_false_iff_not, Bool.not_eq_true', Bool.not_eq_false', Bool.and_eq_true, Bool.or_eq_true, Bool.and_eq_false_iff, Bool.or_eq_false_iff] at c113
                refine W.seq ?_
                have hU1 : ¬ (tkA T at_).text = [117, 110, 105, 111, 110] := by simpa using c113
                refine W.region ?_
                refine WL.c rfl (o_eqT h57 rfl ?_)
                refine WL.c rfl (o_ash (show _ = Value.bool _ from rfl) ?_)
                refine WL.nil ?_
                refine W.cond rfl (fun c125 => ?_) (fun c125 => ?_)
                · try simp only [decide_eq_true_eq, decide_eq_false_iff_not, Bool.not_eq_true', Bool.not_eq_false', Bool.and_eq_true, Bool.or_eq_true, Bool.and_eq_false_iff, Bool.or_eq_false_iff] at c125
                  refine W.seq ?_
                  have hU : (tkA T at_).text = [115, 116, 114, 117, 99, 116] := by simpa using c125
                  have hXR : exprT T (f + 1) at_ x deep = (((wantT T (at_ + 1) 3 [123]).bind fun _ j => rowsT (fun i x => exprT T f i x (deep + 1)) T false f j 0).bind fun r j => .ok ((atE at_ x).br false (r.2 : Nat) :: r.1) j) := by
                    rw [exprT_s, if_neg hbg, if_neg hdd, hkn]
                    exact (if_neg hV).trans ((if_neg hO).trans ((if_neg hU1).trans (if_pos hU)))
                  refine W.region ?_
                  refine WL.c rfl (o_fa 0 TI36 rfl TI3 rfl h6 ?_)
                  refine WL.u (o_stB TI3 rfl (show _ = Value.int _ _ from rfl) rfl hC6 (show 0 < 7 by decide) ?_)
                  intro wq hC6' ho6 hs6
                  replace h := h.keep ho6 (fun k hk => by omega)
                  replace hrow := own_only hrow ho6 (fun k hk he => by have := hvl k hk; omega)
                  replace hC4 := ho6.blk hC4 (show ¬ c4 = c6 by omega)
                  replace hC9 := ho6.blk hC9 (show ¬ c9 = c6 by omega)
                  replace hq := hq.trans' ho6 (fun _ h => h) (fun k hk he => by omega)
                  replace hC6 : wq.heap[c6]? = some (.cells (exV { X with kind := 8 }).toArray 36 (0, 0)) := hC6'
                  clear hC6' ho6 hs6
                  have hX6 : ({ X with kind := 8 } : Ex) = X.br false 0 := by show _ = ({ X with kind := _, kids := 0 } : Ex); rw [← hXk]; rfl
                  rw [hX6] at hC6
                  refine WL.nil ?_
                  obtain ⟨wd, hwd⟩ : ∃ wd, wd = wq.drew := ⟨_, rfl⟩
                  have hxd : Ext wq wd := hwd ▸ Only.drew wq
                  replace h := h.ext hxd
                  replace hrow := own_ext hrow hxd
                  replace hC4 := hxd.blk hC4 (fun h => h)
                  replace hC6 := hxd.blk hC6 (fun h => h)
                  replace hC9 := hxd.blk hC9 (fun h => h)
                  replace hq := hq.ext hxd
                  obtain ⟨X2, hX2⟩ : ∃ X2, X2 = (X.br false 0) := ⟨_, rfl⟩
                  rw [← hX2] at hC6
                  have hvd : ∀ k, v.ownBlock = some k → k < wd.heap.size := fun k hk => (hrow.lt k hk).2
                  have hwd0 := hq.size
                  refine W.drawF 8 [4] [fun k => v.ownBlock = some k] [(1, fun v _ => v = _), (3, fun v _ => v = _), (4, fun v _ => v = _), (6, fun v _ => v = _), (12, fun v _ => v = _)] rfl (by kernel_rfl) (by kernel_rfl) ⟨Mono.eq, Mono.eq, Mono.eq, Mono.eq, Mono.eq, trivial⟩ ⟨h1, h3, h4, h6, h12, trivial⟩ ?_
                  refine WDS.p rfl (by decide) (fun e w hR hh => by obtain ⟨h4, -⟩ := hh; rw [← hwd] at hR; have hc := hR.blk hC4 (fun hF => by rcases hF with hF | hF; have := hvl _ hF; omega; exact hF); exact SG.n (o_ld TI67 rfl h4 (cell_of hc rfl) ⟨rfl, Only.refl No _⟩)) ?_
                  refine WDS.p rfl (by decide) (fun e w hR hh => by obtain ⟨h1, -⟩ := hh; exact SG.n (o_mvh h1 ⟨rfl, Only.refl No _⟩)) ?_
                  refine WDS.p rfl (by decide) (fun e w hR hh => by obtain ⟨h6, -⟩ := hh; rw [← hwd] at hR; have hc := hR.blk hC6 (fun hF => by rcases hF with hF | hF; have := hvl _ hF; omega; exact hF); exact SG.n (o_ldA TI36 rfl h6 (show Cells _ c6 0 (exV X2) from Cells.of hc 0 _ (by simp)) rfl ⟨rfl, Only.refl No _⟩)) ?_
                  refine WDS.q 0 (fun u w => w.ownsRow wd.heap.size 36 7 u 1 (exV X2)) (fun u w w2 hR hh => own_only hh hR (fun k hk hF => by rcases hF with hF | hF; have := hvd k hF; have := (hh.lt k hk).1; omega; exact hF)) (by kernel_rfl) rfl (by decide) (fun e w hR hh => by obtain ⟨h130, -⟩ := hh; rw [← hwd] at hR; exact SG.n (o_bs1 TI32 TI36 h130 (by decide) (by decide) rfl ⟨own_mono (own_new1 rfl) hR.size, Only.alloc w _⟩)) ?_
                  refine WDS.mf 0 1 (fun u w => RowE w B0 u (L ++ [X2]) ∧ ∀ k, u.ownBlock = some k → v.ownBlock = some k ∨ wd.heap.size ≤ k) (fun u w w2 hR hh => ⟨own_ext hh.1 hR, hh.2⟩) (by kernel_rfl) rfl rfl rfl (fun e w hR hW hh => by obtain ⟨h131, h129, -⟩ := hh; rw [← hwd] at hR hW; have hrow4 := own_only hrow hW (fun k hk hF => hF); have hb0 := h.b0; have hws := hW.size; exact SGX.n (OP.x (o_apO B0 TI32 TI36 h129 rfl hrow4 (Sl.own h131) rfl (by decide) (exV_one (y := X2)) (by rw [maxLen_eq]; omega) (by omega) (by omega) (fun v' w' h1 h2 h3 _ => ⟨⟨RowE.snoc h1, fun k hk => by rcases h3 with h3 | h3; exact .inl (by rw [← h3]; exact hk); rw [h3, Option.some.injEq] at hk; have := hW.size; omega⟩, h2⟩)))) ?_
                  refine WDS.p rfl (by decide) (fun e w hR hh => by obtain ⟨h12, -⟩ := hh; exact SG.n (o_mvh h12 ⟨rfl, Only.refl No _⟩)) ?_
                  refine WDS.p rfl (by decide) (fun e w hR hh => by obtain ⟨h3, -⟩ := hh; exact SG.n (o_mvh h3 ⟨rfl, Only.refl No _⟩)) ?_
                  refine WDS.p rfl (by decide) (fun e w hR hh => by obtain ⟨h4, -⟩ := hh; exact SG.n (o_mkF (lc h4 ln) ⟨rfl, Only.refl No _⟩)) ?_
                  rintro e w hR ⟨h135, h134, h133, h132, h131, h130, h129, h128, h1, h3, h4, h6, h12, -⟩
                  rw [← hwd] at hR
                  obtain ⟨hr81, hb81⟩ := h132
                  replace h := h.keep hR (fun k hF => by rcases hF with hF | hF; have := (hrow.lt k hF).1; omega; exact hF.elim)
                  replace hC4 := hR.blk hC4 (fun hF => by rcases hF with hF | hF; have := hvl _ hF; omega; exact hF)
                  replace hC9 := hR.blk hC9 (fun hF => by rcases hF with hF | hF; have := hvl _ hF; omega; exact hF)
                  replace hq := hq.trans' hR (fun _ h => h) (fun k hk hF => by rcases hF with hF | hF; exact .inr hF; exact hF.elim)
                  have hsz8 := hR.size
                  have hpx : plE T ((atE at_ x).br false 0) = X2 := by rw [plE_br, ← hX, hX2]
                  have hR2 := rows_spec B0 p c4 lv T fin false 56 Tryd.call56 (fun bx i full y ww h1 h2 h3 h4 h5 h6 => heads_spec B0 p c4 bx lv T fin i full y ww h1 h2 h3 h4 h5 h6 hln) (fun i x => exprT T f i x (deep + 1)) deep f (at_ + 2) (hE (by omega) (at_ + 2) (by omega)) (by omega) L ((atE at_ x).br false 0) rfl (e 132) (at_ + 1) _ h hC4 (by omega) (by rw [hpx]; exact hr81) (by omega) (by omega) (by omega)
                  refine WL.cx rfl (ox_call Tryd.call54 (lc h128 (lc rfl (lc h133 (lc h134 (lc rfl (lc h135 ln)))))) ((hR2).mono ?_ (fun ch w' hh => by obtain ⟨e, j, h1, h2, h3⟩ := hh; exact ⟨e, j, by rw [hXR, h1]; rfl, h2, hq.trans' h3 (fun _ h => h) (fun k hk hF => hF.imp id (fun he => (hb81 k he).resolve_right (by omega)))⟩)))
                  rintro v136 w136 ⟨N, kk, j, hN, hrow2, hNl, hij, hvb2, h', hop⟩
                  replace h := h'
                  replace hq := hq.trans' hop (fun _ h => h) (fun k hk hF => hF.imp id (fun he => (hb81 k he).resolve_right (by omega)))
                  have hvb : ∀ k, v136.ownBlock = some k → v.ownBlock = some k ∨ c4 ≤ k := fun k hk => by
                    rcases hvb2 k hk with h8 | h8
                    · exact (hb81 k h8).imp id (fun h9 => by omega)
                    · exact .inr (by omega)
                  refine WL.c rfl (o_ash (by first | exact (show _ = Value.slice _ _ _ from rfl) | exact rfl) ?_)
                  refine WL.nil ?_
                  have hfin : exprT T (f + 1) at_ x deep = .ok ((atE at_ x).br false (kk : Int) :: N) j ∧ RowE w136 B0 v136 (L ++ ((atE at_ x).br false (kk : Int) :: N).map (plE T)) ∧ L.length + ((atE at_ x).br false (kk : Int) :: N).length ≤ j ∧ at_ < j ∧ (∀ k, v136.ownBlock = some k → v.ownBlock = some k ∨ c4 ≤ k) ∧ Psr w136 B0 p lv T fin j ∧ Only (fun k => k = p ∨ v.ownBlock = some k) w0 w136 := by
                    refine ⟨by rw [hXR, hN]; rfl, ?_, by rw [List.length_cons]; omega, by omega, hvb, h, hq⟩
                    rw [plE_br, ← hX] at hrow2
                    rw [List.map_cons, plE_br, ← hX]
                    exact hrow2
                  exact ⟨_, _, _, rfl, hfin⟩
                · try simp only [decide_eq_true_eq, decide_eq_false_iff_not, Bool.not_eq_true', Bool.not_eq_false', Bool.and_eq_true, Bool.or_eq_true, Bool.and_eq_false_iff, Bool.or_eq_false_iff] at c125
                  refine W.seq ?_
                  refine W.cut (fun e1 w1 => Psr w1 B0 p lv T fin (at_ + 1) ∧ RowE w1 B0 v L ∧ w1.heap[c4]? = some (.cells #[.pointer (some ⟨p, 0, none⟩)] 67 (0, 0)) ∧ w1.heap[c6]? = some (.cells (exV (X.nm (tkA T at_).text)).toArray 36 (0, 0)) ∧ w1.heap[c9]? = some (.cells (tokV (tkA T at_)) 94 (0, 0)) ∧ Only (fun k => k = p ∨ v.ownBlock = some k) w0 w1 ∧ e1 1 = v ∧ e1 3 = .int .i64 (deep : Int) ∧ e1 4 = .pointer (some ⟨c4, 0, none⟩) ∧ e1 6 = .pointer (some ⟨c6, 0, none⟩) ∧ e1 9 = .pointer (some ⟨c9, 0, none⟩)) ?_ ?_
                  · -- region 15
                    refine W.enum rfl ?_
                    have hd := Only.drew w
                    replace h := h.ext hd
                    replace hrow := own_ext hrow hd
                    replace hC4 := hd.blk hC4 (fun h => h)
                    replace hC6 := hd.blk hC6 (fun h => h)
                    replace hC9 := hd.blk hC9 (fun h => h)
                    replace hq := hq.ext hd
                    clear hd
                    generalize w.drew = wd at *
                    have hU2 : ¬ (tkA T at_).text = [115, 116, 114, 117, 99, 116] := by simpa using c125
                    refine WA.step (r := [0, 2]) (by kernel_rfl) (by decide) (all2 ?_ ?_)
                    · skip
                      refine WO.c rfl rfl (o_fa 1 TI94 rfl TI9 rfl h9 ?_)
                      refine WA.step (r := [1, 2]) (by kernel_rfl) (by decide) (all2 ?_ ?_)
                      · skip
                        refine WO.c rfl rfl (o_ld TI9 rfl rfl (cell_of hC9 rfl) ?_)
                        refine WA.step (r := [2]) (by kernel_rfl) (by decide) (all1 ?_)
                        refine WO.c rfl rfl (o_fa 0 TI36 rfl TI3 rfl h6 ?_)
                        refine WA.step (r := [3]) (by kernel_rfl) (by decide) (all1 ?_)
                        refine WO.u rfl (o_stB TI3 rfl (show _ = Value.int _ _ from rfl) rfl hC6 (show 0 < 7 by decide) ?_)
                        intro wk hC6' ho6 hs6
                        replace h := h.keep ho6 (fun k hk => by omega)
                        replace hrow := own_only hrow ho6 (fun k hk he => by have := hvl k hk; omega)
                        replace hC4 := ho6.blk hC4 (show ¬ c4 = c6 by omega)
                        replace hC9 := ho6.blk hC9 (show ¬ c9 = c6 by omega)
                        replace hq := hq.trans' ho6 (fun _ h => h) (fun k hk he => by omega)
                        replace hC6 : wk.heap[c6]? = some (.cells (exV { X with kind := 9 }).toArray 36 (0, 0)) := hC6'
                        clear hC6' ho6 hs6
                        refine WA.step (r := [4]) (by kernel_rfl) (by decide) (all1 ?_)
                        refine WO.c rfl rfl (o_fa 2 TI36 rfl TI9 rfl h6 ?_)
                        refine WA.step (r := [5]) (by kernel_rfl) (by decide) (all1 ?_)
                        refine WO.u rfl (o_stB TI9 rfl (show _ = st (tkA T at_).text from rfl) rfl hC6 (show 2 < 7 by decide) ?_)
                        intro wn hC6' ho6 hs6
                        replace h := h.keep ho6 (fun k hk => by omega)
                        replace hrow := own_only hrow ho6 (fun k hk he => by have := hvl k hk; omega)
                        replace hC4 := ho6.blk hC4 (show ¬ c4 = c6 by omega)
                        replace hC9 := ho6.blk hC9 (show ¬ c9 = c6 by omega)
                        replace hq := hq.trans' ho6 (fun _ h => h) (fun k hk he => by omega)
                        replace hC6 : wn.heap[c6]? = some (.cells (exV (X.nm (tkA T at_).text)).toArray 36 (0, 0)) := hC6'
                        clear hC6' ho6 hs6
                        refine WA.done (by kernel_rfl) ?_
                        exact ⟨h, hrow, hC4, hC6, hC9, hq, h1, h3, h4, h6, h9⟩
                      · skip
                        refine WO.c rfl rfl (o_fa 0 TI36 rfl TI3 rfl h6 ?_)
                        refine WA.step (r := [1, 3]) (by kernel_rfl) (by decide) (all2 ?_ ?_)
                        · skip
                          refine WO.c rfl rfl (o_ld TI9 rfl rfl (cell_of hC9 rfl) ?_)
                          refine WA.step (r := [3]) (by kernel_rfl) (by decide) (all1 ?_)
                          refine WO.u rfl (o_stB TI3 rfl (show _ = Value.int _ _ from rfl) rfl hC6 (show 0 < 7 by decide) ?_)
                          intro wk hC6' ho6 hs6
                          replace h := h.keep ho6 (fun k hk => by omega)
                          replace hrow := own_only hrow ho6 (fun k hk he => by have := hvl k hk; omega)
                          replace hC4 := ho6.blk hC4 (show ¬ c4 = c6 by omega)
                          replace hC9 := ho6.blk hC9 (show ¬ c9 = c6 by omega)
                          replace hq := hq.trans' ho6 (fun _ h => h) (fun k hk he => by omega)
                          replace hC6 : wk.heap[c6]? = some (.cells (exV { X with kind := 9 }).toArray 36 (0, 0)) := hC6'
                          clear hC6' ho6 hs6
                          refine WA.step (r := [4]) (by kernel_rfl) (by decide) (all1 ?_)
                          refine WO.c rfl rfl (o_fa 2 TI36 rfl TI9 rfl h6 ?_)
                          refine WA.step (r := [5]) (by kernel_rfl) (by decide) (all1 ?_)
                          refine WO.u rfl (o_stB TI9 rfl (show _ = st (tkA T at_).text from rfl) rfl hC6 (show 2 < 7 by decide) ?_)
                          intro wn hC6' ho6 hs6
                          replace h := h.keep ho6 (fun k hk => by omega)
                          replace hrow := own_only hrow ho6 (fun k hk he => by have := hvl k hk; omega)
                          replace hC4 := ho6.blk hC4 (show ¬ c4 = c6 by omega)
                          replace hC9 := ho6.blk hC9 (show ¬ c9 = c6 by omega)
                          replace hq := hq.trans' ho6 (fun _ h => h) (fun k hk he => by omega)
                          replace hC6 : wn.heap[c6]? = some (.cells (exV (X.nm (tkA T at_).text)).toArray 36 (0, 0)) := hC6'
                          clear hC6' ho6 hs6
                          refine WA.done (by kernel_rfl) ?_
                          exact ⟨h, hrow, hC4, hC6, hC9, hq, h1, h3, h4, h6, h9⟩
                        · skip
                          refine WO.u rfl (o_stB TI3 rfl (show _ = Value.int _ _ from rfl) rfl hC6 (show 0 < 7 by decide) ?_)
                          intro wk hC6' ho6 hs6
                          replace h := h.keep ho6 (fun k hk => by omega)
                          replace hrow := own_only hrow ho6 (fun k hk he => by have := hvl k hk; omega)
                          replace hC4 := ho6.blk hC4 (show ¬ c4 = c6 by omega)
                          replace hC9 := ho6.blk hC9 (show ¬ c9 = c6 by omega)
                          replace hq := hq.trans' ho6 (fun _ h => h) (fun k hk he => by omega)
                          replace hC6 : wk.heap[c6]? = some (.cells (exV { X with kind := 9 }).toArray 36 (0, 0)) := hC6'
                          clear hC6' ho6 hs6
                          refine WA.step (r := [1]) (by kernel_rfl) (by decide) (all1 ?_)
                          refine WO.c rfl rfl (o_ld TI9 rfl rfl (cell_of hC9 rfl) ?_)
                          refine WA.step (r := [4]) (by kernel_rfl) (by decide) (all1 ?_)
                          refine WO.c rfl rfl (o_fa 2 TI36 rfl TI9 rfl h6 ?_)
                          refine WA.step (r := [5]) (by kernel_rfl) (by decide) (all1 ?_)
                          refine WO.u rfl (o_stB TI9 rfl (show _ = st (tkA T at_).text from rfl) rfl hC6 (show 2 < 7 by decide) ?_)
                          intro wn hC6' ho6 hs6
                          replace h := h.keep ho6 (fun k hk => by omega)
                          replace hrow := own_only hrow ho6 (fun k hk he => by have := hvl k hk; omega)
                          replace hC4 := ho6.blk hC4 (show ¬ c4 = c6 by omega)
                          replace hC9 := ho6.blk hC9 (show ¬ c9 = c6 by omega)
                          replace hq := hq.trans' ho6 (fun _ h => h) (fun k hk he => by omega)
                          replace hC6 : wn.heap[c6]? = some (.cells (exV (X.nm (tkA T at_).text)).toArray 36 (0, 0)) := hC6'
                          clear hC6' ho6 hs6
                          refine WA.done (by kernel_rfl) ?_
                          exact ⟨h, hrow, hC4, hC6, hC9, hq, h1, h3, h4, h6, h9⟩
                    · skip
                      refine WO.c rfl rfl (o_fa 0 TI36 rfl TI3 rfl h6 ?_)
                      refine WA.step (r := [0, 3]) (by kernel_rfl) (by decide) (all2 ?_ ?_)
                      · skip
                        refine WO.c rfl rfl (o_fa 1 TI94 rfl TI9 rfl h9 ?_)
                        refine WA.step (r := [1, 3]) (by kernel_rfl) (by decide) (all2 ?_ ?_)
                        · skip
                          refine WO.c rfl rfl (o_ld TI9 rfl rfl (cell_of hC9 rfl) ?_)
                          refine WA.step (r := [3]) (by kernel_rfl) (by decide) (all1 ?_)
                          refine WO.u rfl (o_stB TI3 rfl (show _ = Value.int _ _ from rfl) rfl hC6 (show 0 < 7 by decide) ?_)
                          intro wk hC6' ho6 hs6
                          replace h := h.keep ho6 (fun k hk => by omega)
                          replace hrow := own_only hrow ho6 (fun k hk he => by have := hvl k hk; omega)
                          replace hC4 := ho6.blk hC4 (show ¬ c4 = c6 by omega)
                          replace hC9 := ho6.blk hC9 (show ¬ c9 = c6 by omega)
                          replace hq := hq.trans' ho6 (fun _ h => h) (fun k hk he => by omega)
                          replace hC6 : wk.heap[c6]? = some (.cells (exV { X with kind := 9 }).toArray 36 (0, 0)) := hC6'
                          clear hC6' ho6 hs6
                          refine WA.step (r := [4]) (by kernel_rfl) (by decide) (all1 ?_)
                          refine WO.c rfl rfl (o_fa 2 TI36 rfl TI9 rfl h6 ?_)
                          refine WA.step (r := [5]) (by kernel_rfl) (by decide) (all1 ?_)
                          refine WO.u rfl (o_stB TI9 rfl (show _ = st (tkA T at_).text from rfl) rfl hC6 (show 2 < 7 by decide) ?_)
                          intro wn hC6' ho6 hs6
                          replace h := h.keep ho6 (fun k hk => by omega)
                          replace hrow := own_only hrow ho6 (fun k hk he => by have := hvl k hk; omega)
                          replace hC4 := ho6.blk hC4 (show ¬ c4 = c6 by omega)
                          replace hC9 := ho6.blk hC9 (show ¬ c9 = c6 by omega)
                          replace hq := hq.trans' ho6 (fun _ h => h) (fun k hk he => by omega)
                          replace hC6 : wn.heap[c6]? = some (.cells (exV (X.nm (tkA T at_).text)).toArray 36 (0, 0)) := hC6'
                          clear hC6' ho6 hs6
                          refine WA.done (by kernel_rfl) ?_
                          exact ⟨h, hrow, hC4, hC6, hC9, hq, h1, h3, h4, h6, h9⟩
                        · skip
                          refine WO.u rfl (o_stB TI3 rfl (show _ = Value.int _ _ from rfl) rfl hC6 (show 0 < 7 by decide) ?_)
                          intro wk hC6' ho6 hs6
                          replace h := h.keep ho6 (fun k hk => by omega)
                          replace hrow := own_only hrow ho6 (fun k hk he => by have := hvl k hk; omega)
                          replace hC4 := ho6.blk hC4 (show ¬ c4 = c6 by omega)
                          replace hC9 := ho6.blk hC9 (show ¬ c9 = c6 by omega)
                          replace hq := hq.trans' ho6 (fun _ h => h) (fun k hk he => by omega)
                          replace hC6 : wk.heap[c6]? = some (.cells (exV { X with kind := 9 }).toArray 36 (0, 0)) := hC6'
                          clear hC6' ho6 hs6
                          refine WA.step (r := [1]) (by kernel_rfl) (by decide) (all1 ?_)
                          refine WO.c rfl rfl (o_ld TI9 rfl rfl (cell_of hC9 rfl) ?_)
                          refine WA.step (r := [4]) (by kernel_rfl) (by decide) (all1 ?_)
                          refine WO.c rfl rfl (o_fa 2 TI36 rfl TI9 rfl h6 ?_)
                          refine WA.step (r := [5]) (by kernel_rfl) (by decide) (all1 ?_)
                          refine WO.u rfl (o_stB TI9 rfl (show _ = st (tkA T at_).text from rfl) rfl hC6 (show 2 < 7 by decide) ?_)
                          intro wn hC6' ho6 hs6
                          replace h := h.keep ho6 (fun k hk => by omega)
                          replace hrow := own_only hrow ho6 (fun k hk he => by have := hvl k hk; omega)
                          replace hC4 := ho6.blk hC4 (show ¬ c4 = c6 by omega)
                          replace hC9 := ho6.blk hC9 (show ¬ c9 = c6 by omega)
                          replace hq := hq.trans' ho6 (fun _ h => h) (fun k hk he => by omega)
                          replace hC6 : wn.heap[c6]? = some (.cells (exV (X.nm (tkA T at_).text)).toArray 36 (0, 0)) := hC6'
                          clear hC6' ho6 hs6
                          refine WA.done (by kernel_rfl) ?_
                          exact ⟨h, hrow, hC4, hC6, hC9, hq, h1, h3, h4, h6, h9⟩
                      · skip
                        refine WO.u rfl (o_stB TI3 rfl (show _ = Value.int _ _ from rfl) rfl hC6 (show 0 < 7 by decide) ?_)
                        intro wk hC6' ho6 hs6
                        replace h := h.keep ho6 (fun k hk => by omega)
                        replace hrow := own_only hrow ho6 (fun k hk he => by have := hvl k hk; omega)
                        replace hC4 := ho6.blk hC4 (show ¬ c4 = c6 by omega)
                        replace hC9 := ho6.blk hC9 (show ¬ c9 = c6 by omega)
                        replace hq := hq.trans' ho6 (fun _ h => h) (fun k hk he => by omega)
                        replace hC6 : wk.heap[c6]? = some (.cells (exV { X with kind := 9 }).toArray 36 (0, 0)) := hC6'
                        clear hC6' ho6 hs6
                        refine WA.step (r := [0]) (by kernel_rfl) (by decide) (all1 ?_)
                        refine WO.c rfl rfl (o_fa 1 TI94 rfl TI9 rfl h9 ?_)
                        refine WA.step (r := [1]) (by kernel_rfl) (by decide) (all1 ?_)
                        refine WO.c rfl rfl (o_ld TI9 rfl rfl (cell_of hC9 rfl) ?_)
                        refine WA.step (r := [4]) (by kernel_rfl) (by decide) (all1 ?_)
                        refine WO.c rfl rfl (o_fa 2 TI36 rfl TI9 rfl h6 ?_)
                        refine WA.step (r := [5]) (by kernel_rfl) (by decide) (all1 ?_)
                        refine WO.u rfl (o_stB TI9 rfl (show _ = st (tkA T at_).text from rfl) rfl hC6 (show 2 < 7 by decide) ?_)
                        intro wn hC6' ho6 hs6
                        replace h := h.keep ho6 (fun k hk => by omega)
                        replace hrow := own_only hrow ho6 (fun k hk he => by have := hvl k hk; omega)
                        replace hC4 := ho6.blk hC4 (show ¬ c4 = c6 by omega)
                        replace hC9 := ho6.blk hC9 (show ¬ c9 = c6 by omega)
                        replace hq := hq.trans' ho6 (fun _ h => h) (fun k hk he => by omega)
                        replace hC6 : wn.heap[c6]? = some (.cells (exV (X.nm (tkA T at_).text)).toArray 36 (0, 0)) := hC6'
                        clear hC6' ho6 hs6
                        refine WA.done (by kernel_rfl) ?_
                        exact ⟨h, hrow, hC4, hC6, hC9, hq, h1, h3, h4, h6, h9⟩
                  rintro e w ⟨h, hrow, hC4, hC6, hC9, hq, h1, h3, h4, h6, h9⟩
                  refine W.region ?_
                  refine WL.c rfl (o_mvh h1 ?_)
                  refine WL.c rfl (o_ldA TI36 rfl h6 (show Cells _ c6 0 (exV (X.nm (tkA T at_).text)) from Cells.of hC6 0 _ (by simp)) rfl ?_)
                  refine WL.apO (B0) rfl rfl TI32 TI36 (show _ = Value.agg (exV (X.nm (tkA T at_).text)).toArray from rfl) rfl hrow (by decide) (by decide) rfl exV_one rfl (by rw [maxLen_eq]; omega) (by omega) (by have := h.b0; omega) ?_
                  intro v2 w2 hown ho hob _
                  replace hob : v2.ownBlock = v.ownBlock ∨ _ := hob
                  replace ho : Only (fun k => v.ownBlock = some k) _ _ := ho
                  replace hown := RowE.snoc hown
                  have hvb : ∀ k, v2.ownBlock = some k → v.ownBlock = some k ∨ c4 ≤ k := fun k hk => by
                    rcases hob with hb | hb
                    · exact .inl (by rw [← hb]; exact hk)
                    · rw [hb, Option.some.injEq] at hk; have := hq.size; omega
                  replace h := h.keep ho (fun k hk => by have := (hrow.lt k hk).1; omega)
                  replace hq := hq.trans' ho (fun _ h => h) (fun _ _ h => .inr h)
                  refine WL.c rfl (o_ash (by first | exact (show _ = Value.slice _ _ _ from rfl) | exact rfl) ?_)
                  refine WL.nil ?_
                  have hU2 : ¬ (tkA T at_).text = [115, 116, 114, 117, 99, 116] := by simpa using c125
                  have hfin : exprT T (f + 1) at_ x deep = .ok [(atE at_ x).nm (tkA T at_).text] (at_ + 1) ∧ RowE w2 B0 v2 (L ++ [(atE at_ x).nm (tkA T at_).text].map (plE T)) ∧ L.length + [(atE at_ x).nm (tkA T at_).text].length ≤ at_ + 1 ∧ at_ < at_ + 1 ∧ (∀ k, v2.ownBlock = some k → v.ownBlock = some k ∨ c4 ≤ k) ∧ Psr w2 B0 p lv T fin (at_ + 1) ∧ Only (fun k => k = p ∨ v.ownBlock = some k) w0 w2 := by
                    refine ⟨by rw [exprT_s, if_neg hbg, if_neg hdd, hkn]; exact (if_neg hV).trans ((if_neg hO).trans ((if_neg hU1).trans (if_neg hU2))), ?_, by rw [List.length_singleton]; omega, by omega, hvb, h, hq⟩
                    rw [List.map_singleton, plE_nm, ← hX]
                    exact hown
                  exact ⟨_, _, _, rfl, hfin⟩
        rintro e w ⟨v2, N, j, h1, hfin⟩
        refine W.seq ?_
        refine W.region ?_
        refine WL.c rfl (o_mvh h1 ?_)
        refine WL.c rfl (o_ash (by first | exact (show _ = Value.slice _ _ _ from rfl) | exact rfl) ?_)
        refine WL.nil ?_
        refine W.ret ?_
        refine ret1v rfl (show _ = v2 from rfl) ?_
        obtain ⟨g1, g2, g3, g4, g5, g6, g7⟩ := hfin
        exact ⟨N, j, g1, g2, g3, g4, g5, g6, g7⟩
end Go.Proofs.YtanimeifmicmoaaDoor

set_option linter.unusedSimpArgs false
set_option linter.unusedVariables false
set_option maxRecDepth 100000
namespace Go.Proofs.YtanimeifmicmoaaDoor
open Go Go.Vc Go.RowKit Go.Proofs

theorem expr_spec {B0 p : Nat} {lv : Value} {T : List Tk} {fin : Nat} (hln : ∀ i, (tkA T i).text.length ≤ 9223372036854775807) : ∀ f deep m, deep ≤ 17 → T.length + 2 ≤ f + m → ESpec B0 p lv T fin (fun i x => exprT T f i x deep) deep m
  | 0, deep, m, hd, hf => fun at_ x L v w0 hm hk h hrow hl => by have := h.le; omega
  | f + 1, deep, m, hd, hf => fun at_ x L v w0 hm hk h hrow hl => expr_step B0 p lv T fin f deep hln (fun hd2 m' hf' => expr_spec hln f (deep + 1) m' (by omega) hf') hd m at_ (by omega) x L v w0 hm hk h hrow hl
theorem oneL_len {xs : List UInt8} {k : Nat} {h : k < xs.length} : (oneL xs k h).2.text.length ≤ xs.length := by
  unfold oneL
  split
  · split
    · exact Nat.zero_le _
    · exact sub_len _ _ _
  · split
    · exact Nat.zero_le _
    · split
      · exact sub_len _ _ _
      · exact Nat.zero_le _
theorem cutL_len : ∀ (xs : List UInt8) (k : Nat), (cutL xs k).1.length ≤ xs.length - k ∧ ∀ t ∈ (cutL xs k).1, t.text.length ≤ xs.length := by
  intro xs k
  induction hn : xs.length - k using Nat.strongRecOn generalizing k with
  | _ n ih =>
    rw [cutL_eq]
    split
    · rename_i hk
      split
      · have h1 := (runL_le (p := nnlB) (k := k + 1) (xs := xs) (by omega)).1
        have h2 := ih (xs.length - runL nnlB xs (k + 1)) (by omega) _ rfl
        exact ⟨by omega, h2.2⟩
      · split
        · have h2 := ih (xs.length - (k + 1)) (by omega) _ rfl
          exact ⟨by omega, h2.2⟩
        · split
          · rename_i he
            have h1 := oneL_fin xs k hk he
            have h2 := ih (xs.length - (oneL xs k hk).2.fin) (by omega) _ rfl
            refine ⟨by simp only [List.length_cons]; omega, fun t ht => ?_⟩
            rcases List.mem_cons.1 ht with rfl | ht
            · exact oneL_len
            · exact h2.2 t ht
          · exact ⟨Nat.zero_le _, fun t ht => by cases ht⟩
    · exact ⟨Nat.zero_le _, fun t ht => by cases ht⟩
theorem cutA_len (xs : List UInt8) : (cutA xs).1.length ≤ 65536 ∧ ∀ t ∈ (cutA xs).1, t.text.length ≤ 65536 := by
  unfold cutA
  split
  · exact ⟨Nat.zero_le _, fun t ht => by cases ht⟩
  · split
    · have h := cutL_len xs 0
      exact ⟨by omega, fun t ht => by have := h.2 t ht; omega⟩
    · exact ⟨Nat.zero_le _, fun t ht => by cases ht⟩
theorem cut_texts (xs : List UInt8) (i : Nat) : (tkA (cutA xs).1 i).text.length ≤ 9223372036854775807 := by
  by_cases h : i < (cutA xs).1.length
  · rw [tkA_lt h]
    have := (cutA_len xs).2 _ (List.getElem_mem h)
    omega
  · rw [tkA_ge (by omega)]; exact Nat.zero_le _
def df0 : Df := ⟨[], 0, []⟩
def dcell (d : Df) (v : Value) : List Value := [st d.name, .int .i64 d.at_, v]
def tyD (D : List Df) (j : Nat) : List Ex := (D.getD j df0).ty
def drows (D : List Df) (V : Nat → Value) : List Value := (List.range D.length).flatMap fun j => dcell (D.getD j df0) (V j)
theorem dfm_congr {α : Type} {f g : Nat → List α} {l : List Nat} (h : ∀ j ∈ l, f j = g j) : l.flatMap f = l.flatMap g := by
  induction l with
  | nil => rfl
  | cons a l ih => rw [List.flatMap_cons, List.flatMap_cons, h a (List.mem_cons_self ..), ih (fun j hj => h j (List.mem_cons_of_mem _ hj))]
theorem drows_snoc (D : List Df) (V : Nat → Value) (d : Df) (v : Value) : drows (D ++ [d]) (fun j => if j = D.length then v else V j) = drows D V ++ dcell d v := by
  rw [drows, List.length_append, List.length_singleton, List.range_succ, List.flatMap_append, List.flatMap_singleton, if_pos rfl]
  congr 1
  · refine dfm_congr fun j hj => ?_
    have hj := List.mem_range.1 hj
    rw [if_neg (by omega)]
    congr 1
    simp [List.getD_eq_getElem?_getD, List.getElem?_append_left hj]
  · congr 1
    simp [List.getD_eq_getElem?_getD]
theorem dcell_len (d : Df) (v : Value) : (dcell d v).length = 3 := rfl
/-- definitions in a row of our own, each type in a block of its own -/
structure Defs (w : World) (H : Nat) (D : List Df) (dv : Value) (V : Nat → Value) : Prop where
  row : w.ownsRow H 34 3 dv D.length (drows D V)
  tys : Many w H 36 7 D.length V (fun j => (tyD D j).length) (fun j => exs (tyD D j))
/-- the blocks that these lie in -/
def DF (dv : Value) (V : Nat → Value) (n : Nat) (k : Nat) : Prop := dv.ownBlock = some k ∨ ∃ j, j < n ∧ (V j).ownBlock = some k
theorem Defs.only {w w' : World} {H : Nat} {D : List Df} {dv : Value} {V : Nat → Value} {F : Nat → Prop} (h : Defs w H D dv V) (ho : Only F w w') (hn : ∀ k, DF dv V D.length k → ¬ F k) : Defs w' H D dv V :=
  ⟨own_only h.row ho (fun k hk => hn k (.inl hk)), h.tys.only ho (fun j hj k hk => hn k (.inr ⟨j, hj, hk⟩))⟩
theorem Defs.ext {w w' : World} {H : Nat} {D : List Df} {dv : Value} {V : Nat → Value} (h : Defs w H D dv V) (ho : Ext w w') : Defs w' H D dv V := h.only ho (fun _ _ h => h)
theorem Defs.lt {w : World} {H : Nat} {D : List Df} {dv : Value} {V : Nat → Value} (h : Defs w H D dv V) : ∀ k, DF dv V D.length k → H ≤ k ∧ k < w.heap.size := fun k hk => by
  rcases hk with hk | ⟨j, hj, hk⟩
  · exact h.row.lt k hk
  · exact h.tys.lt hj hk
theorem Defs.nil (w : World) (H : Nat) (V : Nat → Value) : Defs w H [] (.slice none 0 0) V := ⟨World.ownsRow_nil _ _ _ _, Many.zero⟩
theorem Defs.mono {w : World} {H H' : Nat} {D : List Df} {dv : Value} {V : Nat → Value} (h : Defs w H D dv V) (hH : H' ≤ H) : Defs w H' D dv V := ⟨own_mono h.row hH, fun j hj => own_mono (h.tys.row j hj) hH, h.tys.off⟩
theorem Defs.snoc {w : World} {H B : Nat} {D : List Df} {d : Df} {V : Nat → Value} {dv v : Value} (hr : w.ownsRow H 34 3 dv (D.length + 1) (drows D V ++ dcell d v)) (ht : Many w H 36 7 D.length V (fun j => (tyD D j).length) (fun j => exs (tyD D j)))
    (hf : RowE w B v d.ty) (hB : H ≤ B) (hlt : ∀ j, j < D.length → ∀ k, (V j).ownBlock = some k → k < B) : Defs w H (D ++ [d]) dv (fun j => if j = D.length then v else V j) := by
  have e1 : ∀ j, j < D.length → tyD (D ++ [d]) j = tyD D j := fun j hj => by simp [tyD, List.getD_eq_getElem?_getD, List.getElem?_append_left hj]
  have e2 : tyD (D ++ [d]) D.length = d.ty := by simp [tyD, List.getD_eq_getElem?_getD]
  refine ⟨by rw [List.length_append, List.length_singleton, drows_snoc]; exact hr, ?_⟩
  rw [List.length_append, List.length_singleton]
  exact Many.snocG (ht.congr (fun _ _ => rfl) (fun j hj => by rw [e1 j hj]) (fun j hj => by rw [e1 j hj])) hf hB hlt (by rw [e2]) (by rw [e2])
/-- what Parse answers -/
def parseA (xs : List UInt8) : List Df × Nat × Nat :=
  if (cutA xs).2.1 = 0 then
    match defsT (cutA xs).1 ((cutA xs).1.length + 2) 0 0 with
    | .ok D _ => (D.map (plD (cutA xs).1), 0, 0)
    | .bad e i => ([], e, plc (cutA xs).1 xs.length i)
  else ([], (cutA xs).2)
theorem retAA {fn : Func} {P : Program} {e : Env} {w : World} {R : Value → World → Prop} {a1 a2 : Tmp} {T1 T2 : TypeId} {d1 d2 : TypeDesc} {s1 bs1 s bs b1 b2 o1 o2 : Nat} {z1 z : Value} {ys xs : List Value} (hr : fn.results = #[.cell a1 T1, .cell a2 T2]) (ht1 : Ty P T1 d1 s1 bs1 z1) (hd1 : isAggD d1 = true) (ht : Ty P T2 d2 s bs z) (hd : isAggD d2 = true)
    (h1 : e a1 = .pointer (some ⟨b1, o1, none⟩)) (h2 : e a2 = .pointer (some ⟨b2, o2, none⟩)) (hc1 : Cells w b1 o1 ys) (hl1 : ys.length = s1) (hc : Cells w b2 o2 xs) (hl : xs.length = s) (h : R (.tuple #[.agg ys.toArray, .agg xs.toArray]) w) : Rt fn P R e w :=
  ⟨fun _ ac ha => ⟨.tuple #[.agg ys.toArray, .agg xs.toArray], by
    have g1 : ac.tmps.getD a1 undef = .pointer (some ⟨b1, o1, none⟩) := by rw [ha.get]; exact h1
    have g2 : ac.tmps.getD a2 undef = .pointer (some ⟨b2, o2, none⟩) := by rw [ha.get]; exact h2
    simp only [Array.getD_eq_getD_getElem?] at g1 g2
    simp [results, hr, asAddr, g1, g2, run_loadA ht1 hd1 hc1 hl1, run_loadA ht hd hc hl], h⟩⟩

theorem parse1_panic (b2 b3 : Nat) (e a : Nat) (x y1 y2 : Value) (w0 : World) (hC2 : w0.heap[b2]? = some (.cells #[x] 24 (0, 0))) (hC3 : w0.heap[b3]? = some (.cells #[y1, y2] 39 (0, 0))) : CallsD Tryd.prog 27 #[.pointer (some ⟨b2, 0, none⟩), .pointer (some ⟨b3, 0, none⟩)] (.panicking [pan e a]) w0 (fun en u2 w' => match en with | .returned _ => u2 = .panicking [{ pan e a with recovered := true }] ∧ (w'.heap[b2]? = some (.cells #[.slice none 0 0] 24 (0, 0)) ∧ w'.heap[b3]? = some (.cells #[.int .i64 (e : Int), .int .i64 (a : Int)] 39 (0, 0)) ∧ Only (fun k => k = b2 ∨ k = b3) w0 w') | _ => False) := by
  refine calls_recover (l := [.pointer (some ⟨b2, 0, none⟩), .pointer (some ⟨b3, 0, none⟩)]) Tryd.func27 Tryd.ntmps27 rfl rfl rfl (.inl ⟨[], rfl, rfl⟩) ?_
  have hne : ¬ b2 = b3 := fun he => by subst he; rw [hC2] at hC3; cases hC3
  have hb2 := (Array.getElem?_eq_some_iff.1 hC2).1
  have hb3 := (Array.getElem?_eq_some_iff.1 hC3).1
  have hq : Only (fun k => k = b2 ∨ k = b3) w0 w0 := Only.refl _ _
  refine W.block ?_
  refine W.seq ?_
  refine W.region ?_
  refine WL.c rfl (o_eqIN Tryd.underlying20 rfl rfl ?_)
  refine WL.nil ?_
  refine W.condF' rfl (rfl) ?_
  refine W.seq ?_
  refine W.region ?_
  refine WL.c rfl (o_taT TI66 rfl (show _ = Value.iface 66 (.agg #[.int .i64 (e : Int), .int .i64 (a : Int)]) from rfl) ?_)
  refine WL.c rfl (o_ext rfl rfl ?_)
  refine WL.c rfl (o_ext rfl rfl ?_)
  refine WL.nil ?_
  refine W.condT' rfl (rfl) ?_
  refine W.seq ?_
  refine W.region ?_
  refine WL.c rfl (o_alB TI66 ?_)
  intro w3 hC hx3 hs3
  refine WL.u (o_stA TI66 rfl (show _ = Value.agg #[.int .i64 (e : Int), .int .i64 (a : Int)] from rfl) rfl rfl hC rfl ?_)
  intro w4 hC4 ho4 hs4
  have hxb := Ext.own hx3 (Nat.le_refl _) ho4
  obtain ⟨c4, hc4⟩ : ∃ c, c = w0.heap.size := ⟨_, rfl⟩
  rw [← hc4] at hC4 ⊢
  clear hC ho4
  replace hC2 := hxb.blk hC2 (fun h => h)
  replace hC3 := hxb.blk hC3 (fun h => h)
  replace hq := hq.ext hxb
  refine WL.nil ?_
  refine W.cut (fun e1 w1 => w1.heap[b2]? = some (.cells #[.slice none 0 0] 24 (0, 0)) ∧ w1.heap[b3]? = some (.cells #[.int .i64 (e : Int), .int .i64 (a : Int)] 39 (0, 0)) ∧ Only (fun k => k = b2 ∨ k = b3) w0 w1) ?_ ?_
  · -- region 7
    refine W.enum rfl ?_
    have hd := Only.drew w4
    replace hC2 := hd.blk hC2 (fun h => h)
    replace hC3 := hd.blk hC3 (fun h => h)
    replace hC4 := hd.blk hC4 (fun h => h)
    replace hq := hq.ext hd
    clear hd
    generalize w4.drew = wd at *
    refine WA.step (r := [0, 1]) (by kernel_rfl) (by decide) (all2 ?_ ?_)
    · skip
      refine WO.c rfl rfl (o_bldC (cs := [(.slice none 0 0)]) TI24 (Sizes.cons TI22 Sizes.nil) rfl lnp rfl rfl ?_)
      refine WA.step (r := [1, 3]) (by kernel_rfl) (by decide) (all2 ?_ ?_)
      · skip
        refine WO.c rfl rfl (o_fa 0 TI66 rfl TI39 rfl rfl ?_)
        refine WA.step (r := [2, 3]) (by kernel_rfl) (by decide) (all2 ?_ ?_)
        · skip
          refine WO.c rfl rfl (o_ldA TI39 rfl rfl (show Cells _ c4 0 [.int .i64 (e : Int), .int .i64 (a : Int)] from Cells.of hC4 0 _ (by simp)) rfl ?_)
          refine WA.step (r := [3]) (by kernel_rfl) (by decide) (all1 ?_)
          refine WO.u rfl (o_stA TI24 rfl (show _ = Value.agg #[.slice none 0 0] from rfl) rfl rfl hC2 rfl ?_)
          intro wx hB ho hs
          replace hC2 := hB
          replace hC3 := ho.blk hC3 (fun he => hne he.symm)
          replace hC4 := ho.blk hC4 (show ¬ c4 = b2 by omega)
          replace hq := hq.trans (ho.mono (fun _ _ h => .inl h))
          refine WA.step (r := [4]) (by kernel_rfl) (by decide) (all1 ?_)
          refine WO.u rfl (o_stA TI39 rfl (show _ = Value.agg #[.int .i64 (e : Int), .int .i64 (a : Int)] from rfl) rfl rfl hC3 rfl ?_)
          intro wy hB1 ho1 hs1
          replace hC3 := hB1
          replace hC2 := ho1.blk hC2 hne
          replace hq := hq.trans (ho1.mono (fun _ _ h => .inr h))
          refine WA.done (by kernel_rfl) ?_
          exact ⟨hC2, hC3, hq⟩
        · skip
          refine WO.u rfl (o_stA TI24 rfl (show _ = Value.agg #[.slice none 0 0] from rfl) rfl rfl hC2 rfl ?_)
          intro wx hB ho hs
          replace hC2 := hB
          replace hC3 := ho.blk hC3 (fun he => hne he.symm)
          replace hC4 := ho.blk hC4 (show ¬ c4 = b2 by omega)
          replace hq := hq.trans (ho.mono (fun _ _ h => .inl h))
          refine WA.step (r := [2]) (by kernel_rfl) (by decide) (all1 ?_)
          refine WO.c rfl rfl (o_ldA TI39 rfl rfl (show Cells _ c4 0 [.int .i64 (e : Int), .int .i64 (a : Int)] from Cells.of hC4 0 _ (by simp)) rfl ?_)
          refine WA.step (r := [4]) (by kernel_rfl) (by decide) (all1 ?_)
          refine WO.u rfl (o_stA TI39 rfl (show _ = Value.agg #[.int .i64 (e : Int), .int .i64 (a : Int)] from rfl) rfl rfl hC3 rfl ?_)
          intro wy hB1 ho1 hs1
          replace hC3 := hB1
          replace hC2 := ho1.blk hC2 hne
          replace hq := hq.trans (ho1.mono (fun _ _ h => .inr h))
          refine WA.done (by kernel_rfl) ?_
          exact ⟨hC2, hC3, hq⟩
      · skip
        refine WO.u rfl (o_stA TI24 rfl (show _ = Value.agg #[.slice none 0 0] from rfl) rfl rfl hC2 rfl ?_)
        intro wx hB ho hs
        replace hC2 := hB
        replace hC3 := ho.blk hC3 (fun he => hne he.symm)
        replace hC4 := ho.blk hC4 (show ¬ c4 = b2 by omega)
        replace hq := hq.trans (ho.mono (fun _ _ h => .inl h))
        refine WA.step (r := [1]) (by kernel_rfl) (by decide) (all1 ?_)
        refine WO.c rfl rfl (o_fa 0 TI66 rfl TI39 rfl rfl ?_)
        refine WA.step (r := [2]) (by kernel_rfl) (by decide) (all1 ?_)
        refine WO.c rfl rfl (o_ldA TI39 rfl rfl (show Cells _ c4 0 [.int .i64 (e : Int), .int .i64 (a : Int)] from Cells.of hC4 0 _ (by simp)) rfl ?_)
        refine WA.step (r := [4]) (by kernel_rfl) (by decide) (all1 ?_)
        refine WO.u rfl (o_stA TI39 rfl (show _ = Value.agg #[.int .i64 (e : Int), .int .i64 (a : Int)] from rfl) rfl rfl hC3 rfl ?_)
        intro wy hB1 ho1 hs1
        replace hC3 := hB1
        replace hC2 := ho1.blk hC2 hne
        replace hq := hq.trans (ho1.mono (fun _ _ h => .inr h))
        refine WA.done (by kernel_rfl) ?_
        exact ⟨hC2, hC3, hq⟩
    · skip
      refine WO.c rfl rfl (o_fa 0 TI66 rfl TI39 rfl rfl ?_)
      refine WA.step (r := [0, 2]) (by kernel_rfl) (by decide) (all2 ?_ ?_)
      · skip
        refine WO.c rfl rfl (o_bldC (cs := [(.slice none 0 0)]) TI24 (Sizes.cons TI22 Sizes.nil) rfl lnp rfl rfl ?_)
        refine WA.step (r := [2, 3]) (by kernel_rfl) (by decide) (all2 ?_ ?_)
        · skip
          refine WO.c rfl rfl (o_ldA TI39 rfl rfl (show Cells _ c4 0 [.int .i64 (e : Int), .int .i64 (a : Int)] from Cells.of hC4 0 _ (by simp)) rfl ?_)
          refine WA.step (r := [3]) (by kernel_rfl) (by decide) (all1 ?_)
          refine WO.u rfl (o_stA TI24 rfl (show _ = Value.agg #[.slice none 0 0] from rfl) rfl rfl hC2 rfl ?_)
          intro wx hB ho hs
          replace hC2 := hB
          replace hC3 := ho.blk hC3 (fun he => hne he.symm)
          replace hC4 := ho.blk hC4 (show ¬ c4 = b2 by omega)
          replace hq := hq.trans (ho.mono (fun _ _ h => .inl h))
          refine WA.step (r := [4]) (by kernel_rfl) (by decide) (all1 ?_)
          refine WO.u rfl (o_stA TI39 rfl (show _ = Value.agg #[.int .i64 (e : Int), .int .i64 (a : Int)] from rfl) rfl rfl hC3 rfl ?_)
          intro wy hB1 ho1 hs1
          replace hC3 := hB1
          replace hC2 := ho1.blk hC2 hne
          replace hq := hq.trans (ho1.mono (fun _ _ h => .inr h))
          refine WA.done (by kernel_rfl) ?_
          exact ⟨hC2, hC3, hq⟩
        · skip
          refine WO.u rfl (o_stA TI24 rfl (show _ = Value.agg #[.slice none 0 0] from rfl) rfl rfl hC2 rfl ?_)
          intro wx hB ho hs
          replace hC2 := hB
          replace hC3 := ho.blk hC3 (fun he => hne he.symm)
          replace hC4 := ho.blk hC4 (show ¬ c4 = b2 by omega)
          replace hq := hq.trans (ho.mono (fun _ _ h => .inl h))
          refine WA.step (r := [2]) (by kernel_rfl) (by decide) (all1 ?_)
          refine WO.c rfl rfl (o_ldA TI39 rfl rfl (show Cells _ c4 0 [.int .i64 (e : Int), .int .i64 (a : Int)] from Cells.of hC4 0 _ (by simp)) rfl ?_)
          refine WA.step (r := [4]) (by kernel_rfl) (by decide) (all1 ?_)
          refine WO.u rfl (o_stA TI39 rfl (show _ = Value.agg #[.int .i64 (e : Int), .int .i64 (a : Int)] from rfl) rfl rfl hC3 rfl ?_)
          intro wy hB1 ho1 hs1
          replace hC3 := hB1
          replace hC2 := ho1.blk hC2 hne
          replace hq := hq.trans (ho1.mono (fun _ _ h => .inr h))
          refine WA.done (by kernel_rfl) ?_
          exact ⟨hC2, hC3, hq⟩
      · skip
        refine WO.c rfl rfl (o_ldA TI39 rfl rfl (show Cells _ c4 0 [.int .i64 (e : Int), .int .i64 (a : Int)] from Cells.of hC4 0 _ (by simp)) rfl ?_)
        refine WA.step (r := [0]) (by kernel_rfl) (by decide) (all1 ?_)
        refine WO.c rfl rfl (o_bldC (cs := [(.slice none 0 0)]) TI24 (Sizes.cons TI22 Sizes.nil) rfl lnp rfl rfl ?_)
        refine WA.step (r := [3]) (by kernel_rfl) (by decide) (all1 ?_)
        refine WO.u rfl (o_stA TI24 rfl (show _ = Value.agg #[.slice none 0 0] from rfl) rfl rfl hC2 rfl ?_)
        intro wx hB ho hs
        replace hC2 := hB
        replace hC3 := ho.blk hC3 (fun he => hne he.symm)
        replace hC4 := ho.blk hC4 (show ¬ c4 = b2 by omega)
        replace hq := hq.trans (ho.mono (fun _ _ h => .inl h))
        refine WA.step (r := [4]) (by kernel_rfl) (by decide) (all1 ?_)
        refine WO.u rfl (o_stA TI39 rfl (show _ = Value.agg #[.int .i64 (e : Int), .int .i64 (a : Int)] from rfl) rfl rfl hC3 rfl ?_)
        intro wy hB1 ho1 hs1
        replace hC3 := hB1
        replace hC2 := ho1.blk hC2 hne
        replace hq := hq.trans (ho1.mono (fun _ _ h => .inr h))
        refine WA.done (by kernel_rfl) ?_
        exact ⟨hC2, hC3, hq⟩
  rintro e w hfin
  exact ret0 rfl hfin
theorem parse1_ret (b2 b3 : Nat) (w0 : World) : CallsD Tryd.prog 27 #[.pointer (some ⟨b2, 0, none⟩), .pointer (some ⟨b3, 0, none⟩)] .returning w0 (fun en u2 w' => match en with | .returned _ => u2 = .returning ∧ w' = w0 | _ => False) := by
  refine calls_recover (R := fun w' => w' = w0) (l := [.pointer (some ⟨b2, 0, none⟩), .pointer (some ⟨b3, 0, none⟩)]) Tryd.func27 Tryd.ntmps27 rfl rfl rfl (.inr ⟨rfl, rfl, rfl⟩) ?_
  refine W.block ?_
  refine W.seq ?_
  refine W.region ?_
  refine WL.c rfl (o_eqNN Tryd.underlying20 rfl ?_)
  refine WL.nil ?_
  refine W.condT' rfl (rfl) ?_
  refine W.region ?_
  refine WL.c rfl (o_as ?_)
  refine WL.nil ?_
  exact ret0 rfl rfl
end Go.Proofs.YtanimeifmicmoaaDoor

set_option linter.unusedSimpArgs false
set_option linter.unusedVariables false
set_option maxRecDepth 100000
namespace Go.Proofs.YtanimeifmicmoaaDoor
open Go Go.Vc Go.RowKit Go.Proofs

theorem Many.sn {w : World} {B : Nat} {D : List Df} {V : Nat → Value} (h : Many w B 36 7 D.length V (fun j => (tyD D j).length) (fun j => exs (tyD D j))) {F : Nat → Prop} {w' : World} (ho : Only F w w') (hn : ∀ k, F k → k < B) : Many w' B 36 7 D.length V (fun j => (tyD D j).length) (fun j => exs (tyD D j)) :=
  h.only ho (fun j hj k hk hF => by have := (h.lt hj hk).1; have := hn k hF; omega)
theorem defsT_s {T : List Tk} {g i k : Nat} : defsT T (g + 1) i k = (if T.length ≤ i then .ok [] i
    else if k = 256 ∧ isT (tkA T i) 1 [116, 121, 112, 101] = true then .bad 5 i
    else (wantT T i 1 [116, 121, 112, 101]).bind fun _ i => (nameT T i).bind fun s j => (wantT T j 3 [61]).bind fun _ j => (exprT T (T.length + 2) j exM 0).bind fun N j => (wantT T j 3 [59]).bind fun _ j =>
      (defsT T g j (k + 1)).bind fun D j => .ok (⟨s, i, N⟩ :: D) j) := rfl
theorem own_base {w : World} {base base' : Nat} {el : TypeId} {s n : Nat} {v : Value} {xs : List Value} (h : w.ownsRow base el s v n xs) (hb : ∀ k, v.ownBlock = some k → base' ≤ k) : w.ownsRow base' el s v n xs := by
  obtain ⟨hl, h⟩ := h
  rcases h with h | ⟨g, cap, cur, rfl, hb2, r⟩
  · exact ⟨hl, .inl h⟩
  · exact ⟨hl, .inr ⟨g, cap, cur, rfl, hb g rfl, r⟩⟩
theorem Psr.move2 {w w' : World} {B0 p fin at_ c : Nat} {lv : Value} {T : List Tk} (h : Psr w B0 p lv T fin at_) (ho : Only (fun k => k = c) w w') (h1 : ¬ p = c) (h2 : ∀ b, lv.ownBlock = some b → ¬ b = c) : Psr w' B0 p lv T fin at_ :=
  ⟨ho.blk h.cell h1, h.toks.only ho h2, h.off, h.hp, h.le, h.small, Nat.le_trans h.b0 ho.size⟩
theorem dcell_one {s : List UInt8} {a : Int} {v : Value} (h : v.oneCell' = true) : ∀ x ∈ (Value.agg #[st s, .int .i64 a, v]).cells.toList, x.oneCell' = true := by
  intro x hx
  simp [Value.cells] at hx
  rcases hx with rfl | rfl | rfl
  · rfl
  · rfl
  · exact h
theorem cutL_ok : ∀ (xs : List UInt8) (k : Nat), (cutL xs k).2.1 = 0 → (cutL xs k).2.2 = 0 := by
  intro xs k
  induction hn : xs.length - k using Nat.strongRecOn generalizing k with
  | _ n ih =>
    rw [cutL_eq]
    split
    · rename_i hk
      split
      · have h1 := (runL_le (p := nnlB) (k := k + 1) (xs := xs) (by omega)).1
        exact ih (xs.length - runL nnlB xs (k + 1)) (by omega) _ rfl
      · split
        · exact ih (xs.length - (k + 1)) (by omega) _ rfl
        · split
          · rename_i he
            have h1 := oneL_fin xs k hk he
            exact ih (xs.length - (oneL xs k hk).2.fin) (by omega) _ rfl
          · rename_i he
            exact fun h => absurd h he
    · exact fun _ => rfl
theorem cutA_ok {xs : List UInt8} (h : (cutA xs).2.1 = 0) : (cutA xs).2.2 = 0 := by
  unfold cutA at h ⊢
  split at h
  · cases h
  · rename_i h1
    rw [if_neg h1]
    split at h
    · rename_i h2; rw [if_pos h2]; exact cutL_ok _ _ h2
    · rename_i h2; exact absurd h h2
/-- where Parse's body ends -/
def ParseQ (xs : List UInt8) (c2 c3 : Nat) (w0 : World) : Exit → Env → World → Prop
  | .ret, e, w => ∃ (dv : Value) (V : Nat → Value), e 2 = .pointer (some ⟨c2, 0, none⟩) ∧ e 3 = .pointer (some ⟨c3, 0, none⟩) ∧ (parseA xs).2 = (0, 0) ∧ w.heap[c2]? = some (.cells #[dv] 24 (0, 0)) ∧ w.heap[c3]? = some (.cells #[.int .i64 0, .int .i64 0] 39 (0, 0)) ∧ Defs w w0.heap.size (parseA xs).1 dv V ∧ Ext w0 w
  | .panic ch, e, w => ∃ (er j : Nat) (dv y1 y2 : Value), e 2 = .pointer (some ⟨c2, 0, none⟩) ∧ e 3 = .pointer (some ⟨c3, 0, none⟩) ∧ parseA xs = ([], er, plc (cutA xs).1 xs.length j) ∧ ch = [pan er (plc (cutA xs).1 xs.length j)] ∧ w.heap[c2]? = some (.cells #[dv] 24 (0, 0)) ∧ w.heap[c3]? = some (.cells #[y1, y2] 39 (0, 0)) ∧ Ext w0 w
  | _, _, _ => False

set_option maxHeartbeats 2000000 in
theorem parse_spec (xs : List UInt8) (w0 : World) (hlen : xs.length ≤ 9223372036854775807) : Ca Tryd.prog 14 #[st xs] w0 (fun v w' => ∃ dv V, v = .tuple #[.agg #[dv], .agg (faultV (parseA xs).2.1 (parseA xs).2.2)] ∧ Defs w' w0.heap.size (parseA xs).1 dv V ∧ Ext w0 w') := by
  obtain ⟨BB, hBB⟩ : ∃ B, B = w0.heap.size := ⟨_, rfl⟩
  rw [← hBB]
  refine calls_ofF (l := [st xs]) Tryd.func14 Tryd.ntmps14 rfl rfl ?_
  refine WF.seq ?_
  refine WF.of ?_
  refine W.region ?_
  refine WL.c rfl (o_alB TI24 ?_)
  intro w2 hC2 hx2 hs2
  obtain ⟨c2, hc2⟩ : ∃ c, c = w0.heap.size := ⟨_, rfl⟩
  rw [← hc2] at hC2 hs2 ⊢
  refine WL.c rfl (o_alB TI39 ?_)
  intro w3 hC3 hx3 hs3
  obtain ⟨c3, hc3⟩ : ∃ c, c = w2.heap.size := ⟨_, rfl⟩
  rw [← hc3] at hC3 hs3 ⊢
  replace hC2 := hx3.blk hC2 (fun h => h)
  have hx := hx2.tr hx3
  refine WL.nil ?_
  refine WF.seq ?_
  refine WF.of ?_
  refine W.region ?_
  refine WL.c rfl (o_mvh (show _ = Value.string _ from rfl) ?_)
  refine WL.c rfl (o_call Tryd.call26 (lc rfl ln) ((cut_spec xs _ hlen).mono ?_))
  rintro v9 w9 ⟨v1, rfl, hown, hx9⟩
  replace hC2 := hx9.blk hC2 (fun h => h)
  replace hC3 := hx9.blk hC3 (fun h => h)
  replace hx := hx.tr hx9
  have hs9 := hx9.size
  replace hown : w9.ownsRow w3.heap.size _ 5 v1 (cutA xs).1.length _ := hown
  have hTl := cutA_len xs
  obtain ⟨ta, tc, hv1⟩ : ∃ a c, v1 = .slice a (cutA xs).1.length c := (Sl.own hown).isSlice
  subst hv1
  have hTt := cut_texts xs
  have hPN : ¬ (cutA xs).2.1 = 0 → parseA xs = ([], (cutA xs).2) := fun h => by rw [parseA, if_neg h]
  have hPA : (cutA xs).2.1 = 0 → ∀ e i, defsT (cutA xs).1 ((cutA xs).1.length + 2) 0 0 = .bad e i → parseA xs = ([], e, plc (cutA xs).1 xs.length i) := fun h e i h2 => by rw [parseA, if_pos h, h2]
  have hPO : (cutA xs).2.1 = 0 → ∀ D i, defsT (cutA xs).1 ((cutA xs).1.length + 2) 0 0 = .ok D i → parseA xs = (D.map (plD (cutA xs).1), 0, 0) := fun h D i h2 => by rw [parseA, if_pos h, h2]
  refine WL.c rfl (o_mvh (by first | exact (show _ = Value.tuple _ from rfl) | exact rfl) ?_)
  refine WL.c rfl (o_ext rfl rfl ?_)
  refine WL.c rfl (o_ext rfl rfl ?_)
  refine WL.c rfl (o_ash (by first | exact (show _ = Value.slice _ _ _ from rfl) | exact rfl) ?_)
  refine WL.u (o_stA TI39 rfl (show _ = Value.agg (faultV (cutA xs).2.1 (cutA xs).2.2) from rfl) rfl rfl hC3 rfl ?_)
  intro w5 hC3' ho5 hs5
  replace hC2 := ho5.blk hC2 (show ¬ c2 = c3 by omega)
  replace hC3 : w5.heap[c3]? = some (.cells (faultV (cutA xs).2.1 (cutA xs).2.2) 39 (0, 0)) := hC3'
  replace hx := hx.trans' ho5 (fun _ h => h) (fun k hk he => by omega)
  replace hown := own_only hown ho5 (fun k hk he => by have := (hown.lt k hk).1; omega)
  clear hC3'
  refine WL.nil ?_
  refine WF.seq ?_
  refine WF.seq ?_
  refine WF.of ?_
  refine W.region ?_
  refine WL.c rfl (o_fa 0 TI39 rfl TI28 rfl rfl ?_)
  refine WL.c rfl (o_ld TI28 rfl rfl (cell_of hC3 rfl) ?_)
  refine WL.c rfl (o_ne rfl rfl ?_)
  refine WL.nil ?_
  refine WF.cond rfl (fun c14 => ?_) (fun c14 => ?_)
  · try simp only [decide_eq_true_eq, decide_eq_false_iff_not, Bool.not_eq_true', Bool.not_eq_false', Bool.and_eq_true, Bool.or_eq_true, Bool.and_eq_false_iff, Bool.or_eq_false_iff] at c14
    have hce : ¬ (cutA xs).2.1 = 0 := by omega
    refine WF.seq ?_
    refine WF.of ?_
    refine W.cut (fun e1 w1 => e1 2 = .pointer (some ⟨c2, 0, none⟩) ∧ e1 3 = .pointer (some ⟨c3, 0, none⟩) ∧ w1.heap[c2]? = some (.cells #[.slice none 0 0] 24 (0, 0)) ∧ w1.heap[c3]? = some (.cells (faultV (cutA xs).2.1 (cutA xs).2.2) 39 (0, 0)) ∧ Ext w0 w1) ?_ ?_
    · -- region 3
      refine W.enum rfl ?_
      have hdr := Only.drew w5
      replace hown := own_ext hown hdr
      replace hC2 := hdr.blk hC2 (fun h => h)
      replace hC3 := hdr.blk hC3 (fun h => h)
      replace hx := hx.tr hdr
      clear hdr
      generalize w5.drew = wd at *
      refine WA.step (r := [0, 1]) (by kernel_rfl) (by decide) (all2 ?_ ?_)
      · skip
        refine WO.c rfl rfl (o_bldC (cs := [(.slice none 0 0)]) TI24 (Sizes.cons TI22 Sizes.nil) rfl lnp rfl rfl ?_)
        refine WA.step (r := [1, 2]) (by kernel_rfl) (by decide) (all2 ?_ ?_)
        · skip
          refine WO.c rfl rfl (o_ldA TI39 rfl rfl (cells_all hC3) rfl ?_)
          refine WA.step (r := [2]) (by kernel_rfl) (by decide) (all1 ?_)
          refine WO.u rfl (o_stA TI24 rfl (show _ = Value.agg #[.slice none 0 0] from rfl) rfl rfl hC2 rfl ?_)
          intro w6 hC2' ho6 hs6
          replace hown := own_only hown ho6 (fun k hk he => by have := (hown.lt k hk).1; omega)
          replace hC3 := ho6.blk hC3 (show ¬ c3 = c2 by omega)
          replace hC2 := hC2'
          replace hx := hx.trans' ho6 (fun _ h => h) (fun k hk he => by omega)
          refine WA.step (r := [3]) (by kernel_rfl) (by decide) (all1 ?_)
          refine WO.u rfl (o_stA TI39 rfl (show _ = Value.agg (faultV (cutA xs).2.1 (cutA xs).2.2) from rfl) rfl rfl hC3 rfl ?_)
          intro w5 hC3' ho5 hs5
          replace hC2 := ho5.blk hC2 (show ¬ c2 = c3 by omega)
          replace hC3 : w5.heap[c3]? = some (.cells (faultV (cutA xs).2.1 (cutA xs).2.2) 39 (0, 0)) := hC3'
          replace hx := hx.trans' ho5 (fun _ h => h) (fun k hk he => by omega)
          replace hown := own_only hown ho5 (fun k hk he => by have := (hown.lt k hk).1; omega)
          clear hC3'
          refine WA.done (by kernel_rfl) ?_
          exact ⟨rfl, rfl, hC2, hC3, hx⟩
        · skip
          refine WO.u rfl (o_stA TI24 rfl (show _ = Value.agg #[.slice none 0 0] from rfl) rfl rfl hC2 rfl ?_)
          intro w6 hC2' ho6 hs6
          replace hown := own_only hown ho6 (fun k hk he => by have := (hown.lt k hk).1; omega)
          replace hC3 := ho6.blk hC3 (show ¬ c3 = c2 by omega)
          replace hC2 := hC2'
          replace hx := hx.trans' ho6 (fun _ h => h) (fun k hk he => by omega)
          refine WA.step (r := [1]) (by kernel_rfl) (by decide) (all1 ?_)
          refine WO.c rfl rfl (o_ldA TI39 rfl rfl (cells_all hC3) rfl ?_)
          refine WA.step (r := [3]) (by kernel_rfl) (by decide) (all1 ?_)
          refine WO.u rfl (o_stA TI39 rfl (show _ = Value.agg (faultV (cutA xs).2.1 (cutA xs).2.2) from rfl) rfl rfl hC3 rfl ?_)
          intro w5 hC3' ho5 hs5
          replace hC2 := ho5.blk hC2 (show ¬ c2 = c3 by omega)
          replace hC3 : w5.heap[c3]? = some (.cells (faultV (cutA xs).2.1 (cutA xs).2.2) 39 (0, 0)) := hC3'
          replace hx := hx.trans' ho5 (fun _ h => h) (fun k hk he => by omega)
          replace hown := own_only hown ho5 (fun k hk he => by have := (hown.lt k hk).1; omega)
          clear hC3'
          refine WA.done (by kernel_rfl) ?_
          exact ⟨rfl, rfl, hC2, hC3, hx⟩
      · skip
        refine WO.c rfl rfl (o_ldA TI39 rfl rfl (cells_all hC3) rfl ?_)
        refine WA.step (r := [0]) (by kernel_rfl) (by decide) (all1 ?_)
        refine WO.c rfl rfl (o_bldC (cs := [(.slice none 0 0)]) TI24 (Sizes.cons TI22 Sizes.nil) rfl lnp rfl rfl ?_)
        refine WA.step (r := [2]) (by kernel_rfl) (by decide) (all1 ?_)
        refine WO.u rfl (o_stA TI24 rfl (show _ = Value.agg #[.slice none 0 0] from rfl) rfl rfl hC2 rfl ?_)
        intro w6 hC2' ho6 hs6
        replace hown := own_only hown ho6 (fun k hk he => by have := (hown.lt k hk).1; omega)
        replace hC3 := ho6.blk hC3 (show ¬ c3 = c2 by omega)
        replace hC2 := hC2'
        replace hx := hx.trans' ho6 (fun _ h => h) (fun k hk he => by omega)
        refine WA.step (r := [3]) (by kernel_rfl) (by decide) (all1 ?_)
        refine WO.u rfl (o_stA TI39 rfl (show _ = Value.agg (faultV (cutA xs).2.1 (cutA xs).2.2) from rfl) rfl rfl hC3 rfl ?_)
        intro w5 hC3' ho5 hs5
        replace hC2 := ho5.blk hC2 (show ¬ c2 = c3 by omega)
        replace hC3 : w5.heap[c3]? = some (.cells (faultV (cutA xs).2.1 (cutA xs).2.2) 39 (0, 0)) := hC3'
        replace hx := hx.trans' ho5 (fun _ h => h) (fun k hk he => by omega)
        replace hown := own_only hown ho5 (fun k hk he => by have := (hown.lt k hk).1; omega)
        clear hC3'
        refine WA.done (by kernel_rfl) ?_
        exact ⟨rfl, rfl, hC2, hC3, hx⟩
    rintro e w ⟨h2, h3, hC2, hC3, hx⟩
    refine WF.of ?_
    refine W.ret ?_
    refine Lv.ret (R := fun v w' => v = .tuple #[.agg #[.slice none 0 0], .agg (faultV (cutA xs).2.1 (cutA xs).2.2)] ∧ w' = w) (retAA rfl TI24 rfl TI39 rfl h2 h3 (show Cells w c2 0 [.slice none 0 0] from Cells.of hC2 0 _ (by simp)) rfl (show Cells w c3 0 (faultV (cutA xs).2.1 (cutA xs).2.2).toList from Cells.of hC3 0 _ (by simp [faultV])) rfl ⟨rfl, rfl⟩) ?_
    rintro v w' ⟨rfl, rfl⟩
    rw [hPN hce]
    exact ⟨.slice none 0 0, fun _ => undef, rfl, Defs.nil _ _ _, hx⟩
  · try simp only [decide_eq_true_eq, decide_eq_false_iff_not, Bool.not_eq_true', Bool.not_eq_false', Bool.and_eq_true, Bool.or_eq_true, Bool.and_eq_false_iff, Bool.or_eq_false_iff] at c14
    have hce : (cutA xs).2.1 = 0 := by omega
    have hPC : (cutA xs).2.2 = 0 := cutA_ok hce
    have hC30 : w5.heap[c3]? = some (.cells #[.int .i64 0, .int .i64 0] 39 (0, 0)) := by rw [hce, hPC] at hC3; exact hC3
    clear hC3
    have hC3 := hC30
    refine WF.of ?_
    refine W.skip ?_
    refine WF.seq ?_
    refine WF.region ?_
    refine WLF.c rfl (o_mkF (lc rfl (lc rfl ln)) ?_)
    refine WLF.d rfl ?_
    refine WLF.nil ?_
    refine WF.of ?_
    refine W.mono (Q' := ParseQ xs c2 c3 w0) ?_ ?_
    rotate_left
    · rintro x e w hq
      cases x with
      | ret =>
        obtain ⟨dv, V, g2, g3, gA, gC2, gC3, gD, gx⟩ := hq
        refine Lv.one Tryd.call27 (by simp) (S := fun u2 w' => u2 = .returning ∧ w' = w) ((parse1_ret c2 c3 w).mono (fun en u w' h => by cases en <;> exact h)) ?_
        rintro u' w11 ⟨rfl, rfl⟩
        refine Lv.ret (R := fun v w' => v = .tuple #[.agg #[dv], .agg #[.int .i64 0, .int .i64 0]] ∧ w' = w11) (retAA rfl TI24 rfl TI39 rfl g2 g3 (show Cells w11 c2 0 [dv] from Cells.of gC2 0 _ (by simp)) rfl (show Cells w11 c3 0 [.int .i64 0, .int .i64 0] from Cells.of gC3 0 _ (by simp)) rfl ⟨rfl, rfl⟩) ?_
        rintro v w' ⟨rfl, rfl⟩
        exact ⟨dv, V, by rw [gA]; rfl, by rw [hBB]; exact gD, gx⟩
      | panic ch =>
        obtain ⟨er, j, dv, y1, y2, g2, g3, gA, rfl, gC2, gC3, gx⟩ := hq
        refine Lv.one Tryd.call27 (by simp) (S := fun u2 w' => u2 = .panicking [{ pan er (plc (cutA xs).1 xs.length j) with recovered := true }] ∧ (w'.heap[c2]? = some (.cells #[.slice none 0 0] 24 (0, 0)) ∧ w'.heap[c3]? = some (.cells #[.int .i64 (er : Int), .int .i64 (plc (cutA xs).1 xs.length j : Int)] 39 (0, 0)) ∧ Only (fun k => k = c2 ∨ k = c3) w w')) ((parse1_panic c2 c3 er (plc (cutA xs).1 xs.length j) _ _ _ w gC2 gC3).mono (fun en u w' h => by cases en <;> exact h)) ?_
        rintro u' w9 ⟨rfl, hB2, hB3, ho9⟩
        refine Lv.ret (R := fun v w' => v = .tuple #[.agg #[.slice none 0 0], .agg #[.int .i64 (er : Int), .int .i64 (plc (cutA xs).1 xs.length j : Int)]] ∧ w' = w9) (retAA rfl TI24 rfl TI39 rfl g2 g3 (show Cells w9 c2 0 [.slice none 0 0] from Cells.of hB2 0 _ (by simp)) rfl (show Cells w9 c3 0 [.int .i64 (er : Int), .int .i64 (plc (cutA xs).1 xs.length j : Int)] from Cells.of hB3 0 _ (by simp)) rfl ⟨rfl, rfl⟩) ?_
        rintro v w' ⟨rfl, rfl⟩
        rw [gA]
        exact ⟨.slice none 0 0, fun _ => undef, rfl, Defs.nil _ _ _, gx.trans' ho9 (fun _ h => h) (fun k hk hF => by omega)⟩
      | _ => exact hq.elim
    refine W.seq ?_
    refine W.region ?_
    refine WL.c rfl (o_mvh (by first | exact (show _ = Value.slice _ _ _ from rfl) | exact rfl) ?_)
    refine WL.c rfl (o_mvh (show _ = Value.string _ from rfl) ?_)
    refine WL.c rfl (o_lenT TI9 rfl ?_)
    refine WL.c rfl (o_bldC (cs := [_, (.int .i64 0), _]) TI69 (Sizes.cons TI62 (Sizes.cons TI3 (Sizes.cons TI3 Sizes.nil))) rfl (lcp (show _ = Value.slice ta (cutA xs).1.length tc from rfl) (lcp (show _ = Value.int _ _ from rfl) lnp)) rfl rfl ?_)
    refine WL.c rfl (o_boxB rfl ?_)
    intro w22 hC22 hx22 hs22
    obtain ⟨p, hp⟩ : ∃ c, c = w5.heap.size := ⟨_, rfl⟩
    rw [← hp] at hC22 hs22 ⊢
    replace hC22 : w22.heap[p]? = some (.cells #[.slice ta (cutA xs).1.length tc, .int .i64 ((0 : Nat) : Int), .int .i64 (xs.length : Int)] 69 (0, 0)) := hC22
    have h5s : w5.heap.size = w9.heap.size := hs5
    obtain ⟨B, hB⟩ : ∃ B, B = p + 1 := ⟨_, rfl⟩
    have h : Psr w22 B p (.slice ta (cutA xs).1.length tc) (cutA xs).1 xs.length 0 := ⟨hC22, Sl.ext (Sl.own hown) hx22, fun b hb => by have := (hown.lt b hb).2; omega, by omega, Nat.zero_le _, by omega, by omega⟩
    replace hC2 := hx22.blk hC2 (fun h => h)
    replace hC3 := hx22.blk hC3 (fun h => h)
    replace hx := hx.tr hx22
    have hc2p : ¬ c2 = p := by omega
    have hc3p : ¬ c3 = p := by omega
    have hfu : ∀ k, k < w9.heap.size → ¬ B ≤ k := fun k hk => by omega
    have hBw : w0.heap.size ≤ B := by omega
    refine WL.c rfl (o_ash (by first | exact (show _ = Value.pointer _ from rfl) | exact rfl) ?_)
    refine WL.nil ?_
    refine W.seq ?_
    refine W.block ?_
    refine W.loopN (fun g e w => ∃ (i : Nat) (D : List Df) (dv : Value) (V : Nat → Value), e 2 = .pointer (some ⟨c2, 0, none⟩) ∧ e 3 = .pointer (some ⟨c3, 0, none⟩) ∧ e 5 = .pointer (some ⟨p, 0, none⟩) ∧ Psr w B p (.slice ta (cutA xs).1.length tc) (cutA xs).1 xs.length i ∧ w.heap[c2]? = some (.cells #[dv] 24 (0, 0)) ∧ w.heap[c3]? = some (.cells #[.int .i64 0, .int .i64 0] 39 (0, 0)) ∧ Defs w B (D.map (plD (cutA xs).1)) dv V ∧ D.length ≤ i ∧ (cutA xs).1.length + 2 ≤ g + i ∧ defsT (cutA xs).1 ((cutA xs).1.length + 2) 0 0 = ((defsT (cutA xs).1 g i D.length).bind fun D' j => .ok (D ++ D') j) ∧ Ext w0 w) ?_ ?_
    · refine ⟨(cutA xs).1.length + 2, 0, [], .slice none 0 0, fun _ => undef, rfl, rfl, rfl, h, hC2, hC3, Defs.nil _ _ _, Nat.le_refl _, Nat.le_refl _, ?_, hx⟩
      cases defsT (cutA xs).1 ((cutA xs).1.length + 2) 0 0 <;> simp [Pr.bind]
    rintro g e w ⟨i, D, dv, V, h2, h3, h5, h, hC2, hC3, hD, hDi, hgi, hres, hx⟩
    refine W.seq ?_
    refine W.seq ?_
    refine W.quiet rfl (by kernel_rfl) ?_
    refine WQ.c rfl ((QO.o rfl fun _ => o_mvh h5 ⟨rfl, rfl⟩)) ?_
    refine WQ.c rfl ((QO.r fun _ => r_nil rfl)) ?_
    refine WQ.c rfl ((QO.o rfl fun _ => o_fa 1 TI69 rfl TI3 rfl rfl ⟨rfl, rfl⟩)) ?_
    refine WQ.c rfl ((QO.o rfl fun _ => o_ld TI3 rfl rfl (cell_of h.cell rfl) ⟨rfl, rfl⟩)) ?_
    refine WQ.c rfl ((QO.o rfl fun _ => o_mvh h5 ⟨rfl, rfl⟩)) ?_
    refine WQ.c rfl ((QO.r fun _ => r_nil rfl)) ?_
    refine WQ.c rfl ((QO.o rfl fun _ => o_fa 0 TI69 rfl TI62 rfl rfl ⟨rfl, rfl⟩)) ?_
    refine WQ.c rfl ((QO.o rfl fun _ => o_ld TI62 rfl rfl (cell_of h.cell rfl) ⟨rfl, rfl⟩)) ?_
    refine WQ.c rfl ((QO.r fun _ => r_lenR TI62 rfl h.toks)) ?_
    refine WQ.c rfl ((QO.o rfl fun _ => o_lt rfl rfl ⟨rfl, rfl⟩)) ?_
    refine WQ.nil ?_
    intro nq
    have hxq := Only.drewN w nq
    replace h := h.ext hxq
    replace hC2 := hxq.blk hC2 (fun h => h)
    replace hC3 := hxq.blk hC3 (fun h => h)
    replace hD := hD.ext hxq
    replace hx := hx.tr hxq
    clear hxq
    generalize w.drewN nq = wq at *
    refine W.cond rfl (fun c32 => ?_) (fun c32 => ?_)
    · try simp only [decide_eq_true_eq, decide_eq_false_iff_not, Bool.not_eq_true', Bool.not_eq_false', Bool.and_eq_true, Bool.or_eq_true, Bool.and_eq_false_iff, Bool.or_eq_false_iff] at c32
      have hil : i < (cutA xs).1.length := by omega
      obtain ⟨g, rfl⟩ : ∃ g', g = g' + 1 := ⟨g - 1, by omega⟩
      refine W.skip ?_
      refine W.block ?_
      refine W.seq ?_
      refine W.seq ?_
      refine W.region ?_
      refine WL.cut (fun e1 w1 => e1 2 = .pointer (some ⟨c2, 0, none⟩) ∧ e1 3 = .pointer (some ⟨c3, 0, none⟩) ∧ e1 5 = .pointer (some ⟨p, 0, none⟩) ∧ e1 40 = .bool (decide (D.length = 256 ∧ isT (tkA (cutA xs).1 i) 1 [116, 121, 112, 101] = true)) ∧ Ext wq w1) ?_ ?_
      · -- region 7
        refine WL.c rfl (o_fa 0 TI24 rfl TI22 rfl h2 ?_)
        refine WL.c rfl (o_ld TI22 rfl rfl (cell_of hC2 rfl) ?_)
        refine WL.c rfl (o_lenR TI22 rfl (Sl.own hD.row) ?_)
        refine WL.c rfl (o_eq rfl rfl ?_)
        refine WL.c rfl (o_mvh (show _ = Value.bool _ from rfl) ?_)
        refine WL.sp 4 rfl (fun g37 => ?_) (fun g37 => ?_)
        · skip
          refine WL.g rfl (g37) rfl (o_mvh h5 ?_)
          refine WL.g rfl (g37) rfl (o_call Tryd.call28 (lc rfl (lc rfl (lc rfl ln))) ((is_spec B p (.slice ta (cutA xs).1.length tc) (cutA xs).1 xs.length i _ h 1 [116, 121, 112, 101]).mono ?_))
          rintro v39 w39 ⟨rfl, hx39⟩
          refine WL.c rfl (o_pickA rfl rfl ?_)
          exact WL.nil (⟨h2, h3, h5, congrArg Value.bool (by rw [List.length_map] at g37; rw [Bool.eq_iff_iff]; simp_all <;> omega), by first | exact hx39 | exact Only.refl _ _⟩)
        · skip
          refine WL.s rfl (g37) rfl ?_
          refine WL.s rfl (g37) rfl ?_
          refine WL.c rfl (o_pickF rfl (g37) ?_)
          exact WL.nil (⟨h2, h3, h5, congrArg Value.bool (by rw [List.length_map] at g37; rw [Bool.eq_iff_iff]; simp_all <;> omega), by first | exact hx39 | exact Only.refl _ _⟩)
      rintro e w ⟨h2, h3, h5, h40, hx7⟩
      replace h := h.ext hx7
      replace hC2 := hx7.blk hC2 (fun h => h)
      replace hC3 := hx7.blk hC3 (fun h => h)
      replace hD := hD.ext hx7
      replace hx := hx.tr hx7
      refine W.cond h40 (fun c40 => ?_) (fun c40 => ?_)
      · try simp only [decide_eq_true_eq, decide_eq_false_iff_not, Bool.not_eq_true', Bool.not_eq_false', Bool.and_eq_true, Bool.or_eq_true, Bool.and_eq_false_iff, Bool.or_eq_false_iff] at c40
        have hnm : D.length = 256 ∧ isT (tkA (cutA xs).1 i) 1 [116, 121, 112, 101] = true := by simpa using c40
        refine W.region ?_
        refine WL.c rfl (o_mvh h5 ?_)
        refine WL.cx rfl (ox_call Tryd.call29 (lc rfl (lc rfl ln)) ((fails_spec B p (.slice ta (cutA xs).1.length tc) (cutA xs).1 xs.length i _ h 5).mono ?_ (fun ch w' hh => by obtain ⟨g2, g3⟩ := hh; exact ⟨5, i, dv, _, _, h2, h3, hPA hce _ _ (by rw [hres, defsT_s, if_neg (by omega), if_pos hnm]; rfl), g2, g3.blk hC2 (fun h => h), g3.blk hC3 (fun h => h), hx.tr g3⟩)))
        exact fun _ _ hf => hf.elim
      · try simp only [decide_eq_true_eq, decide_eq_false_iff_not, Bool.not_eq_true', Bool.not_eq_false', Bool.and_eq_true, Bool.or_eq_true, Bool.and_eq_false_iff, Bool.or_eq_false_iff] at c40
        have hnm : ¬ (D.length = 256 ∧ isT (tkA (cutA xs).1 i) 1 [116, 121, 112, 101] = true) := by simpa using c40
        refine W.skip ?_
        refine W.seq ?_
        refine W.region ?_
        refine WL.c rfl (o_mvh h5 ?_)
        refine WL.cx rfl (ox_call Tryd.call30 (lc rfl (lc rfl (lc rfl ln))) ((want_spec B p (.slice ta (cutA xs).1.length tc) (cutA xs).1 xs.length i _ h 1 (by decide) [116, 121, 112, 101]).mono ?_ (fun ch w' hh => by obtain ⟨er, j, g1, g2, g3⟩ := hh; exact ⟨er, j, dv, _, _, h2, h3, hPA hce _ _ (by rw [hres, defsT_s, if_neg (by omega), if_neg hnm, g1]; rfl), g2, g3.blk hC2 (fun h => h), g3.blk hC3 (fun h => h), hx.tr g3⟩)))
        rintro v44 w44 ⟨hw1, h', ho⟩
        replace h := h'
        replace hC2 := ho.blk hC2 hc2p
        replace hC3 := ho.blk hC3 hc3p
        replace hD := hD.only ho (fun k hk he => by have := (hD.lt k hk).1; omega)
        replace hx := hx.trans' ho (fun _ h => h) (fun k hk he => by omega)
        refine WL.nil ?_
        refine W.seq ?_
        refine W.region ?_
        refine WL.c rfl (o_mvh h5 ?_)
        refine WL.c rfl (o_call Tryd.call31 (lc rfl ln) ((place_spec B p (.slice ta (cutA xs).1.length tc) (cutA xs).1 xs.length (i + 1) _ h).mono ?_))
        rintro v46 w46 ⟨rfl, hx46⟩
        replace h := h.ext hx46
        replace hC2 := hx46.blk hC2 (fun h => h)
        replace hC3 := hx46.blk hC3 (fun h => h)
        replace hD := hD.ext hx46
        replace hx := hx.tr hx46
        have hp46 := (Array.getElem?_eq_some_iff.1 h.cell).1
        have hc246 := (Array.getElem?_eq_some_iff.1 hC2).1
        have hc346 := (Array.getElem?_eq_some_iff.1 hC3).1
        have hx46s := hx.size
        have hD46 := hD
        refine WL.c rfl (o_bldC (cs := [(.string ⟨#[]⟩), _, (.slice none 0 0)]) TI34 (Sizes.cons TI9 (Sizes.cons TI3 (Sizes.cons TI32 Sizes.nil))) rfl (lcp (show _ = Value.int _ _ from rfl) lnp) rfl rfl ?_)
        refine WL.c rfl (o_alB TI34 ?_)
        intro wa hCa hxa hsa
        refine WL.u (o_stA TI34 rfl (show _ = Value.agg #[st [], .int .i64 (plc (cutA xs).1 xs.length (i + 1) : Int), .slice none 0 0] from rfl) rfl rfl hCa rfl ?_)
        intro wb hC6 hob hsb
        have hxb := Ext.own hxa (Nat.le_refl _) hob
        clear hCa hxa hob
        replace h := h.ext hxb
        replace hC2 := hxb.blk hC2 (fun h => h)
        replace hC3 := hxb.blk hC3 (fun h => h)
        replace hD := hD.ext hxb
        replace hx := hx.tr hxb
        obtain ⟨c6, hc6⟩ : ∃ c, c = w46.heap.size := ⟨_, rfl⟩
        rw [← hc6] at hC6 ⊢
        have hc6p : ¬ c6 = p := by omega
        have hc26 : ¬ c2 = c6 := by omega
        have hc36 : ¬ c3 = c6 := by omega
        have hc6B : B ≤ c6 := by omega
        have hDc6 : ∀ k, DF dv V (D.map (plD (cutA xs).1)).length k → ¬ k = c6 := fun k hk he => by have := (hD46.lt k hk).2; omega
        refine WL.nil ?_
        refine W.seq ?_
        refine W.region ?_
        refine WL.c rfl (o_mvh h5 ?_)
        refine WL.cx rfl (ox_call Tryd.call32 (lc rfl ln) ((namep_spec B p (.slice ta (cutA xs).1.length tc) (cutA xs).1 xs.length (i + 1) _ h (hTt _)).mono ?_ (fun ch w' hh => by obtain ⟨er, j, g1, g2, g3⟩ := hh; exact ⟨er, j, dv, _, _, h2, h3, hPA hce _ _ (by rw [hres, defsT_s, if_neg (by omega), if_neg hnm, hw1, Pr.bind_ok, g1]; rfl), g2, g3.blk hC2 (fun h => h), g3.blk hC3 (fun h => h), hx.tr g3⟩)))
        rintro v49 w49 ⟨sn, hw2, rfl, h', ho⟩
        replace h := h'
        replace hC2 := ho.blk hC2 hc2p
        replace hC3 := ho.blk hC3 hc3p
        replace hD := hD.only ho (fun k hk he => by have := (hD.lt k hk).1; omega)
        replace hC6 := ho.blk hC6 hc6p
        replace hx := hx.trans' ho (fun _ h => h) (fun k hk he => by omega)
        have hnl : i + 1 < (cutA xs).1.length := by have := h.le; omega
        refine WL.c rfl (o_fa 0 TI34 rfl TI9 rfl rfl ?_)
        refine WL.u (o_stB TI9 rfl (show _ = Value.string _ from rfl) rfl hC6 (show 0 < 3 by decide) ?_)
        intro w50 hC6' ho6 hs6
        replace hC6 : w50.heap[c6]? = some (.cells #[st sn, .int .i64 (plc (cutA xs).1 xs.length (i + 1) : Int), .slice none 0 0] 34 (0, 0)) := hC6'
        clear hC6'
        replace h := h.keep ho6 (fun k hk => by omega)
        replace hC2 := ho6.blk hC2 hc26
        replace hC3 := ho6.blk hC3 hc36
        replace hD := hD.only ho6 hDc6
        replace hx := hx.trans' ho6 (fun _ h => h) (fun k hk he => by omega)
        refine WL.nil ?_
        refine W.seq ?_
        refine W.region ?_
        refine WL.c rfl (o_mvh h5 ?_)
        refine WL.cx rfl (ox_call Tryd.call33 (lc rfl (lc rfl ln)) ((mark_spec B p (.slice ta (cutA xs).1.length tc) (cutA xs).1 xs.length (i + 1 + 1) _ h [61]).mono ?_ (fun ch w' hh => by obtain ⟨er, j, g1, g2, g3⟩ := hh; exact ⟨er, j, dv, _, _, h2, h3, hPA hce _ _ (by rw [hres, defsT_s, if_neg (by omega), if_neg hnm, hw1, Pr.bind_ok, hw2, Pr.bind_ok, g1]; rfl), g2, g3.blk hC2 (fun h => h), g3.blk hC3 (fun h => h), hx.tr g3⟩)))
        rintro v52 w52 ⟨hw3, h', ho⟩
        replace h := h'
        replace hC2 := ho.blk hC2 hc2p
        replace hC3 := ho.blk hC3 hc3p
        replace hD := hD.only ho (fun k hk he => by have := (hD.lt k hk).1; omega)
        replace hC6 := ho.blk hC6 hc6p
        replace hx := hx.trans' ho (fun _ h => h) (fun k hk he => by omega)
        refine WL.nil ?_
        refine W.seq ?_
        refine W.region ?_
        refine WL.c rfl (o_mvh h5 ?_)
        refine WL.c rfl (o_bldC (cs := [(.int .i64 0), (.int .i64 0), (.string ⟨#[]⟩), (.string ⟨#[]⟩), (.int .i64 0), (.int .i64 0), (.int .i64 (-1))]) TI36 (Sizes.cons TI3 (Sizes.cons TI3 (Sizes.cons TI9 (Sizes.cons TI9 (Sizes.cons TI3 (Sizes.cons TI3 (Sizes.cons TI3 Sizes.nil))))))) rfl (lcp (show _ = Value.int _ _ from rfl) lnp) rfl rfl ?_)
        have hE2 := expr_spec (B0 := B) (p := p) (lv := .slice ta (cutA xs).1.length tc) (fin := xs.length) hTt ((cutA xs).1.length + 2) 0 0 (by omega) (by omega) (i + 1 + 1 + 1) exM [] (.slice none 0 0) _ (Nat.zero_le _) rfl h (World.ownsRow_nil _ _ _ _) (Nat.zero_le _)
        rw [plE_exM] at hE2
        have hs55 := hx.size
        have hD55 := hD
        have h55b := h.b0
        have hnil : True := trivial
        refine WL.cx rfl (ox_call Tryd.call34 (lc rfl (lc rfl (lc rfl (lc rfl ln)))) ((hE2).mono ?_ (fun ch w' hh => by obtain ⟨er, j, g1, g2, g3⟩ := hh; replace g1 : exprT (cutA xs).1 ((cutA xs).1.length + 2) (i + 1 + 1 + 1) exM 0 = .bad er j := g1; replace g3 : Only (fun k => k = p) _ w' := g3.mono (fun k _ hk => by rcases hk with hk | hk; exact hk; cases hk); exact ⟨er, j, dv, _, _, h2, h3, hPA hce _ _ (by rw [hres, defsT_s, if_neg (by omega), if_neg hnm, hw1, Pr.bind_ok, hw2, Pr.bind_ok, hw3, Pr.bind_ok, g1]; rfl), g2, g3.blk hC2 hc2p, g3.blk hC3 hc3p, hx.trans' g3 (fun _ h => h) (fun k hk he => by omega)⟩)))
        rintro v55 w55 ⟨N, j, hN, hty, hNl, hij, hvb, h', ho0⟩
        replace hN : exprT (cutA xs).1 ((cutA xs).1.length + 2) (i + 1 + 1 + 1) exM 0 = .ok N j := hN
        have ho : Only (fun k => k = p) _ w55 := ho0.mono (fun k _ hk => by rcases hk with hk | hk; exact hk; cases hk)
        clear ho0
        have hvb2 : ∀ k, v55.ownBlock = some k → w52.heap.size ≤ k := fun k hk => by rcases hvb k hk with h1 | h1; cases h1; exact h1
        replace hty := own_base hty hvb2
        have hc652 := (Array.getElem?_eq_some_iff.1 hC6).1
        replace h := h'
        replace hC2 := ho.blk hC2 hc2p
        replace hC3 := ho.blk hC3 hc3p
        replace hD := hD.only ho (fun k hk he => by have := (hD.lt k hk).1; omega)
        replace hC6 := ho.blk hC6 hc6p
        replace hx := hx.trans' ho (fun _ h => h) (fun k hk he => by omega)
        refine WL.c rfl (o_fa 2 TI34 rfl TI32 rfl rfl ?_)
        refine WL.u (o_stB TI32 rfl (show _ = v55 from rfl) (own_one hty) hC6 (show 2 < 3 by decide) ?_)
        intro w56 hC6' ho6 hs6
        replace hC6 : w56.heap[c6]? = some (.cells #[st sn, .int .i64 (plc (cutA xs).1 xs.length (i + 1) : Int), v55] 34 (0, 0)) := hC6'
        clear hC6'
        replace h := h.keep ho6 (fun k hk => by omega)
        replace hC2 := ho6.blk hC2 hc26
        replace hC3 := ho6.blk hC3 hc36
        replace hD := hD.only ho6 hDc6
        replace hx := hx.trans' ho6 (fun _ h => h) (fun k hk he => by omega)
        replace hty := own_only hty ho6 (fun k hk he => by have := hvb2 k hk; omega)
        refine WL.nil ?_
        refine W.seq ?_
        refine W.region ?_
        refine WL.c rfl (o_mvh h5 ?_)
        refine WL.cx rfl (ox_call Tryd.call33 (lc rfl (lc rfl ln)) ((mark_spec B p (.slice ta (cutA xs).1.length tc) (cutA xs).1 xs.length j _ h [59]).mono ?_ (fun ch w' hh => by obtain ⟨er, j, g1, g2, g3⟩ := hh; exact ⟨er, j, dv, _, _, h2, h3, hPA hce _ _ (by rw [hres, defsT_s, if_neg (by omega), if_neg hnm, hw1, Pr.bind_ok, hw2, Pr.bind_ok, hw3, Pr.bind_ok, hN, Pr.bind_ok, g1]; rfl), g2, g3.blk hC2 (fun h => h), g3.blk hC3 (fun h => h), hx.tr g3⟩)))
        rintro v58 w58 ⟨hw4, h', ho⟩
        replace hty := own_only hty ho (fun k hk he => by have := hvb2 k hk; omega)
        replace h := h'
        replace hC2 := ho.blk hC2 hc2p
        replace hC3 := ho.blk hC3 hc3p
        replace hD := hD.only ho (fun k hk he => by have := (hD.lt k hk).1; omega)
        replace hC6 := ho.blk hC6 hc6p
        replace hx := hx.trans' ho (fun _ h => h) (fun k hk he => by omega)
        refine WL.nil ?_
        refine W.region ?_
        refine WL.c rfl (o_fa 0 TI24 rfl TI22 rfl h2 ?_)
        refine WL.c rfl (o_ld TI22 rfl rfl (cell_of hC2 rfl) ?_)
        refine WL.c rfl (o_ldA TI34 rfl rfl (show Cells _ c6 0 [st sn, .int .i64 (plc (cutA xs).1 xs.length (i + 1) : Int), v55] from Cells.of hC6 0 _ (by simp)) rfl ?_)
        have hty1 := own_one hty
        refine WL.apO (B) rfl rfl TI22 TI34 rfl rfl hD.row (by decide) (by decide) rfl (dcell_one hty1) rfl (by rw [maxLen_eq, List.length_map]; omega) (by rw [List.length_map]; omega) (by have := h.b0; omega) ?_
        intro v63 w63 hown1 ho63 hob63 _
        replace hob63 : v63.ownBlock = dv.ownBlock ∨ _ := hob63
        replace ho63 : Only (fun k => dv.ownBlock = some k) _ _ := ho63
        have hdl : ∀ k, dv.ownBlock = some k → B ≤ k := fun k hk => (hD.row.lt k hk).1
        replace h := h.keep ho63 (fun k hk => by have := hdl k hk; omega)
        replace hC3 := ho63.blk hC3 (fun hk => by have := hdl _ hk; omega)
        have hC2o := hC2
        replace hC2 := ho63.blk hC2 (fun hk => by have := hdl _ hk; omega)
        have htys := hD.tys.only ho63 (fun j hj k hk hF => own_row_off hD.row (hD.tys.row j hj) (by decide) k hk hF)
        replace hty := own_only hty ho63 (fun k hk hF => own_row_off hD.row hty (by decide) k hk hF)
        replace hx := hx.trans' ho63 (fun _ h => h) (fun k hk hF => by have := hdl k hF; omega)
        have hV55 : ∀ j, j < (D.map (plD (cutA xs).1)).length → ∀ k, (V j).ownBlock = some k → k < w52.heap.size := fun j hj k hk => (hD55.tys.lt hj hk).2
        have hB52 : B ≤ w52.heap.size := by have := h55b; omega
        have hpd : dcell (plD (cutA xs).1 ⟨sn, ((i + 1 : Nat) : Int), N⟩) v55 = [st sn, .int .i64 (plc (cutA xs).1 xs.length (i + 1) : Int), v55] := by rw [plc_lt hnl]; rfl
        have hDn := Defs.snoc (d := plD (cutA xs).1 ⟨sn, ((i + 1 : Nat) : Int), N⟩) (by rw [hpd]; exact hown1) htys hty hB52 hV55
        have h63c : ¬ v63.ownBlock = some c2 := own_off hown1 hC2 (by decide)
        refine WL.c rfl (o_fa 0 TI24 rfl TI22 rfl h2 ?_)
        refine WL.u (o_stB TI22 rfl (show _ = v63 from rfl) (own_one hown1) hC2 (show 0 < 1 by decide) ?_)
        intro w64 hC2' ho64 hs64
        replace hC2 : w64.heap[c2]? = some (.cells #[v63] 24 (0, 0)) := hC2'
        replace hC3 := ho64.blk hC3 (show ¬ c3 = c2 by omega)
        replace h := h.move2 ho64 (show ¬ p = c2 by omega) (fun b hb => by have := (hown.lt b hb).1; omega)
        have hDm := hDn.only ho64 (fun k hk he => by have := (hDn.lt k hk).1; omega)
        replace hx := hx.trans' ho64 (fun _ h => h) (fun k hk he => by omega)
        refine WL.nil ?_
        refine ⟨g, by omega, j + 1, D ++ [⟨sn, ((i + 1 : Nat) : Int), N⟩], v63, _, h2, h3, h5, h, hC2, hC3, (by rw [List.map_append, List.map_singleton]; exact hDm), by rw [List.length_append, List.length_singleton]; omega, by omega, ?_, hx⟩
        rw [hres, defsT_s, if_neg (by omega), if_neg hnm, hw1, Pr.bind_ok, hw2, Pr.bind_ok, hw3, Pr.bind_ok, hN, Pr.bind_ok, hw4, Pr.bind_ok, List.length_append, List.length_singleton]
        cases defsT (cutA xs).1 g (j + 1) (D.length + 1) <;> simp [Pr.bind]
    · try simp only [decide_eq_true_eq, decide_eq_false_iff_not, Bool.not_eq_true', Bool.not_eq_false', Bool.and_eq_true, Bool.or_eq_true, Bool.and_eq_false_iff, Bool.or_eq_false_iff] at c32
      have hil : (cutA xs).1.length ≤ i := by omega
      obtain ⟨g, rfl⟩ : ∃ g', g = g' + 1 := ⟨g - 1, by have := h.le; omega⟩
      have hfin := hPO hce _ _ (hres.trans (by rw [defsT_s, if_pos hil]; rfl))
      refine W.exit ?_
      refine W.seq ?_
      refine W.region ?_
      refine WL.c rfl (o_ldA TI24 rfl h2 (show Cells _ c2 0 [dv] from Cells.of hC2 0 _ (by simp)) rfl ?_)
      refine WL.c rfl (o_bldC (cs := [(.int .i64 0), (.int .i64 0)]) TI39 (Sizes.cons TI28 (Sizes.cons TI3 Sizes.nil)) rfl lnp rfl rfl ?_)
      refine WL.u (o_stA TI24 h2 (show _ = Value.agg #[dv] from rfl) rfl (by simp [own_one hD.row]) hC2 rfl ?_)
      intro wa hC2' hoa hsa
      replace hC3 := hoa.blk hC3 (show ¬ c3 = c2 by omega)
      replace hD := hD.only hoa (fun k hk he => by have := (hD.lt k hk).1; omega)
      replace hx := hx.trans' hoa (fun _ h => h) (fun k hk he => by omega)
      refine WL.u (o_stA TI39 h3 (show _ = Value.agg #[.int .i64 0, .int .i64 0] from rfl) rfl rfl hC3 rfl ?_)
      intro wb hC3' hob hsb
      replace hC2 := hob.blk hC2' (show ¬ c2 = c3 by omega)
      replace hD := hD.only hob (fun k hk he => by have := (hD.lt k hk).1; omega)
      replace hx := hx.trans' hob (fun _ h => h) (fun k hk he => by omega)
      refine WL.nil ?_
      refine W.ret ?_
      rw [List.append_nil] at hfin
      exact ⟨dv, V, h2, h3, by rw [hfin], hC2, hC3', by rw [hfin]; exact hD.mono hBw, hx⟩
end Go.Proofs.YtanimeifmicmoaaDoor

set_option linter.unusedSimpArgs false
set_option linter.unusedVariables false
set_option maxRecDepth 100000
namespace Go.Proofs.YtanimeifmicmoaaDoor
open Go Go.Vc Go.RowKit Go.Proofs

theorem sub_length {xs : List UInt8} {l h : Nat} (hh : h ≤ xs.length) : (sub xs l h).length = h - l := by unfold sub; simp; omega
def Asc (lo : Nat) : List Tk → Prop
  | [] => True
  | t :: ts => lo ≤ t.at_ ∧ t.at_ < t.fin ∧ Asc t.fin ts
theorem oneL_at {xs : List UInt8} {k : Nat} {h : k < xs.length} (he : (oneL xs k h).1 = 0) : (oneL xs k h).2.at_ = k := by
  unfold oneL at he ⊢
  repeat' split
  all_goals first | rfl | skip
theorem cutL_asc (xs : List UInt8) : ∀ k, Asc k (cutL xs k).1 ∧ ∀ t ∈ (cutL xs k).1, ∃ h : t.at_ < xs.length, oneL xs t.at_ h = (0, t) := by
  intro k
  induction hn : xs.length - k using Nat.strongRecOn generalizing k with
  | _ n ih =>
    have asc_le : ∀ {a b : Nat} {l : List Tk}, a ≤ b → Asc b l → Asc a l := fun {a b l} hab h => by
      cases l with
      | nil => trivial
      | cons t ts => exact ⟨Nat.le_trans hab h.1, h.2⟩
    rw [cutL_eq]
    split
    · rename_i hk
      split
      · have h1 := (runL_le (p := nnlB) (k := k + 1) (xs := xs) (by omega)).1
        have h2 := ih (xs.length - runL nnlB xs (k + 1)) (by omega) _ rfl
        exact ⟨asc_le (by omega) h2.1, h2.2⟩
      · split
        · have h2 := ih (xs.length - (k + 1)) (by omega) _ rfl
          exact ⟨asc_le (by omega) h2.1, h2.2⟩
        · split
          · rename_i he
            have h1 := oneL_fin xs k hk he
            have h3 := oneL_at he
            have h2 := ih (xs.length - (oneL xs k hk).2.fin) (by omega) _ rfl
            refine ⟨⟨by omega, by omega, h2.1⟩, fun t ht => ?_⟩
            rcases List.mem_cons.1 ht with rfl | ht
            · refine ⟨by omega, ?_⟩
              simp only [h3]
              exact Prod.ext he rfl
            · exact h2.2 t ht
          · exact ⟨trivial, fun t ht => by cases ht⟩
    · exact ⟨trivial, fun t ht => by cases ht⟩
theorem asc_lt : ∀ {T : List Tk} {lo : Nat}, Asc lo T → ∀ {i j : Nat} (hij : i < j) (hj : j < T.length), (T[i]'(Nat.lt_trans hij hj)).fin ≤ T[j].at_ ∧ (T[i]'(Nat.lt_trans hij hj)).at_ < T[j].at_
  | [], _, _, i, j, h, hj => by simp at hj
  | t :: ts, lo, ha, i, j, h, hj => by
    obtain ⟨h1, h2, h3⟩ := ha
    have low : ∀ {ts : List Tk} {lo : Nat}, Asc lo ts → ∀ k (hk : k < ts.length), lo ≤ ts[k].at_ := by
      intro ts
      induction ts with
      | nil => intro lo _ k hk; simp at hk
      | cons a l ih =>
        intro lo ha k hk
        obtain ⟨g1, g2, g3⟩ := ha
        cases k with
        | zero => exact g1
        | succ k => have := ih g3 k (by simpa using hk); show lo ≤ (l[k]'(by simpa using hk)).at_; omega
    cases j with
    | zero => omega
    | succ j =>
      cases i with
      | zero => have := low h3 j (by simpa using hj); exact ⟨this, by show t.at_ < (ts[j]'(by simpa using hj)).at_; omega⟩
      | succ i => exact asc_lt h3 (by omega) (by simpa using hj)
/-- a token that stands in a text -/
structure TokIn (xs : List UInt8) (t : Tk) : Prop where
  lt : t.at_ < t.fin
  le : t.fin ≤ xs.length
  kind : t.kind = 1 ∨ t.kind = 2 ∨ t.kind = 3
  text : t.kind ≠ 2 → t.text = sub xs t.at_ t.fin
  num : t.kind = 2 → t.text = []
  zero : t.kind ≠ 2 → t.n = 0
  small : t.n ≤ 2147483647
theorem numF_le : ∀ (xs : List UInt8) (n : Nat), (numF n xs).1 ≤ 2147483647 ∨ (numF n xs).2 ≠ 0 ∨ (numF n xs).1 = n := by
  intro xs
  induction xs with
  | nil => intro n; exact .inr (.inr rfl)
  | cons c cs ih =>
    intro n
    unfold numF
    split
    · exact .inl (Nat.zero_le _)
    · rename_i hh
      rcases ih (10 * n + (c.toNat - 48)) with h1 | h1 | h1
      · exact .inl h1
      · exact .inr (.inl h1)
      · exact .inl (by rw [h1]; omega)


theorem tok_in {xs : List UInt8} {t : Tk} (h : t.at_ < xs.length) (ho : oneL xs t.at_ h = (0, t)) : TokIn xs t := by
  have hf := oneL_fin xs t.at_ h (by rw [ho])
  rw [ho] at hf
  obtain ⟨k, tx, n, a, f⟩ := t
  simp only at h ho hf
  unfold oneL at ho
  split at ho
  · split at ho
    · cases ho
    · simp only [Prod.mk.injEq, Tk.mk.injEq] at ho
      obtain ⟨-, rfl, rfl, rfl, -, rfl⟩ := ho
      exact ⟨hf.1, hf.2, .inl rfl, fun _ => rfl, fun h => (by cases h), fun _ => rfl, Nat.zero_le _⟩
  · split at ho
    · simp only [Prod.mk.injEq, Tk.mk.injEq] at ho
      obtain ⟨h0, rfl, rfl, rfl, -, rfl⟩ := ho
      refine ⟨hf.1, hf.2, .inr (.inl rfl), fun h => absurd rfl h, fun _ => rfl, fun h => absurd rfl h, ?_⟩
      show (numL _).1 ≤ _
      unfold numL at h0 ⊢
      split
      · exact Nat.zero_le _
      · rename_i hl
        rw [if_neg hl] at h0
        rcases numF_le (sub xs a (runL digB xs a)) 0 with g | g | g
        · exact g
        · exact absurd h0 g
        · rw [g]; exact Nat.zero_le _
    · split at ho
      · simp only [Prod.mk.injEq, Tk.mk.injEq] at ho
        obtain ⟨-, rfl, rfl, rfl, -, rfl⟩ := ho
        exact ⟨hf.1, hf.2, .inr (.inr rfl), fun _ => rfl, fun h => (by cases h), fun _ => rfl, Nat.zero_le _⟩
      · cases ho
theorem cutA_toks (xs : List UInt8) : Asc 0 (cutA xs).1 ∧ ∀ t ∈ (cutA xs).1, TokIn xs t := by
  unfold cutA
  split
  · exact ⟨trivial, fun t ht => by cases ht⟩
  · split
    · have h := cutL_asc xs 0
      exact ⟨h.1, fun t ht => by obtain ⟨h1, h2⟩ := h.2 t ht; exact tok_in h1 h2⟩
    · exact ⟨trivial, fun t ht => by cases ht⟩
theorem cut_lt {xs : List UInt8} {i j : Nat} (h : i < j) (hj : j < (cutA xs).1.length) : (tkA (cutA xs).1 i).fin ≤ (tkA (cutA xs).1 j).at_ ∧ (tkA (cutA xs).1 i).at_ < (tkA (cutA xs).1 j).at_ := by
  have := asc_lt (cutA_toks xs).1 h hj
  rw [tkA_lt (show i < (cutA xs).1.length by omega), tkA_lt hj]
  exact this
theorem cut_in {xs : List UInt8} {i : Nat} (h : i < (cutA xs).1.length) : TokIn xs (tkA (cutA xs).1 i) := by
  rw [tkA_lt h]; exact (cutA_toks xs).2 _ (List.getElem_mem h)
theorem parseA_bad {xs : List UInt8} (h : (parseA xs).2.1 ≠ 0) : (parseA xs).1 = [] := by
  unfold parseA at h ⊢
  split
  · rename_i h1
    rw [if_pos h1] at h
    split
    · rename_i D j h2; rw [h2] at h; exact absurd rfl h
    · rfl
  · rfl
def hdOk (T : List Tk) (u : Bool) (i : Nat) : Prop := if u then (tkA T i).kind = 2 else nmT (tkA T i) = true
def hdE (T : List Tk) (u : Bool) (i : Nat) : Ex := if u then { ex0 with at_ := i, tag := (tkA T i).n } else { ex0 with at_ := i, label := (tkA T i).text }
/-- a type (none) or rows behind their bracket, of which k were ahead -/
inductive PX (T : List Tk) : Option (Bool × Nat) → Nat → Nat → Ex → List Ex → Nat → Nat → Prop
  | leaf {deep i : Nat} {x : Ex} {kn : Int × Int} (hb : bgnT (tkA T i) = true) (hd : deep ≤ 16) (hl : leafE (tkA T i).text = some kn) : PX T none deep i x [(atE i x).lf kn.1 kn.2] 0 (i + 1)
  | nm {deep i : Nat} {x : Ex} (hb : bgnT (tkA T i) = true) (hd : deep ≤ 16) (hl : leafE (tkA T i).text = none) (hv : ¬ ((tkA T i).text = [118, 101, 99, 116, 111, 114] ∨ (tkA T i).text = [108, 105, 115, 116])) (ho : ¬ (tkA T i).text = [111, 112, 116, 105, 111, 110]) (hu : ¬ (tkA T i).text = [117, 110, 105, 111, 110]) (hs : ¬ (tkA T i).text = [115, 116, 114, 117, 99, 116]) : PX T none deep i x [(atE i x).nm (tkA T i).text] 0 (i + 1)
  | vec {deep i : Nat} {x : Ex} {N : List Ex} {j : Nat} (hb : bgnT (tkA T i) = true) (hd : deep ≤ 16) (hl : leafE (tkA T i).text = none) (hv : (tkA T i).text = [118, 101, 99, 116, 111, 114] ∨ (tkA T i).text = [108, 105, 115, 116]) (h1 : isT (tkA T (i + 1)) 3 [60] = true) (hN : PX T none (deep + 1) (i + 2) exM N 0 j) (h2 : isT (tkA T j) 3 [44] = true) (h3 : (tkA T (j + 1)).kind = 2) (h4 : isT (tkA T (j + 2)) 3 [62] = true) : PX T none deep i x ((atE i x).vec (decide ((tkA T i).text = [108, 105, 115, 116])) (tkA T (j + 1)).n :: N) 0 (j + 3)
  | opt {deep i : Nat} {x : Ex} {N : List Ex} {j : Nat} (hb : bgnT (tkA T i) = true) (hd : deep ≤ 16) (hl : leafE (tkA T i).text = none) (ho : (tkA T i).text = [111, 112, 116, 105, 111, 110]) (h1 : isT (tkA T (i + 1)) 3 [60] = true) (hN : PX T none (deep + 1) (i + 2) exM N 0 j) (h2 : isT (tkA T j) 3 [62] = true) : PX T none deep i x ((atE i x).opt :: N) 0 (j + 1)
  | br {deep i : Nat} {x : Ex} (u : Bool) {M : List Ex} {n j : Nat} (hb : bgnT (tkA T i) = true) (hd : deep ≤ 16) (hl : leafE (tkA T i).text = none) (hw : (tkA T i).text = if u then [117, 110, 105, 111, 110] else [115, 116, 114, 117, 99, 116]) (h1 : isT (tkA T (i + 1)) 3 [123] = true) (hM : PX T (some (u, 0)) deep (i + 2) ex0 M n j) : PX T none deep i x ((atE i x).br u (n : Nat) :: M) 0 j
  | last {deep i : Nat} {u : Bool} {k : Nat} {N : List Ex} {j : Nat} (hk : k < 64) (hh : hdOk T u i) (hc : isT (tkA T (i + 1)) 3 [58] = true) (hN : PX T none (deep + 1) (i + 2) (hdE T u i) N 0 j) (hm : isT (tkA T j) 3 [44] = false) (hr : isT (tkA T j) 3 [125] = true) : PX T (some (u, k)) deep i ex0 N (k + 1) (j + 1)
  | more {deep i : Nat} {u : Bool} {k : Nat} {N M : List Ex} {j n e : Nat} (hk : k < 64) (hh : hdOk T u i) (hc : isT (tkA T (i + 1)) 3 [58] = true) (hN : PX T none (deep + 1) (i + 2) (hdE T u i) N 0 j) (hm : isT (tkA T j) 3 [44] = true) (hR : PX T (some (u, k + 1)) deep (j + 1) ex0 M n e) : PX T (some (u, k)) deep i ex0 (N ++ M) n e
theorem bind_ok {α β : Type} {r : Pr α} {f : α → Nat → Pr β} {b : β} {j : Nat} (h : r.bind f = .ok b j) : ∃ a i, r = .ok a i ∧ f a i = .ok b j := by
  cases r with
  | ok a i => exact ⟨a, i, rfl, h⟩
  | bad e i => cases h
theorem wantT_ok {T : List Tk} {i k j : Nat} {s : List UInt8} {a : Unit} (h : wantT T i k s = .ok a j) : isT (tkA T i) k s = true ∧ j = i + 1 := by
  unfold wantT at h
  split at h
  · rename_i h1; cases h; exact ⟨h1, rfl⟩
  · cases h
theorem numT_ok {T : List Tk} {i j n : Nat} (h : numT T i = .ok n j) : (tkA T i).kind = 2 ∧ n = (tkA T i).n ∧ j = i + 1 := by
  unfold numT at h
  split at h
  · rename_i h1; cases h; exact ⟨h1, rfl, rfl⟩
  · cases h
theorem nameT_ok {T : List Tk} {i j : Nat} {s : List UInt8} (h : nameT T i = .ok s j) : nmT (tkA T i) = true ∧ s = (tkA T i).text ∧ j = i + 1 := by
  unfold nameT at h
  split at h
  · rename_i h1; cases h; exact ⟨h1, rfl, rfl⟩
  · cases h
theorem headT_ok {T : List Tk} {u full : Bool} {i j : Nat} {y : Ex} (h : headT T u full i { ex0 with at_ := i } = .ok y j) : hdOk T u i ∧ y = hdE T u i ∧ j = i + 1 ∧ full = false := by
  cases u
  · rw [headT_s] at h
    split at h
    · cases h
    · rename_i hn
      obtain ⟨s, i2, h1, h2⟩ := bind_ok h
      obtain ⟨g1, rfl, rfl⟩ := nameT_ok h1
      cases h2
      refine ⟨g1, rfl, rfl, ?_⟩
      cases full
      · rfl
      · exact absurd ⟨rfl, g1⟩ hn
  · rw [headT_u] at h
    split at h
    · cases h
    · rename_i hn
      obtain ⟨s, i2, h1, h2⟩ := bind_ok h
      obtain ⟨g1, rfl, rfl⟩ := numT_ok h1
      cases h2
      refine ⟨g1, rfl, rfl, ?_⟩
      cases full
      · rfl
      · exact absurd ⟨rfl, g1⟩ hn
theorem rows_px {T : List Tk} {E : Nat → Ex → Pr (List Ex)} {u : Bool} {deep : Nat} (hE : ∀ i x N j, E i x = .ok N j → PX T none (deep + 1) i x N 0 j) : ∀ (g i k : Nat) (M : List Ex) (n e : Nat), k ≤ 64 → rowsT E T u g i k = .ok (M, n) e → PX T (some (u, k)) deep i ex0 M n e
  | 0, i, k, M, n, e, hk, h => by cases h
  | g + 1, i, k, M, n, e, hk, h => by
    rw [rowsT_s] at h
    obtain ⟨y, i1, h1, h⟩ := bind_ok h
    obtain ⟨hh, rfl, rfl, hf⟩ := headT_ok h1
    obtain ⟨_, i2, h2, h⟩ := bind_ok h
    obtain ⟨hc, rfl⟩ := wantT_ok h2
    obtain ⟨N, j, h3, h⟩ := bind_ok h
    have hk2 : k < 64 := by simp at hf; omega
    split at h
    · rename_i hm
      obtain ⟨⟨M', n'⟩, e', h4, h⟩ := bind_ok h
      cases h
      exact .more hk2 hh hc (hE _ _ _ _ h3) hm (rows_px hE g _ _ _ _ _ (by omega) h4)
    · rename_i hm
      obtain ⟨_, e', h4, h⟩ := bind_ok h
      obtain ⟨hr, rfl⟩ := wantT_ok h4
      cases h
      exact .last hk2 hh hc (hE _ _ _ _ h3) (by simpa using hm) hr
theorem expr_px {T : List Tk} : ∀ (f i : Nat) (x : Ex) (deep : Nat) (N : List Ex) (j : Nat), exprT T f i x deep = .ok N j → PX T none deep i x N 0 j
  | 0, i, x, deep, N, j, h => by cases h
  | f + 1, i, x, deep, N, j, h => by
    rw [exprT_s] at h
    split at h
    · cases h
    · rename_i hb
      have hb : bgnT (tkA T i) = true := by simpa using hb
      split at h
      · cases h
      · rename_i hd
        have hd : deep ≤ 16 := by omega
        split at h
        · rename_i kn hl
          cases h
          exact .leaf hb hd hl
        · rename_i hl
          split at h
          · rename_i hv
            obtain ⟨_, i1, h1, h⟩ := bind_ok h
            obtain ⟨g1, rfl⟩ := wantT_ok h1
            obtain ⟨M, j1, h2, h⟩ := bind_ok h
            obtain ⟨_, j2, h3, h⟩ := bind_ok h
            obtain ⟨g3, rfl⟩ := wantT_ok h3
            obtain ⟨n, j3, h4, h⟩ := bind_ok h
            obtain ⟨g4, rfl, rfl⟩ := numT_ok h4
            obtain ⟨_, j4, h5, h⟩ := bind_ok h
            obtain ⟨g5, rfl⟩ := wantT_ok h5
            cases h
            exact .vec hb hd hl hv g1 (expr_px f _ _ _ _ _ h2) g3 g4 g5
          · rename_i hv
            split at h
            · rename_i ho
              obtain ⟨_, i1, h1, h⟩ := bind_ok h
              obtain ⟨g1, rfl⟩ := wantT_ok h1
              obtain ⟨M, j1, h2, h⟩ := bind_ok h
              obtain ⟨_, j2, h3, h⟩ := bind_ok h
              obtain ⟨g3, rfl⟩ := wantT_ok h3
              cases h
              exact .opt hb hd hl ho g1 (expr_px f _ _ _ _ _ h2) g3
            · rename_i ho
              split at h
              · rename_i hu
                obtain ⟨⟨M, n⟩, j1, h2, h⟩ := bind_ok h
                obtain ⟨_, i1, h1, h2⟩ := bind_ok h2
                obtain ⟨g1, rfl⟩ := wantT_ok h1
                cases h
                exact .br true hb hd hl hu g1 (rows_px (fun i x N j hh => expr_px f i x _ N j hh) _ _ _ _ _ _ (by omega) h2)
              · rename_i hu
                split at h
                · rename_i hs
                  obtain ⟨⟨M, n⟩, j1, h2, h⟩ := bind_ok h
                  obtain ⟨_, i1, h1, h2⟩ := bind_ok h2
                  obtain ⟨g1, rfl⟩ := wantT_ok h1
                  cases h
                  exact .br false hb hd hl hs g1 (rows_px (fun i x N j hh => expr_px f i x _ N j hh) _ _ _ _ _ _ (by omega) h2)
                · rename_i hs
                  cases h
                  exact .nm hb hd hl hv ho hu hs

end Go.Proofs.YtanimeifmicmoaaDoor
