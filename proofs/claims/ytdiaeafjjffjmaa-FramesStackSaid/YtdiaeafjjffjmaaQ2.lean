/-
  Walks. Written by program out of specs of mine.
-/
import Derived.Test.YtdiaeafjjffjmaaQ1
set_option linter.unusedSimpArgs false
set_option linter.unusedVariables false
set_option maxRecDepth 100000
namespace Go.Proofs.Ytdiaeafjjffjmaa
open Go Go.Vc Go.RowKit Go.Proofs

/-- frames that are handed in -/
structure Fs (w : World) (v : Value) (L : List Fr) (V : Nat → Value) : Prop where
  sl : Sl w 7 v L.length (frows L V)
  tabs : ∀ j, j < L.length → In w (V j) (tabl L j)
theorem Fs.ext {w w' : World} {v : Value} {L : List Fr} {V : Nat → Value} (h : Fs w v L V) (ho : Ext w w') : Fs w' v L V := ⟨h.sl.ext ho, fun j hj => Sl.ext (h.tabs j hj) ho⟩
def Apt (p : Nat) (lv : Value) (V : Nat → Value) (n : Nat) (ov : Value) (U : Nat → Value) (m : Nat) : Prop := ∀ k, SF p lv V n k → ¬ RF ov U m k
theorem Rows.turn {w w' : World} {H p most high high' K : Nat} {L L' R : List Fr} {lv lv' ov : Value} {V V' U : Nat → Value} (hR : Rows w K R ov U) (t : Turn w w' H p most high L lv V high' L' lv' V') (hA : Apt p lv V L.length ov U R.length) : Rows w' K R ov U ∧ Apt p lv' V' L'.length ov U R.length :=
  ⟨hR.only t.only (fun k hk hF => hA k hF hk), fun k hk hF => by
    rcases t.new _ hk with h | h
    · exact hA k h hF
    · have := (hR.lt k hF).2; omega⟩
theorem Rows.take {w : World} {H m n cap g : Nat} {L : List Fr} {V : Nat → Value} (h : Rows w H L (.slice (some ⟨g, 0, none⟩) n cap) V) (hn : n = L.length) (hm : m ≤ L.length) : Rows w H (L.take m) (.slice (some ⟨g, 0, none⟩) m cap) V := by
  subst hn
  have hl : (L.take m).length = m := by rw [List.length_take]; omega
  have e1 : ∀ j, j < m → tabl (L.take m) j = tabl L j := fun j hj => by simp only [tabl, List.getD_eq_getElem?_getD, List.getElem?_take, if_pos hj]
  refine ⟨?_, ?_⟩
  · rw [hl, ← frows_take hm]; exact own_take h.row hm
  · rw [hl]
    exact ⟨fun j hj => by rw [e1 j hj]; exact h.tabs.row j (by omega), fun i j hi hj => h.tabs.off i j (by omega) (by omega)⟩
theorem RF.take {g n m cap q : Nat} {V : Nat → Value} {k : Nat} (h : RF (.slice (some ⟨g, 0, none⟩) m cap) V q k) (hq : q ≤ n) : RF (.slice (some ⟨g, 0, none⟩) n cap) V n k := by
  rcases h with h | ⟨j, hj, h⟩
  · exact .inl h
  · exact .inr ⟨j, by omega, h⟩
theorem getD_at {L : List Fr} {k : Nat} (h : k < L.length) : L.getD k Fr.nil = L[k] := by rw [List.getD_eq_getElem?_getD, List.getElem?_eq_getElem h]; rfl
theorem take_last {L : List Fr} {m : Nat} (h : m < L.length) : topF (L.take (m + 1)) = L[m] := by
  have hl : (L.take (m + 1)).length = m + 1 := by rw [List.length_take]; omega
  rw [topF, hl, Nat.add_sub_cancel, List.getD_eq_getElem?_getD, List.getElem?_take, if_pos (by omega), List.getElem?_eq_getElem h]; rfl
theorem Rows.snoc' {w0 w w' : World} {H p n : Nat} {R : List Fr} {f : Fr} {ov v u lv : Value} {U V : Nat → Value} (hR : Rows w0 H R ov U) (hu : w.ownsRow w0.heap.size 3 1 u f.tab.length (ints f.tab)) (hx : Ext w0 w) (hA : Apt p lv V n ov U R.length) (hS : ∀ k, SF p lv V n k → k < w0.heap.size) (hH : H ≤ w0.heap.size)
    (hr : w'.ownsRow H 39 7 v (R.length + 1) (frows R U ++ fcells f u)) (ho : Only (fun k => ov.ownBlock = some k) w w') (hb : v.ownBlock = ov.ownBlock ∨ v.ownBlock = some (w.heap.size + 1)) :
    Rows w' H (R ++ [f]) v (fun j => if j = R.length then u else U j) ∧ Apt p lv V n v (fun j => if j = R.length then u else U j) (R ++ [f]).length := by
  have hR1 := hR.ext hx
  have hut : ∀ k, u.ownBlock = some k → w0.heap.size ≤ k := fun k hk => (hu.lt k hk).1
  refine ⟨Rows.snoc hr (hR1.tabs.only ho (fun j hj k hk hF => own_row_off hR1.row (hR1.tabs.row j hj) (by decide) k hk hF)) (own_only hu ho (fun k hk hF => own_row_off hR1.row hu (by decide) k hk hF)) hH (fun j hj k hk => (hR.tabs.lt hj hk).2), fun k hk hF => ?_⟩
  have hk0 := hS k hk
  rw [List.length_append, List.length_singleton] at hF
  rcases hF with hF | ⟨j, hj, hF⟩
  · rcases hb with hb | hb
    · rw [hb] at hF; exact hA k hk (.inl hF)
    · rw [hb] at hF; cases hF; have := hx.size; omega
  · by_cases e : j = R.length
    · simp only [if_pos e] at hF; have := hut k hF; omega
    · simp only [if_neg e] at hF; exact hA k hk (.inr ⟨j, by omega, hF⟩)
def goneN (gone : Int) (n : Nat) : Nat := (gone % ((n : Int) + 1)).toNat
theorem goneN_le (gone : Int) (n : Nat) : goneN gone n ≤ n := by
  have h1 := Int.emod_nonneg gone (show (n : Int) + 1 ≠ 0 by omega)
  have h2 := Int.emod_lt_of_pos gone (show (0 : Int) < (n : Int) + 1 by omega)
  unfold goneN; omega
theorem goneN_eq (gone : Int) (n : Nat) : gone % ((n : Int) + 1) = (goneN gone n : Int) := by
  have h1 := Int.emod_nonneg gone (show (n : Int) + 1 ≠ 0 by omega)
  unfold goneN; omega
theorem pushW {most high : Nat} {L : List Fr} {f : Fr} (h : L.length < most) (hf : fwhole f = true) : pushR most high L f = (0, max high (L.length + 1), L ++ [f]) := by rw [pushR, if_neg (by omega), if_pos hf]

set_option maxHeartbeats 1000000 in
theorem filled_spec (L : List Fr) (V : Nat → Value) (v : Value) (gone : Int) (w0 : World) (hF : Fs w0 v L V) : Ca Try.prog 7 #[v, .int .i64 gone] w0 (fun r w' => ∃ p lv U ov Uo R, R = (L.take 40).map rightF ∧ r = .tuple #[.pointer (some ⟨p, 0, none⟩), ov, .bool true] ∧ Stk w' w0.heap.size p (R.length + 1) R.length (R.take (R.length - goneN gone R.length)) lv U ∧ Rows w' w0.heap.size (R.take (R.length - goneN gone R.length)) ov Uo ∧ Apt p lv U (R.take (R.length - goneN gone R.length)).length ov Uo (R.take (R.length - goneN gone R.length)).length ∧ Ext w0 w') := by
  refine Ca.of Try.func7 Try.ntmps7 rfl rfl ?_
  refine W.seq ?_
  refine W.region ?_
  refine WL.c rfl (o_ash (by first | exact (show _ = Value.pointer _ from rfl) | exact rfl) ?_)
  refine WL.c rfl (o_ash (by first | exact (show _ = Value.slice _ _ _ from rfl) | exact rfl) ?_)
  refine WL.c rfl (o_ash (show _ = Value.bool _ from rfl) ?_)
  refine WL.nil ?_
  refine W.seq ?_
  refine W.seq ?_
  refine W.region ?_
  refine WL.c rfl (o_mvh (by first | exact (show _ = Value.slice _ _ _ from rfl) | exact rfl) ?_)
  refine WL.c rfl (o_lenR TI22 rfl hF.sl ?_)
  refine WL.c rfl (o_gt rfl rfl ?_)
  refine WL.nil ?_
  refine W.cut (fun e1 w1 => ∃ (u : Value) (M : List Fr), M = L.take 40 ∧ M.length ≤ 40 ∧ e1 0 = u ∧ e1 1 = .int .i64 gone ∧ Fs w0 u M V ∧ w1 = w0) ?_ ?_
  · -- both ways
    refine W.cond rfl (fun c16 => ?_) (fun c16 => ?_)
    · try simp only [decide_eq_true_eq, decide_eq_false_iff_not, Bool.not_eq_true', Bool.not_eq_false', Bool.and_eq_true, Bool.or_eq_true, Bool.and_eq_false_iff, Bool.or_eq_false_iff] at c16
      refine W.region ?_
      refine WL.c rfl (o_mvh (by first | exact (show _ = Value.slice _ _ _ from rfl) | exact rfl) ?_)
      refine WL.c rfl (o_sl TI22 TI39 rfl hF.sl Lo.n (Hi.s (h := 40) rfl) (by omega) (by omega) ?_)
      intro v18 hb18 hS18
      refine WL.c rfl (o_ash (by first | exact (show _ = Value.slice _ _ _ from rfl) | exact rfl) ?_)
      refine WL.nil ?_
      first
        | (have e18 : ((frows L V).drop (0 * 7)).take ((40 - 0) * 7) = frows (L.take 40) V := by rw [Nat.zero_mul, List.drop_zero]; exact frows_take (by omega)
           have hl18 : (L.take 40).length = 40 := by rw [List.length_take]; omega
           rw [e18] at hS18
           refine ⟨v18, L.take 40, rfl, by omega, rfl, rfl, ⟨by rw [hl18]; exact hS18, fun j hj => ?_⟩, rfl⟩
           have := hF.tabs j (by omega)
           rw [show tabl (L.take 40) j = tabl L j by simp only [tabl, List.getD_eq_getElem?_getD, List.getElem?_take, if_pos (show j < 40 by omega)]]
           exact this)
        | exact ⟨v, L, (List.take_of_length_le (by omega)).symm, by omega, rfl, rfl, hF, rfl⟩
    · try simp only [decide_eq_true_eq, decide_eq_false_iff_not, Bool.not_eq_true', Bool.not_eq_false', Bool.and_eq_true, Bool.or_eq_true, Bool.and_eq_false_iff, Bool.or_eq_false_iff] at c16
      refine W.skip ?_
      first
        | (have e18 : ((frows L V).drop (0 * 7)).take ((40 - 0) * 7) = frows (L.take 40) V := by rw [Nat.zero_mul, List.drop_zero]; exact frows_take (by omega)
           have hl18 : (L.take 40).length = 40 := by rw [List.length_take]; omega
           rw [e18] at hS18
           refine ⟨v18, L.take 40, rfl, by omega, rfl, rfl, ⟨by rw [hl18]; exact hS18, fun j hj => ?_⟩, rfl⟩
           have := hF.tabs j (by omega)
           rw [show tabl (L.take 40) j = tabl L j by simp only [tabl, List.getD_eq_getElem?_getD, List.getElem?_take, if_pos (show j < 40 by omega)]]
           exact this)
        | exact ⟨v, L, (List.take_of_length_le (by omega)).symm, by omega, rfl, rfl, hF, rfl⟩
  rintro e w ⟨u, M, hM, hM40, h0, h1, hF, hw1⟩
  refine W.seq ?_
  replace hw1 := hw1.symm
  subst hw1
  obtain ⟨R, hR0⟩ : ∃ R, R = M.map rightF := ⟨_, rfl⟩
  have hRl : R.length = M.length := by rw [hR0, List.length_map]
  have hRk : ∀ k (h : k < M.length), R[k]'(by omega) = rightF M[k] := fun k h => by subst hR0; simp
  have hRw : ∀ f ∈ R, fwhole f = true := fun f hf => by rw [hR0] at hf; obtain ⟨x, -, rfl⟩ := List.mem_map.1 hf; exact rightF_whole x
  refine W.region ?_
  refine WL.c rfl (o_mvh h0 ?_)
  refine WL.c rfl (o_lenR TI22 rfl hF.sl ?_)
  refine WL.c rfl (o_addi rfl rfl (by omega) ?_)
  refine WL.c rfl (o_call Try.call27 (lc rfl ln) ((new_spec ((M.length : Int) + 1) _).mono ?_))
  rintro v23 w23 ⟨hA, -, hxw⟩
  obtain ⟨rfl, hst⟩ := hA (by rw [inb_iff]; omega)
  rw [show ((M.length : Int) + 1).toNat = M.length + 1 by omega] at hst
  have hp0 : w0.heap.size < w23.heap.size := (hst.lt w0.heap.size (.inl rfl)).2
  obtain ⟨WP, hWP⟩ : ∃ p, p = w0.heap.size := ⟨_, rfl⟩
  rw [← hWP] at hst ⊢
  have hwi : w0.heap.size ≤ WP := by rw [hWP]; exact Nat.le_refl _
  refine WL.c rfl (o_mvh (by first | exact (show _ = Value.tuple _ from rfl) | exact rfl) ?_)
  refine WL.c rfl (o_ext rfl rfl ?_)
  refine WL.c rfl (o_ext rfl rfl ?_)
  refine WL.c rfl (o_ash (by first | exact (show _ = Value.pointer _ from rfl) | exact rfl) ?_)
  refine WL.c rfl (o_ash (show _ = Value.int _ _ from rfl) ?_)
  refine WL.nil ?_
  refine W.seq ?_
  refine W.seq ?_
  refine W.region ?_
  refine WL.c rfl (o_mvh (by first | exact (show _ = Value.pointer _ from rfl) | exact rfl) ?_)
  refine WL.c rfl (o_eqN (p := some ⟨WP, 0, none⟩) TI25 rfl rfl ?_)
  refine WL.c rfl (o_mvh (show _ = Value.bool _ from rfl) ?_)
  refine WL.g rfl (rfl) rfl (o_mvh (show _ = Value.int _ _ from rfl) ?_)
  refine WL.g rfl (rfl) rfl (o_call Try.call10 (lc rfl ln) ((num_spec _ _).mono ?_))
  rintro v30 w30 ⟨rfl, hw30⟩
  replace hw30 := hw30.symm
  subst hw30
  refine WL.g rfl (rfl) rfl (o_ne rfl rfl ?_)
  refine WL.c rfl (o_pickO rfl rfl ?_)
  refine WL.nil ?_
  refine W.condF' rfl (by simp) ?_
  refine W.skip ?_
  refine W.seq ?_
  refine W.region ?_
  refine WL.c rfl (o_ash (by first | exact (show _ = Value.slice _ _ _ from rfl) | exact rfl) ?_)
  refine WL.nil ?_
  refine W.seq ?_
  refine W.seq ?_
  refine W.region ?_
  refine WL.c rfl (o_ash (show _ = Value.int _ _ from rfl) ?_)
  refine WL.nil ?_
  refine W.block ?_
  refine W.loop (fun e w => ∃ (k : Nat) (lv : Value) (U : Nat → Value) (ov : Value) (Uo : Nat → Value), k ≤ M.length ∧ e 0 = u ∧ e 1 = .int .i64 gone ∧ e 7 = .pointer (some ⟨WP, 0, none⟩) ∧ e 9 = ov ∧ e 10 = .int .i64 (k : Int) ∧ Stk w WP WP (M.length + 1) k (R.take k) lv U ∧ Rows w WP (R.take k) ov Uo ∧ Apt WP lv U (R.take k).length ov Uo (R.take k).length ∧ Ext w0 w) (fun e w => M.length - (intOf (e 10)).toNat) ?_ ?_
  · exact ⟨0, .slice none 0 0, fun _ => undef, .slice none 0 0, fun _ => undef, Nat.zero_le _, h0, h1, rfl, rfl, rfl, by simpa using hst, by simpa using Rows.nil _ _ _, fun k hk hF => by rcases hF with hF | ⟨j, hj, hF⟩; cases hF; simp at hj, hxw⟩
  rintro e w ⟨k, lv, U, ov, Uo, hk, h0, h1, h7, h9, h10, hst, hR, hA, hxw⟩
  have hm10 := h10
  have hFw := hF.ext hxw
  have hlk : (R.take k).length = k := by rw [List.length_take]; omega
  refine W.seq ?_
  refine W.seq ?_
  refine W.region ?_
  refine WL.c rfl (o_mvh h10 ?_)
  refine WL.c rfl (o_mvh h0 ?_)
  refine WL.c rfl (o_lenR TI22 rfl hFw.sl ?_)
  refine WL.c rfl (o_lt rfl rfl ?_)
  refine WL.nil ?_
  refine W.cond rfl (fun c36 => ?_) (fun c36 => ?_)
  · try simp only [decide_eq_true_eq, decide_eq_false_iff_not, Bool.not_eq_true', Bool.not_eq_false', Bool.and_eq_true, Bool.or_eq_true, Bool.and_eq_false_iff, Bool.or_eq_false_iff] at c36
    refine W.skip ?_
    refine W.seq ?_
    refine W.block ?_
    refine W.seq ?_
    have hk1 : k < M.length := by omega
    have hIn : In w (V k) M[k].tab := by have := hFw.tabs k hk1; rw [tabl, getD_at hk1] at this; exact this
    have hRs : R.take (k + 1) = R.take k ++ [rightF M[k]] := by rw [← List.take_append_getElem (show k < R.length by omega), hRk k hk1]
    have hHw : WP ≤ w.heap.size := by have := hst.lt WP (.inl rfl); omega
    refine W.region ?_
    refine WL.c rfl (o_mvh h9 ?_)
    refine WL.c rfl (o_mvh h0 ?_)
    refine WL.c rfl (o_mvh h10 ?_)
    refine WL.c rfl (o_ix TI22 TI39 rfl rfl hFw.sl (by omega) ?_)
    intro b42 o42 c42 hv42 hc42
    rw [frows_at hk1, getD_at hk1] at hc42
    refine WL.c rfl (o_ldA TI39 rfl rfl hc42 rfl ?_)
    refine WL.c rfl (o_call Try.call21 (lc rfl ln) ((rightl_spec M[k] (V k) _ hIn).mono ?_))
    rintro v44 w44 ⟨uu, rfl, hu, hx44⟩
    refine WL.apO (WP) rfl rfl TI22 TI39 (show _ = Value.agg (fcells (rightF M[k]) uu).toArray from rfl) rfl (own_ext hR.row hx44) (by decide) (by decide) rfl (fcells_all (own_one hu)) rfl (by rw [maxLen_eq]; omega) (by omega) (Nat.le_trans hHw hx44.size) ?_
    intro v46 w46 hown46 ho46 hb46 hk46
    obtain ⟨hR2, hA2⟩ := Rows.snoc' hR hu hx44 hA (fun k hk => (hst.lt k hk).2) hHw hown46 ho46 hb46
    have hst2 := (hst.ext hx44).only ho46 (fun k hk hF => hA k hk (.inl hF))
    have hx46 : Ext w0 w46 := (hxw.tr hx44).trans' ho46 (fun _ h => h) (fun k hk hF => by have := (hR.row.lt k hF).1; omega)
    have hl2 : (R.take k ++ [rightF M[k]]).length = k + 1 := by rw [List.length_append, List.length_singleton, hlk]
    have hIn46 : In w46 uu (rightF M[k]).tab := by
      have := hR2.tab (k := k) (by omega)
      simp only [hlk, if_true, tabl] at this
      rw [List.getD_eq_getElem?_getD, List.getElem?_append_right (by omega), hlk, Nat.sub_self] at this
      exact this
    have hrow46 : Sl w46 7 v46 (k + 1) (frows (R.take k ++ [rightF M[k]]) (fun j => if j = (R.take k).length then uu else Uo j)) := by have := Sl.own hR2.row; rw [hl2] at this; exact this
    refine WL.c rfl (o_ash (by first | exact (show _ = Value.slice _ _ _ from rfl) | exact rfl) ?_)
    refine WL.nil ?_
    refine W.seq ?_
    refine W.region ?_
    refine WL.c rfl (o_mvh h7 ?_)
    refine WL.c rfl (o_mvh (by first | exact (show _ = Value.slice _ _ _ from rfl) | exact rfl) ?_)
    refine WL.c rfl (o_mvh h10 ?_)
    refine WL.c rfl (o_ix TI22 TI39 rfl rfl hrow46 (by omega) ?_)
    intro b50 o50 c50 hv50 hc50
    rw [frows_at (by omega), List.getD_eq_getElem?_getD, List.getElem?_append_right (by omega), hlk, Nat.sub_self, if_pos rfl] at hc50
    replace hc50 : Cells w46 b50 (o50 + k * 7) (fcells (rightF M[k]) uu) := hc50
    refine WL.c rfl (o_ldA TI39 rfl rfl hc50 rfl ?_)
    refine WL.c rfl (o_call Try.call16 (lc rfl (lc rfl ln)) ((push_spec WP WP (M.length + 1) k (R.take k) lv U (rightF M[k]) uu _ hst2 hIn46 (by have := fwhole_tab (rightF_whole M[k]); omega)).mono ?_))
    rintro v52 w52 ⟨rfl, lv3, U3, t⟩
    rw [pushW (by omega) (rightF_whole M[k])] at t ⊢
    obtain ⟨hR3, hA3⟩ := hR2.turn t hA2
    have hx3 := t.ext hx46 hwi hst2
    have hst3 := t.stk
    refine WL.c rfl (o_call Try.call10 (lc rfl ln) ((num_spec _ _).mono ?_))
    rintro v53 w53 ⟨rfl, hw53⟩
    replace hw53 := hw53.symm
    subst hw53
    refine WL.c rfl (o_ne rfl rfl ?_)
    refine WL.c rfl (o_mvh (show _ = Value.bool _ from rfl) ?_)
    refine WL.g rfl (by simp) rfl (o_mvh h7 ?_)
    refine WL.g rfl (by simp) rfl (o_call Try.call11 (lc rfl ln) ((len_spec WP WP (M.length + 1) _ _ lv3 U3 _ hst3).mono ?_))
    rintro v57 w57 ⟨rfl, hw57⟩
    replace hw57 := hw57.symm
    subst hw57
    refine WL.g rfl (by simp) rfl (o_mvh h10 ?_)
    refine WL.g rfl (by simp) rfl (o_addi rfl rfl (by omega) ?_)
    refine WL.g rfl (by simp) rfl (o_ne rfl rfl ?_)
    refine WL.c rfl (o_pickO rfl rfl ?_)
    refine WL.c rfl (o_mvh (show _ = Value.bool _ from rfl) ?_)
    refine WL.g rfl (by simp; omega) rfl (o_mvh h7 ?_)
    refine WL.g rfl (by simp; omega) rfl (o_call Try.call12 (lc rfl ln) ((high_spec WP WP (M.length + 1) _ _ lv3 U3 _ hst3).mono ?_))
    rintro v64 w64 ⟨rfl, hw64⟩
    replace hw64 := hw64.symm
    subst hw64
    refine WL.g rfl (by simp; omega) rfl (o_mvh h10 ?_)
    refine WL.g rfl (by simp; omega) rfl (o_addi rfl rfl (by omega) ?_)
    refine WL.g rfl (by simp; omega) rfl (o_ne rfl rfl ?_)
    refine WL.c rfl (o_pickO rfl rfl ?_)
    refine WL.nil ?_
    refine W.condF' rfl (by simp; omega) ?_
    refine W.skip ?_
    refine W.region ?_
    refine WL.c rfl (o_mvh h10 ?_)
    refine WL.c rfl (o_addi rfl rfl (by omega) ?_)
    refine WL.c rfl (o_ash (show _ = Value.int _ _ from rfl) ?_)
    refine WL.nil ?_
    rw [← hRs] at hst3 hR3 hA3
    rw [hlk, show max k (k + 1) = k + 1 by omega] at hst3
    refine ⟨⟨k + 1, _, _, _, _, by omega, h0, h1, h7, rfl, rfl, hst3, hR3, hA3, hx3⟩, ?_⟩
    show M.length - ((k : Int) + 1).toNat < _
    rw [hm10]; simp [intOf]; omega
  · try simp only [decide_eq_true_eq, decide_eq_false_iff_not, Bool.not_eq_true', Bool.not_eq_false', Bool.and_eq_true, Bool.or_eq_true, Bool.and_eq_false_iff, Bool.or_eq_false_iff] at c36
    refine W.exit ?_
    refine W.seq ?_
    refine W.seq ?_
    have hkM : k = M.length := by omega
    subst hkM
    rw [show M.length = R.length from hRl.symm] at hlk
    have htk : R.take M.length = R := by rw [← hRl]; exact List.take_length
    rw [htk] at hst hR hA
    have hgl := goneN_le gone M.length
    have hge := goneN_eq gone M.length
    refine W.region ?_
    refine WL.c rfl (o_mvh h1 ?_)
    refine WL.c rfl (o_mvh h0 ?_)
    refine WL.c rfl (o_lenR TI22 rfl hFw.sl ?_)
    refine WL.c rfl (o_addi rfl rfl (by omega) ?_)
    refine WL.c rfl (o_call Try.call13 (lc rfl (lc rfl ln)) ((rest_spec gone ((M.length : Int) + 1) _ (by omega) (by omega)).mono ?_))
    rintro v73 w73 ⟨rfl, hw73⟩
    replace hw73 := hw73.symm
    subst hw73
    rw [hge]
    refine WL.c rfl (o_ash (show _ = Value.int _ _ from rfl) ?_)
    refine WL.nil ?_
    refine W.block ?_
    refine W.loop (fun e w => ∃ (m : Nat) (lv : Value) (U : Nat → Value) (ov : Value) (Uo : Nat → Value), m ≤ M.length ∧ M.length - goneN gone M.length ≤ m ∧ e 0 = u ∧ e 7 = .pointer (some ⟨WP, 0, none⟩) ∧ e 9 = ov ∧ e 11 = .int .i64 ((m - (M.length - goneN gone M.length) : Nat) : Int) ∧ Stk w WP WP (M.length + 1) M.length (R.take m) lv U ∧ Rows w WP (R.take m) ov Uo ∧ Apt WP lv U (R.take m).length ov Uo (R.take m).length ∧ Ext w0 w) (fun e w => (intOf (e 11)).toNat) ?_ ?_
    · exact ⟨M.length, lv, U, ov, Uo, Nat.le_refl _, by omega, h0, h7, h9, by rw [show M.length - (M.length - goneN gone M.length) = goneN gone M.length by omega]; rfl, by rw [htk]; exact hst, by rw [htk]; exact hR, by rw [htk]; exact hA, hxw⟩
    rintro e w ⟨m, lv, U, ov, Uo, hm, hmg, h0, h7, h9, h11, hst, hR, hA, hxw⟩
    have hm11 := h11
    have hFw := hF.ext hxw
    have hlk : (R.take m).length = m := by rw [List.length_take]; omega
    refine W.seq ?_
    refine W.seq ?_
    refine W.region ?_
    refine WL.c rfl (o_mvh h11 ?_)
    refine WL.c rfl (o_gt rfl rfl ?_)
    refine WL.nil ?_
    refine W.cond rfl (fun c75 => ?_) (fun c75 => ?_)
    · try simp only [decide_eq_true_eq, decide_eq_false_iff_not, Bool.not_eq_true', Bool.not_eq_false', Bool.and_eq_true, Bool.or_eq_true, Bool.and_eq_false_iff, Bool.or_eq_false_iff] at c75
      refine W.skip ?_
      refine W.seq ?_
      refine W.block ?_
      refine W.seq ?_
      obtain ⟨m, rfl⟩ : ∃ m', m = m' + 1 := ⟨m - 1, by omega⟩
      have hm1 : m < R.length := by omega
      have htop : topF (R.take (m + 1)) = R[m] := take_last hm1
      have hlo : WP ≤ w.heap.size := by have := hst.lt WP (.inl rfl); omega
      refine W.region ?_
      refine WL.c rfl (o_mvh h7 ?_)
      refine WL.c rfl (o_call Try.call14 (lc rfl ln) ((pop_spec WP WP (M.length + 1) M.length (R.take (m + 1)) lv U _ hst).mono ?_))
      rintro v80 w80 ⟨tv, rfl, hcl, lv2, U2, t, htv⟩
      rw [htop] at hcl ⊢
      rw [show emptyE (R.take (m + 1)) = 0 by rw [emptyE, if_neg (by omega)]]
      have htt : (R.take (m + 1)).take ((R.take (m + 1)).length - 1) = R.take m := by rw [hlk, Nat.add_sub_cancel, List.take_take, Nat.min_eq_left (by omega)]
      obtain ⟨hR2, hA2⟩ := hR.turn t hA
      have hx2 := t.ext hxw hwi hst
      have hst2 := t.stk
      rw [htt] at hst2 hA2
      have hSt := Clipd.In hcl
      refine WL.c rfl (o_mvh (by first | exact (show _ = Value.tuple _ from rfl) | exact rfl) ?_)
      refine WL.c rfl (o_ext rfl rfl ?_)
      refine WL.c rfl (o_ext rfl rfl ?_)
      refine WL.c rfl (o_alB TI39 ?_)
      intro w12 hC12 hx12 hs12
      refine WL.u (o_stA TI39 rfl (show _ = Value.agg (fcells R[m] tv).toArray from rfl) rfl (fcells_one (by obtain ⟨a, c, rfl⟩ := hSt.isSlice; rfl)) hC12 rfl ?_)
      intro w13 hB12 ho12 hs13
      have h80s := hx2.size
      have hx13 : Ext w80 w13 := hx12.trans' ho12 (fun _ h => h) (fun k hk he => by omega)
      replace hSt := Sl.ext hSt hx13
      replace hst2 := hst2.ext hx13
      replace hR2 := hR2.ext hx13
      replace hx2 := hx2.tr hx13
      obtain ⟨c12, hc12⟩ : ∃ c12, c12 = w80.heap.size := ⟨_, rfl⟩
      rw [← hc12] at hB12 ⊢
      refine WL.c rfl (o_ash (show _ = Value.int _ _ from rfl) ?_)
      refine WL.nil ?_
      refine W.seq ?_
      refine W.seq ?_
      obtain ⟨wd, hwd⟩ : ∃ wd, wd = w13.drew := ⟨_, rfl⟩
      have hxd : Ext w13 wd := hwd ▸ Only.drew w13
      replace hSt := Sl.ext hSt hxd
      replace hst2 := hst2.ext hxd
      replace hR2 := hR2.ext hxd
      replace hx2 := hx2.tr hxd
      replace hB12 := hxd.blk hB12 (fun h => h)
      obtain ⟨go, co, hov, hob, hoc⟩ := hR2.at (k := m) (by omega)
      rw [hlk] at hov
      subst hov
      rw [getD_at (show m < (R.take (m + 1)).length by omega), List.getElem_take] at hoc
      have hIo : In wd (Uo m) R[m].tab := by have := hR2.tab (k := m) (by omega); rw [tabl, getD_at (show m < (R.take (m + 1)).length by omega), List.getElem_take] at this; exact this
      have hRm := hRw R[m] (List.getElem_mem hm1)
      have hco : m + 1 ≤ co := by
        obtain ⟨_, _, hv, _, _, hnc, _⟩ := own_blk hR2.row hob
        simp only [Value.slice.injEq] at hv; omega
      refine W.draw (Ext) [(0, fun v _ => v = _), (7, fun v _ => v = _), (9, fun v _ => v = _), (11, fun v _ => v = _), (12, fun v _ => v = _), (13, fun v _ => v = _)] rfl (by kernel_rfl) (Only.refl No) (fun _ _ _ h k => h.trans k) ⟨Mono.eq, Mono.eq, Mono.eq, Mono.eq, Mono.eq, Mono.eq, trivial⟩ ⟨h0, h7, h9, h11, rfl, rfl, trivial⟩ ?_
      refine WD.p rfl (fun e w hR hh => by obtain ⟨h13, -⟩ := hh; exact SG.n (o_mvh h13 ⟨rfl, Only.refl No _⟩)) ?_
      refine WD.p rfl (fun e w hR hh => by obtain ⟨h83, -⟩ := hh; exact SG.n (o_call Try.call10 (lc h83 ln) ((num_spec _ _).mono (fun v w' ⟨h1, h2⟩ => ⟨h1, by rw [h2]; exact Only.refl No _⟩)))) ?_
      refine WD.p rfl (fun e w hR hh => by obtain ⟨h84, -⟩ := hh; exact SG.n (o_ne h84 rfl ⟨rfl, Only.refl No _⟩)) ?_
      refine WD.p rfl (fun e w hR hh => by obtain ⟨h85, -⟩ := hh; exact SG.n (o_mvh h85 ⟨rfl, Only.refl No _⟩)) ?_
      refine WD.p rfl (fun e w hR hh => by obtain ⟨h86, h12, -⟩ := hh; rw [← hwd] at hR; exact SG.g h86 (by simp) (o_ldA TI39 rfl h12 (show Cells w c12 0 (fcells R[m] tv) from Cells.of (hR.blk hB12 (fun h => h)) 0 _ (by simp)) rfl ⟨rfl, Only.refl No _⟩)) ?_
      refine WD.p rfl (fun e w hR hh => by obtain ⟨h86, h9, -⟩ := hh; exact SG.g h86 (by simp) (o_mvh h9 ⟨rfl, Only.refl No _⟩)) ?_
      refine WD.p rfl (fun e w hR hh => by obtain ⟨h86, h9, -⟩ := hh; exact SG.g h86 (by simp) (o_mvh h9 ⟨rfl, Only.refl No _⟩)) ?_
      refine WD.p rfl (fun e w hR hh => by obtain ⟨h89, h86, -⟩ := hh; exact SG.g h86 (by simp) (o_len TI22 h89 ⟨rfl, Only.refl No _⟩)) ?_
      refine WD.p rfl (fun e w hR hh => by obtain ⟨h90, h86, -⟩ := hh; exact SG.g h86 (by simp) (o_subi h90 rfl (by omega) ⟨rfl, Only.refl No _⟩)) ?_
      refine WD.p rfl (fun e w hR hh => by obtain ⟨h91, h88, h86, -⟩ := hh; exact SG.g h86 (by simp) (o_ixB (i := m) TI22 TI39 h88 (h91.trans (by congr 1; omega)) (by omega) ⟨rfl, Only.refl No _⟩)) ?_
      refine WD.p rfl (fun e w hR hh => by obtain ⟨h92, h86, -⟩ := hh; rw [← hwd] at hR; exact SG.g h86 (by simp) (o_ldA TI39 rfl h92 (show Cells w go (0 + m * 7) (fcells R[m] (Uo m)) by rw [Nat.zero_add]; exact hoc.only hR (fun h => h)) rfl ⟨rfl, Only.refl No _⟩)) ?_
      refine WD.p rfl (fun e w hR hh => by obtain ⟨h93, h87, h86, -⟩ := hh; rw [← hwd] at hR; exact SG.g h86 (by simp) (o_call Try.call15 (lc h87 (lc h93 ln)) ((same_spec R[m] tv (Uo m) w (Sl.ext hSt hR) (Sl.ext hIo hR) (by have := fwhole_tab hRm; omega)).mono (fun v w' hh => hh)))) ?_
      refine WD.p rfl (fun e w hR hh => by obtain ⟨h94, h86, -⟩ := hh; exact SG.g h86 (by simp) (o_not' h94 ⟨rfl, Only.refl No _⟩)) ?_
      refine WD.p rfl (fun e w hR hh => by obtain ⟨h95, h86, -⟩ := hh; exact SG.n (o_pickO h86 h95 ⟨rfl, Only.refl No _⟩)) ?_
      rintro e w hR ⟨h96, h95, h94, h93, h92, h91, h90, h89, h88, h87, h86, h85, h84, h83, h0, h7, h9, h11, h12, h13, -⟩
      rw [← hwd] at hR
      have hst2' := hst2.ext hR
      have hR2' : Rows w WP (R.take m) (.slice (some ⟨go, 0, none⟩) m co) Uo := by
        have := Rows.take (hR2.ext hR) (n := m + 1) (m := m) hlk.symm (by omega)
        rw [List.take_take, Nat.min_eq_left (by omega)] at this
        exact this
      have hA2' : Apt WP lv2 U2 (R.take m).length (.slice (some ⟨go, 0, none⟩) m co) Uo (R.take m).length := fun k hk hF => hA2 k hk (by rw [hlk]; exact RF.take hF (by rw [List.length_take]; omega))
      have hx2' := hx2.tr hR
      refine W.condF' h96 (by simp) ?_
      refine W.skip ?_
      refine W.region ?_
      refine WL.c rfl (o_mvh h9 ?_)
      refine WL.c rfl (o_mvh h9 ?_)
      refine WL.c rfl (o_len TI22 rfl ?_)
      refine WL.c rfl (o_subi rfl rfl (by omega) ?_)
      refine WL.c rfl (o_slv (h := m) TI22 TI39 rfl Lo.n (Hi.s (by show Value.int .i64 (((m + 1 : Nat) : Int) - 1) = _; congr 1; omega)) (Nat.zero_le _) (by omega) ?_)
      rw [sliced0]
      refine WL.c rfl (o_ash (by first | exact (show _ = Value.slice _ _ _ from rfl) | exact rfl) ?_)
      refine WL.nil ?_
      refine W.region ?_
      refine WL.c rfl (o_mvh h11 ?_)
      refine WL.c rfl (o_subi rfl rfl (by omega) ?_)
      refine WL.c rfl (o_ash (show _ = Value.int _ _ from rfl) ?_)
      refine WL.nil ?_
      refine ⟨⟨m, lv2, U2, .slice (some ⟨go, 0, none⟩) m co, Uo, by omega, by omega, h0, h7, rfl, ?_, hst2', hR2', hA2', hx2'⟩, ?_⟩
      · show Value.int _ (((m + 1 - (M.length - goneN gone M.length) : Nat) : Int) - 1) = _; congr 1; omega
      · show (((m + 1 - (M.length - goneN gone M.length) : Nat) : Int) - 1).toNat < _
        rw [hm11]; simp only [intOf]; omega
    · try simp only [decide_eq_true_eq, decide_eq_false_iff_not, Bool.not_eq_true', Bool.not_eq_false', Bool.and_eq_true, Bool.or_eq_true, Bool.and_eq_false_iff, Bool.or_eq_false_iff] at c75
      refine W.exit ?_
      refine W.seq ?_
      refine W.region ?_
      refine WL.c rfl (o_mvh h7 ?_)
      refine WL.c rfl (o_mvh h9 ?_)
      refine WL.c rfl (o_mvh h7 ?_)
      refine WL.c rfl (o_call Try.call12 (lc rfl ln) ((high_spec WP WP (M.length + 1) _ _ lv U _ hst).mono ?_))
      rintro v105 w105 ⟨rfl, hw105⟩
      replace hw105 := hw105.symm
      subst hw105
      refine WL.c rfl (o_mvh h0 ?_)
      refine WL.c rfl (o_lenR TI22 rfl hFw.sl ?_)
      refine WL.c rfl (o_eq rfl rfl ?_)
      refine WL.c rfl (o_mvh (show _ = Value.bool _ from rfl) ?_)
      refine WL.g rfl (by simp) rfl (o_mvh h7 ?_)
      refine WL.g rfl (by simp) rfl (o_call Try.call11 (lc rfl ln) ((len_spec WP WP (M.length + 1) _ _ lv U _ hst).mono ?_))
      rintro v111 w111 ⟨rfl, hw111⟩
      replace hw111 := hw111.symm
      subst hw111
      refine WL.g rfl (by simp) rfl (o_mvh h9 ?_)
      refine WL.g rfl (by simp) rfl (o_lenR TI22 rfl (Sl.own hR.row) ?_)
      refine WL.g rfl (by simp) rfl (o_eq rfl rfl ?_)
      refine WL.c rfl (o_pickA rfl rfl ?_)
      refine WL.c rfl (o_ash (by first | exact (show _ = Value.pointer _ from rfl) | exact rfl) ?_)
      refine WL.c rfl (o_ash (by first | exact (show _ = Value.slice _ _ _ from rfl) | exact rfl) ?_)
      refine WL.c rfl (o_ash (show _ = Value.bool _ from rfl) ?_)
      refine WL.nil ?_
      refine W.ret ?_
      refine ret3v rfl (show _ = Value.pointer _ from rfl) (show _ = ov from rfl) (show _ = Value.bool _ from rfl) ?_
      have hme : m = M.length - goneN gone M.length := by omega
      subst hWP
      refine ⟨w0.heap.size, lv, U, ov, Uo, R, by rw [hR0, hM], by simp, ?_, ?_, ?_, hxw⟩ <;> rw [hRl, ← hme]
      · exact hst
      · exact hR
      · exact hA
end Go.Proofs.Ytdiaeafjjffjmaa
