/-
  Walks. Written by program out of specs of mine.
-/
import Derived.Test.YtdiaeafjjffjmaaA
set_option linter.unusedSimpArgs false
set_option linter.unusedVariables false
set_option maxRecDepth 100000
namespace Go.Proofs.Ytdiaeafjjffjmaa
open Go Go.Vc Go.RowKit Go.Proofs

/-- frames in a row: their tables' slices are V 0, V 1, .. -/
def frows (L : List Fr) (V : Nat → Value) : List Value := (List.range L.length).flatMap (fun j => fcells (L.getD j Fr.nil) (V j))
abbrev tabl (L : List Fr) (j : Nat) : List Int := (L.getD j Fr.nil).tab
theorem fm_congr {α β : Type} {f g : α → List β} : ∀ {l : List α}, (∀ a ∈ l, f a = g a) → l.flatMap f = l.flatMap g
  | [], _ => rfl
  | a :: l, h => by rw [List.flatMap_cons, List.flatMap_cons, h a (List.mem_cons_self ..), fm_congr (fun b hb => h b (List.mem_cons_of_mem _ hb))]
theorem flatMap_len {α : Type} {s : Nat} {c : α → List Value} (h : ∀ a, (c a).length = s) : ∀ l : List α, (l.flatMap c).length = l.length * s
  | [] => by simp
  | a :: l => by rw [List.flatMap_cons, List.length_append, flatMap_len h l, h, List.length_cons, Nat.add_mul]; omega
theorem frows_len (L : List Fr) (V : Nat → Value) : (frows L V).length = L.length * 7 := by unfold frows; rw [flatMap_len (s := 7) (fun _ => rfl), List.length_range]
theorem flat_at {α : Type} {s : Nat} {c : α → List Value} (h : ∀ a, (c a).length = s) : ∀ (l : List α) (k : Nat) (hk : k < l.length), ((l.flatMap c).drop (k * s)).take s = c l[k]
  | a :: l, 0, _ => by rw [Nat.zero_mul, List.drop_zero, List.flatMap_cons, List.take_left' (h a)]; rfl
  | a :: l, k + 1, hk => by
    have ih := flat_at h l k (by simpa using hk)
    rw [List.flatMap_cons, List.drop_append, List.drop_eq_nil_of_le (by rw [h, Nat.add_mul]; omega), h, List.nil_append, show (k + 1) * s - s = k * s by rw [Nat.add_mul]; omega, ih]
    rfl
theorem frows_at {L : List Fr} {V : Nat → Value} {k : Nat} (h : k < L.length) : ((frows L V).drop (k * 7)).take 7 = fcells (L.getD k Fr.nil) (V k) := by
  unfold frows
  rw [flat_at (s := 7) (fun _ => rfl) _ k (by simpa using h)]
  simp
theorem frows_congr {L : List Fr} {V V' : Nat → Value} (h : ∀ j, j < L.length → V' j = V j) : frows L V' = frows L V := by
  unfold frows
  refine fm_congr fun j hj => ?_
  rw [h j (List.mem_range.1 hj)]
theorem frows_snoc (L : List Fr) (f : Fr) (V : Nat → Value) (v : Value) : frows (L ++ [f]) (fun j => if j = L.length then v else V j) = frows L V ++ fcells f v := by
  unfold frows
  rw [List.length_append, List.length_singleton, List.range_succ, List.flatMap_append]
  congr 1
  · refine fm_congr fun j hj => ?_
    have := List.mem_range.1 hj
    simp only [show ¬ j = L.length by omega, if_false]
    rw [List.getD_eq_getElem?_getD, List.getD_eq_getElem?_getD, List.getElem?_append_left this]
  · simp
theorem frows_take {L : List Fr} {V : Nat → Value} {m : Nat} (h : m ≤ L.length) : (frows L V).take (m * 7) = frows (L.take m) V := by
  have key : ∀ (n : Nat), n ≤ L.length → frows (L.take n) V = (List.range n).flatMap (fun j => fcells (L.getD j Fr.nil) (V j)) := by
    intro n hn
    unfold frows
    rw [List.length_take, Nat.min_eq_left hn]
    refine fm_congr fun j hj => ?_
    have := List.mem_range.1 hj
    rw [List.getD_eq_getElem?_getD, List.getD_eq_getElem?_getD, List.getElem?_take, if_pos this]
  rw [key m h]
  have h2 : frows L V = (List.range m).flatMap (fun j => fcells (L.getD j Fr.nil) (V j)) ++ ((List.range (L.length - m)).map (m + ·)).flatMap (fun j => fcells (L.getD j Fr.nil) (V j)) := by
    unfold frows
    rw [← List.flatMap_append]
    congr 1
    rw [← List.range_add, Nat.add_sub_cancel' h]
  rw [h2, List.take_left' (by rw [flatMap_len (s := 7) (fun _ => rfl), List.length_range])]
theorem frows_set {L : List Fr} {V : Nat → Value} {k : Nat} {f : Fr} {v : Value} (h : k < L.length) : (frows L V).take (k * 7) ++ fcells f v ++ (frows L V).drop (k * 7 + 7) = frows (L.set k f) (fun j => if j = k then v else V j) := by
  have hl : (frows (L.set k f) (fun j => if j = k then v else V j)).length = L.length * 7 := by rw [frows_len, List.length_set]
  apply List.ext_getElem?
  intro i
  have hfl := frows_len L V
  have split7 : ∀ (M : List Fr) (U : Nat → Value), i < M.length * 7 → (frows M U)[i]? = (fcells (M.getD (i / 7) Fr.nil) (U (i / 7)))[i % 7]? := by
    intro M U hi
    have hk : i / 7 < M.length := by omega
    have h1 := congrArg (fun l : List Value => l[i % 7]?) (frows_at (V := U) hk)
    simp only [List.getElem?_take, List.getElem?_drop] at h1
    rw [if_pos (by omega), show i / 7 * 7 + i % 7 = i by omega] at h1
    exact h1
  by_cases hi : i < L.length * 7
  · rw [split7 (L.set k f) _ (by rw [List.length_set]; exact hi)]
    by_cases h1 : i < k * 7
    · rw [List.append_assoc, List.getElem?_append_left (by rw [List.length_take]; omega), List.getElem?_take, if_pos h1, split7 L V hi, if_neg (by omega), List.getD_eq_getElem?_getD, List.getD_eq_getElem?_getD, List.getElem?_set, if_neg (by omega)]
    · by_cases h2 : i < k * 7 + 7
      · rw [List.append_assoc, List.getElem?_append_right (by rw [List.length_take]; omega), List.getElem?_append_left (by rw [List.length_take]; simp [fcells]; omega), List.length_take, if_pos (by omega), List.getD_eq_getElem?_getD, List.getElem?_set, if_pos (by omega), if_pos h, Option.getD_some, Nat.min_eq_left (by omega), show i - k * 7 = i % 7 by omega]
      · rw [List.getElem?_append_right (by rw [List.length_append, List.length_take]; simp [fcells]; omega), List.getElem?_drop, List.length_append, List.length_take, Nat.min_eq_left (by omega)]
        rw [show k * 7 + 7 + (i - (k * 7 + (fcells f v).length)) = i by simp [fcells]; omega, split7 L V hi, if_neg (by omega), List.getD_eq_getElem?_getD, List.getD_eq_getElem?_getD, List.getElem?_set, if_neg (by omega)]
  · rw [List.getElem?_eq_none (by rw [List.length_append, List.length_append, List.length_take, List.length_drop]; simp [fcells]; omega), List.getElem?_eq_none (by omega)]
/-- frames in a row of our own, each table in a block of its own -/
structure Rows (w : World) (H : Nat) (L : List Fr) (lv : Value) (V : Nat → Value) : Prop where
  row : w.ownsRow H 39 7 lv L.length (frows L V)
  tabs : Many w H 3 1 L.length V (fun j => (tabl L j).length) (fun j => ints (tabl L j))
/-- the blocks that these frames lie in -/
def RF (lv : Value) (V : Nat → Value) (n : Nat) (k : Nat) : Prop := lv.ownBlock = some k ∨ ∃ j, j < n ∧ (V j).ownBlock = some k
theorem Rows.only {w w' : World} {H : Nat} {L : List Fr} {lv : Value} {V : Nat → Value} {F : Nat → Prop} (h : Rows w H L lv V) (ho : Only F w w') (hn : ∀ k, RF lv V L.length k → ¬ F k) : Rows w' H L lv V :=
  ⟨own_only h.row ho (fun k hk => hn k (.inl hk)), h.tabs.only ho (fun j hj k hk => hn k (.inr ⟨j, hj, hk⟩))⟩
theorem Rows.ext {w w' : World} {H : Nat} {L : List Fr} {lv : Value} {V : Nat → Value} (h : Rows w H L lv V) (ho : Ext w w') : Rows w' H L lv V := h.only ho (fun _ _ h => h)
theorem Rows.lt {w : World} {H : Nat} {L : List Fr} {lv : Value} {V : Nat → Value} (h : Rows w H L lv V) : ∀ k, RF lv V L.length k → H ≤ k ∧ k < w.heap.size := fun k hk => by
  rcases hk with hk | ⟨j, hj, hk⟩
  · exact h.row.lt k hk
  · exact h.tabs.lt hj hk
theorem Rows.nil (w : World) (H : Nat) (V : Nat → Value) : Rows w H [] (.slice none 0 0) V := ⟨World.ownsRow_nil _ _ _ _, Many.zero⟩
/-- the program's stack -/
structure Stk (w : World) (H p most high : Nat) (L : List Fr) (lv : Value) (V : Nat → Value) : Prop where
  cell : w.heap[p]? = some (.cells #[.int .i64 (most : Int), .int .i64 (high : Int), lv] 71 (0, 0))
  rows : Rows w H L lv V
  lo : H ≤ p
  mb : most ≤ 1048576
  len : L.length ≤ most
  tl : ∀ k, k < L.length → (tabl L k).length ≤ 1048576
def SF (p : Nat) (lv : Value) (V : Nat → Value) (n k : Nat) : Prop := k = p ∨ RF lv V n k
theorem Stk.p_off {w : World} {H p : Nat} {most high : Nat} {L : List Fr} {lv : Value} {V : Nat → Value} (h : Stk w H p most high L lv V) : ¬ RF lv V L.length p := by
  rintro (hk | ⟨j, hj, hk⟩)
  · exact own_off h.rows.row h.cell (by decide) hk
  · exact own_off (h.rows.tabs.row j hj) h.cell (by decide) hk
theorem Stk.only {w w' : World} {H p : Nat} {most high : Nat} {L : List Fr} {lv : Value} {V : Nat → Value} {F : Nat → Prop} (h : Stk w H p most high L lv V) (ho : Only F w w') (hn : ∀ k, SF p lv V L.length k → ¬ F k) : Stk w' H p most high L lv V :=
  ⟨ho.blk h.cell (hn p (.inl rfl)), h.rows.only ho (fun k hk => hn k (.inr hk)), h.lo, h.mb, h.len, h.tl⟩
theorem Stk.ext {w w' : World} {H p : Nat} {most high : Nat} {L : List Fr} {lv : Value} {V : Nat → Value} (h : Stk w H p most high L lv V) (ho : Ext w w') : Stk w' H p most high L lv V := h.only ho (fun _ _ h => h)
theorem Stk.lt {w : World} {H p : Nat} {most high : Nat} {L : List Fr} {lv : Value} {V : Nat → Value} (h : Stk w H p most high L lv V) : ∀ k, SF p lv V L.length k → H ≤ k ∧ k < w.heap.size := fun k hk => by
  rcases hk with rfl | hk
  · exact ⟨h.lo, (Array.getElem?_eq_some_iff.1 h.cell).1⟩
  · exact h.rows.lt k hk
/-- where the last frame lies -/
def lastP (lv : Value) (n : Nat) : Option Addr := match lv with
  | .slice (some ⟨g, _, _⟩) _ _ => if n = 0 then none else some ⟨g, (n - 1) * 7, none⟩
  | _ => none
theorem Rows.at {w : World} {H : Nat} {L : List Fr} {lv : Value} {V : Nat → Value} (h : Rows w H L lv V) {k : Nat} (hk : k < L.length) : ∃ g cap, lv = .slice (some ⟨g, 0, none⟩) L.length cap ∧ lv.ownBlock = some g ∧ Cells w g (k * 7) (fcells (L.getD k Fr.nil) (V k)) := by
  obtain ⟨g, cap, hv, hb⟩ := own_some h.row (by omega)
  have h1 := h.row
  rw [hv] at h1
  have := own_cellsAt h1 k
  rw [frows_at hk, Nat.zero_add] at this
  exact ⟨g, cap, hv, hb, this⟩
theorem Rows.tab {w : World} {H : Nat} {L : List Fr} {lv : Value} {V : Nat → Value} (h : Rows w H L lv V) {k : Nat} (hk : k < L.length) : In w (V k) (tabl L k) := Sl.own (h.tabs.row k hk)

theorem new_spec (m : Int) (w0 : World) : Ca Try.prog 27 #[.int .i64 m] w0 (fun v w' => (inb m 1 1048576 = true → v = .tuple #[.pointer (some ⟨w0.heap.size, 0, none⟩), .int .i64 0] ∧ Stk w' w0.heap.size w0.heap.size m.toNat 0 [] (.slice none 0 0) (fun _ => undef)) ∧ (inb m 1 1048576 = false → v = .tuple #[.pointer none, .int .i64 3]) ∧ Ext w0 w') := by
  refine Ca.of Try.func27 Try.ntmps27 rfl rfl ?_
  refine W.seq ?_
  refine W.region ?_
  refine WL.c rfl (o_as ?_)
  refine WL.c rfl (o_as ?_)
  refine WL.nil ?_
  refine W.seq ?_
  refine W.seq ?_
  refine W.region ?_
  refine WL.c rfl (o_mv ?_)
  refine WL.c rfl (o_call Try.call48 (lc rfl (lc rfl (lc rfl ln))) ((in_spec m 1 1048576 _).mono ?_))
  rintro v5 w5 ⟨rfl, rfl⟩
  refine WL.c rfl (o_not' rfl ?_)
  refine WL.nil ?_
  refine W.cond rfl (fun c6 => ?_) (fun c6 => ?_)
  · try simp only [decide_eq_true_eq, decide_eq_false_iff_not, Bool.not_eq_true', Bool.not_eq_false', Bool.and_eq_true, Bool.or_eq_true, Bool.and_eq_false_iff, Bool.or_eq_false_iff] at c6
    refine W.seq ?_
    refine W.region ?_
    refine WL.c rfl (o_as ?_)
    refine WL.c rfl (o_as ?_)
    refine WL.nil ?_
    refine W.ret ?_
    refine ret2v rfl (show _ = Value.pointer _ from rfl) (show _ = Value.int _ _ from rfl) ?_
    exact ⟨fun h => (by rw [h] at c6; cases c6), fun _ => rfl, Only.refl _ _⟩
  · try simp only [decide_eq_true_eq, decide_eq_false_iff_not, Bool.not_eq_true', Bool.not_eq_false', Bool.and_eq_true, Bool.or_eq_true, Bool.and_eq_false_iff, Bool.or_eq_false_iff] at c6
    refine W.skip ?_
    refine W.seq ?_
    refine W.region ?_
    refine WL.c rfl (o_mv ?_)
    refine WL.c rfl (o_bldC (cs := [_, (.int .i64 0), (.slice none 0 0)]) TI71 (Sizes.cons TI3 (Sizes.cons TI3 (Sizes.cons TI22 Sizes.nil))) rfl (lcp (show _ = Value.int _ _ from rfl) lnp) rfl rfl ?_)
    refine WL.c rfl (o_boxB rfl ?_)
    intro w9 hC9 hx9 hs9
    refine WL.c rfl (o_as ?_)
    refine WL.c rfl (o_as ?_)
    refine WL.nil ?_
    refine W.ret ?_
    refine ret2v rfl (show _ = Value.pointer _ from rfl) (show _ = Value.int _ _ from rfl) ?_
    exact ⟨fun hi => ⟨rfl, ⟨by rw [Int.toNat_of_nonneg (by simp [inb] at hi; omega)]; exact hC9, Rows.nil _ _ _, Nat.le_refl _, by simp [inb] at hi; omega, by simp, by simp⟩⟩, fun h => (by rw [h] at c6; cases c6), hx9⟩
theorem last_spec (H p most high : Nat) (L : List Fr) (lv : Value) (V : Nat → Value) (w0 : World) (h : Stk w0 H p most high L lv V) : Ca Try.prog 34 #[.pointer (some ⟨p, 0, none⟩)] w0 (fun v w' => v = .pointer (lastP lv L.length) ∧ ∃ m, w' = w0.drewN m) := by
  have hcell := h.cell
  have hlen := h.len
  have hmb := h.mb
  have hS := Sl.own h.rows.row
  refine Ca.of Try.func34 Try.ntmps34 rfl rfl ?_
  refine W.seq ?_
  refine W.region ?_
  refine WL.c rfl (o_as ?_)
  refine WL.nil ?_
  refine W.seq ?_
  refine W.seq ?_
  refine W.region ?_
  refine WL.c rfl (o_mv ?_)
  refine WL.c rfl (o_nil rfl ?_)
  refine WL.c rfl (o_fa 2 TI71 rfl TI22 rfl rfl ?_)
  refine WL.c rfl (o_ld TI22 rfl rfl (cell_of hcell rfl) ?_)
  refine WL.c rfl (o_lenR TI22 rfl hS ?_)
  refine WL.c rfl (o_eq rfl rfl ?_)
  refine WL.nil ?_
  refine W.cond rfl (fun c8 => ?_) (fun c8 => ?_)
  · try simp only [decide_eq_true_eq, decide_eq_false_iff_not, Bool.not_eq_true', Bool.not_eq_false', Bool.and_eq_true, Bool.or_eq_true, Bool.and_eq_false_iff, Bool.or_eq_false_iff] at c8
    refine W.seq ?_
    refine W.region ?_
    refine WL.c rfl (o_as ?_)
    refine WL.nil ?_
    refine W.ret ?_
    refine ret1v rfl (show _ = Value.pointer _ from rfl) ?_
    refine ⟨?_, 0, rfl⟩
    have h0 : L.length = 0 := by omega
    have : lastP lv L.length = none := by unfold lastP; split <;> simp [h0]
    rw [this]
  · try simp only [decide_eq_true_eq, decide_eq_false_iff_not, Bool.not_eq_true', Bool.not_eq_false', Bool.and_eq_true, Bool.or_eq_true, Bool.and_eq_false_iff, Bool.or_eq_false_iff] at c8
    obtain ⟨g, cap, rfl, hb, hcs⟩ := h.rows.at (k := L.length - 1) (by omega)
    refine W.skip ?_
    refine W.seq ?_
    refine W.quiet rfl (by kernel_rfl) ?_
    refine WQ.c rfl ((QO.o rfl fun _ => o_mv ⟨rfl, rfl⟩)) ?_
    refine WQ.c rfl ((QO.r fun _ => r_nil rfl)) ?_
    refine WQ.c rfl ((QO.o rfl fun _ => o_fa 2 TI71 rfl TI22 rfl rfl ⟨rfl, rfl⟩)) ?_
    refine WQ.c rfl ((QO.o rfl fun _ => o_ld TI22 rfl rfl (cell_of hcell rfl) ⟨rfl, rfl⟩)) ?_
    refine WQ.c rfl ((QO.o rfl fun _ => o_mv ⟨rfl, rfl⟩)) ?_
    refine WQ.c rfl ((QO.r fun _ => r_nil rfl)) ?_
    refine WQ.c rfl ((QO.o rfl fun _ => o_fa 2 TI71 rfl TI22 rfl rfl ⟨rfl, rfl⟩)) ?_
    refine WQ.c rfl ((QO.o rfl fun _ => o_ld TI22 rfl rfl (cell_of hcell rfl) ⟨rfl, rfl⟩)) ?_
    refine WQ.c rfl ((QO.r fun _ => r_len TI22 rfl)) ?_
    refine WQ.c rfl ((QO.o rfl fun _ => o_subi rfl rfl (by omega) ⟨rfl, rfl⟩)) ?_
    refine WQ.c rfl ((QO.o rfl fun _ => o_ixB (i := L.length - 1) TI22 TI39 rfl (by show Value.int _ ((L.length : Int) - 1) = _; congr 1; omega) (by omega) ⟨rfl, rfl⟩)) ?_
    refine WQ.c rfl ((QO.o rfl fun _ => o_as ⟨rfl, rfl⟩)) ?_
    refine WQ.nil ?_
    intro nq
    refine W.ret ?_
    refine ret1v rfl (show _ = Value.pointer _ from rfl) ?_
    refine ⟨?_, _, rfl⟩
    have : lastP (.slice (some ⟨g, 0, none⟩) L.length cap) L.length = some ⟨g, (L.length - 1) * 7, none⟩ := by unfold lastP; simp only []; rw [if_neg (by omega)]
    rw [this, Nat.zero_add]
theorem len_spec (H p most high : Nat) (L : List Fr) (lv : Value) (V : Nat → Value) (w0 : World) (h : Stk w0 H p most high L lv V) : Ca Try.prog 11 #[.pointer (some ⟨p, 0, none⟩)] w0 (fun v w' => v = .int .i64 (L.length : Int) ∧ w' = w0) := by
  have hcell := h.cell
  refine Ca.of Try.func11 Try.ntmps11 rfl rfl ?_
  refine W.seq ?_
  refine W.region ?_
  refine WL.c rfl (o_as ?_)
  refine WL.nil ?_
  refine W.seq ?_
  refine W.region ?_
  refine WL.c rfl (o_mv ?_)
  refine WL.c rfl (o_nil rfl ?_)
  refine WL.c rfl (o_fa 2 TI71 rfl TI22 rfl rfl ?_)
  refine WL.c rfl (o_ld TI22 rfl rfl (cell_of hcell rfl) ?_)
  refine WL.c rfl (o_lenR TI22 rfl (Sl.own h.rows.row) ?_)
  refine WL.c rfl (o_as ?_)
  refine WL.nil ?_
  refine W.ret ?_
  refine ret1v rfl (show _ = Value.int _ _ from rfl) ?_
  exact ⟨rfl, rfl⟩
theorem high_spec (H p most high : Nat) (L : List Fr) (lv : Value) (V : Nat → Value) (w0 : World) (h : Stk w0 H p most high L lv V) : Ca Try.prog 12 #[.pointer (some ⟨p, 0, none⟩)] w0 (fun v w' => v = .int .i64 (high : Int) ∧ w' = w0) := by
  have hcell := h.cell
  refine Ca.of Try.func12 Try.ntmps12 rfl rfl ?_
  refine W.seq ?_
  refine W.region ?_
  refine WL.c rfl (o_as ?_)
  refine WL.nil ?_
  refine W.seq ?_
  refine W.region ?_
  refine WL.c rfl (o_mv ?_)
  refine WL.c rfl (o_nil rfl ?_)
  refine WL.c rfl (o_fa 1 TI71 rfl TI3 rfl rfl ?_)
  refine WL.c rfl (o_ld TI3 rfl rfl (cell_of hcell rfl) ?_)
  refine WL.c rfl (o_as ?_)
  refine WL.nil ?_
  refine W.ret ?_
  refine ret1v rfl (show _ = Value.int _ _ from rfl) ?_
  exact ⟨rfl, rfl⟩
theorem slots_spec (H p most high : Nat) (L : List Fr) (lv : Value) (V : Nat → Value) (w0 : World) (h : Stk w0 H p most high L lv V) : Ca Try.prog 22 #[.pointer (some ⟨p, 0, none⟩)] w0 (fun v w' => v = .int .i64 ((tabl L (L.length - 1)).length : Int) ∧ Ext w0 w') := by
  refine Ca.of Try.func22 Try.ntmps22 rfl rfl ?_
  refine W.seq ?_
  refine W.region ?_
  refine WL.c rfl (o_as ?_)
  refine WL.nil ?_
  refine W.seq ?_
  refine W.region ?_
  refine WL.c rfl (o_mv ?_)
  refine WL.c rfl (o_call Try.call34 (lc rfl ln) ((last_spec H p most high L lv V _ h).mono ?_))
  rintro v5 w5 ⟨rfl, mq, rfl⟩
  replace h := h.ext (Only.drewN w0 mq)
  have hxq := Only.drewN w0 mq
  generalize w0.drewN mq = wq at *
  refine WL.c rfl (o_as ?_)
  refine WL.nil ?_
  refine W.seq ?_
  refine W.seq ?_
  rcases Nat.eq_zero_or_pos L.length with h0 | h0
  · skip
    have hl0 : lastP lv L.length = none := by unfold lastP; split <;> simp [h0]
    rw [hl0]
    refine W.region ?_
    refine WL.c rfl (o_mv ?_)
    refine WL.c rfl (o_eqN (p := none) TI77 rfl rfl ?_)
    refine WL.nil ?_
    refine W.condT' rfl (rfl) ?_
    refine W.seq ?_
    refine W.region ?_
    refine WL.c rfl (o_as ?_)
    refine WL.nil ?_
    refine W.ret ?_
    refine ret1v rfl (show _ = Value.int _ _ from rfl) ?_
    exact ⟨by simp [tabl, h0, List.getD_eq_getElem?_getD, List.getElem?_eq_none, Fr.nil], hxq⟩
  · skip
    obtain ⟨g, cap, rfl, hb, hcs⟩ := h.rows.at (k := L.length - 1) (by omega)
    have hl0 : lastP (.slice (some ⟨g, 0, none⟩) L.length cap) L.length = some ⟨g, (L.length - 1) * 7, none⟩ := by unfold lastP; simp only []; rw [if_neg (by omega)]
    rw [hl0]
    obtain ⟨T, hT⟩ : ∃ T, T = L.getD (L.length - 1) Fr.nil := ⟨_, rfl⟩
    rw [← hT] at hcs
    have htab := h.rows.tab (k := L.length - 1) (by omega)
    rw [tabl, ← hT] at htab
    obtain ⟨tv, htv⟩ : ∃ tv, tv = V (L.length - 1) := ⟨_, rfl⟩
    rw [← htv] at hcs htab
    refine W.region ?_
    refine WL.c rfl (o_mv ?_)
    refine WL.c rfl (o_eqN (p := some ⟨g, (L.length - 1) * 7, none⟩) TI77 rfl rfl ?_)
    refine WL.nil ?_
    refine W.condF' rfl (rfl) ?_
    refine W.skip ?_
    refine W.seq ?_
    refine W.region ?_
    refine WL.c rfl (o_mv ?_)
    refine WL.c rfl (o_nil rfl ?_)
    refine WL.c rfl (o_fa 6 TI39 rfl TI37 rfl rfl ?_)
    refine WL.c rfl (o_ld TI37 rfl rfl (hcs 6 _ rfl) ?_)
    refine WL.c rfl (o_lenR TI37 rfl htab ?_)
    refine WL.c rfl (o_as ?_)
    refine WL.nil ?_
    refine W.ret ?_
    refine ret1v rfl (show _ = Value.int _ _ from rfl) ?_
    exact ⟨by rw [tabl, ← hT], hxq⟩

abbrev topF (L : List Fr) : Fr := L.getD (L.length - 1) Fr.nil
def slotR (L : List Fr) (k : Int) : Int × Int := if L.length = 0 then (0, 220) else if inb k 0 ((topF L).tab.length - 1) then ((topF L).tab.getD k.toNat 0, 0) else (0, 3)
def emptyE (L : List Fr) : Int := if L.length = 0 then 220 else 0
theorem topF_nil {L : List Fr} (h : L.length = 0) : topF L = Fr.nil := by rw [List.length_eq_zero_iff.1 h]; rfl
def pushR (most high : Nat) (L : List Fr) (f : Fr) : Int × Nat × List Fr := if most ≤ L.length then (220, high, L) else if fwhole f then (0, max high (L.length + 1), L ++ [f]) else (3, high, L)
/-- a call that turns a stack: what it has then, where it may have written, what it may hold -/
structure Turn (w w' : World) (H p most high : Nat) (L : List Fr) (lv : Value) (V : Nat → Value) (high' : Nat) (L' : List Fr) (lv' : Value) (V' : Nat → Value) : Prop where
  stk : Stk w' H p most high' L' lv' V'
  only : Only (SF p lv V L.length) w w'
  new : ∀ k, SF p lv' V' L'.length k → SF p lv V L.length k ∨ w.heap.size ≤ k
theorem Turn.same {w w' : World} {H p most high : Nat} {L : List Fr} {lv : Value} {V : Nat → Value} (h : Stk w H p most high L lv V) (hx : Ext w w') : Turn w w' H p most high L lv V high L lv V :=
  ⟨h.ext hx, hx.mono (fun _ _ h => h.elim), fun _ h => .inl h⟩
theorem own_new1 {w : World} {v : Value} {el : TypeId} {s : Nat} (hv : v.cells.size = s) : (w.alloc (.cells v.cells el)).ownsRow w.heap.size el s (.slice (some ⟨w.heap.size, 0, none⟩) 1 1) 1 v.cells.toList :=
  ⟨by simp [hv], .inr ⟨w.heap.size, 1, v.cells, rfl, Nat.le_refl _, heap_alloc_new w _, Nat.le_refl _, by rw [maxLen_eq]; omega, by rw [hv]; omega, by rw [Nat.one_mul]; exact List.take_of_length_le (by simp [hv])⟩⟩
theorem Rows.snoc {w : World} {H B : Nat} {L : List Fr} {f : Fr} {V : Nat → Value} {v tv : Value} (hr : w.ownsRow H 39 7 v (L.length + 1) (frows L V ++ fcells f tv)) (ht : Many w H 3 1 L.length V (fun j => (tabl L j).length) (fun j => ints (tabl L j)))
    (hf : w.ownsRow B 3 1 tv f.tab.length (ints f.tab)) (hB : H ≤ B) (hlt : ∀ j, j < L.length → ∀ k, (V j).ownBlock = some k → k < B) : Rows w H (L ++ [f]) v (fun j => if j = L.length then tv else V j) := by
  have e1 : ∀ j, j < L.length → tabl (L ++ [f]) j = tabl L j := fun j hj => by simp [tabl, List.getD_eq_getElem?_getD, List.getElem?_append_left hj]
  have e2 : tabl (L ++ [f]) L.length = f.tab := by simp [tabl]
  refine ⟨by rw [List.length_append, List.length_singleton, frows_snoc]; exact hr, ?_⟩
  rw [List.length_append, List.length_singleton]
  refine Many.snocG (ht.congr (fun _ _ => rfl) (fun j hj => by rw [e1 j hj]) (fun j hj => by rw [e1 j hj])) hf hB hlt (by rw [e2]) (by rw [e2])
theorem Rows.put {w : World} {H : Nat} {L : List Fr} {f : Fr} {lv tv : Value} {V : Nat → Value} {k : Nat} (hk : k < L.length) (hr : w.ownsRow H 39 7 lv L.length ((frows L V).take (k * 7) ++ fcells f tv ++ (frows L V).drop (k * 7 + 7)))
    (ht : Many w H 3 1 L.length (fun j => if j = k then tv else V j) (fun j => if j = k then f.tab.length else (tabl L j).length) (fun j => if j = k then ints f.tab else ints (tabl L j))) : Rows w H (L.set k f) lv (fun j => if j = k then tv else V j) := by
  have e1 : ∀ j, tabl (L.set k f) j = if j = k then f.tab else tabl L j := fun j => by
    by_cases e : j = k
    · subst e; simp [tabl, List.getD_eq_getElem?_getD, hk]
    · rw [if_neg e]; simp only [tabl, List.getD_eq_getElem?_getD]; rw [List.getElem?_set, if_neg (by omega)]
  refine ⟨by rw [List.length_set, ← frows_set hk]; exact hr, ?_⟩
  rw [List.length_set]
  refine ht.congr (fun _ _ => rfl) (fun j hj => ?_) (fun j hj => ?_)
  · rw [e1]; split <;> rfl
  · rw [e1]; split <;> rfl
theorem Rows.off {w : World} {H p : Nat} {L : List Fr} {lv : Value} {V : Nat → Value} {cs : Array Value} {T : TypeId} {fr : Nat × Nat} (h : Rows w H L lv V) (hc : w.heap[p]? = some (.cells cs T fr)) (h1 : 39 ≠ T) (h2 : 3 ≠ T) : ¬ RF lv V L.length p := by
  rintro (hk | ⟨j, hj, hk⟩)
  · exact own_off h.row hc h1 hk
  · exact own_off (h.tabs.row j hj) hc h2 hk
theorem tl_snoc {L : List Fr} {f : Fr} (h : ∀ k, k < L.length → (tabl L k).length ≤ 1048576) (hf : fwhole f = true) : ∀ k, k < (L ++ [f]).length → (tabl (L ++ [f]) k).length ≤ 1048576 := fun k hk => by
  rw [List.length_append, List.length_singleton] at hk
  by_cases e : k < L.length
  · have := h k e
    simp only [tabl, List.getD_eq_getElem?_getD] at this ⊢
    rw [List.getElem?_append_left e]; exact this
  · have e2 : k = L.length := by omega
    subst e2
    simp [fwhole, tright] at hf
    simp [tabl]
    exact hf.2.1
theorem tl_set {L : List Fr} {f : Fr} {i : Nat} (h : ∀ k, k < L.length → (tabl L k).length ≤ 1048576) (hf : f.tab.length ≤ 1048576) : ∀ k, k < (L.set i f).length → (tabl (L.set i f) k).length ≤ 1048576 := fun k hk => by
  rw [List.length_set] at hk
  have := h k hk
  simp only [tabl, List.getD_eq_getElem?_getD] at this ⊢
  rw [List.getElem?_set]
  by_cases e : i = k
  · subst e; rw [if_pos rfl, if_pos hk]; exact hf
  · rw [if_neg e]; exact this
theorem fwhole_tab {f : Fr} (hf : fwhole f = true) : f.tab.length ≤ 1048576 := by
  simp [fwhole, tright] at hf; exact hf.2.1
/-- a store of one cell into an own row of structs -/
theorem o_stRo {P : Program} {e : Env} {w : World} {K : Value → World → Prop} {ty : TypeId} {x y : Operand} {t el : TypeId} {dd : TypeDesc} {bs g o n base s : Nat} {z u v : Value} {xs : List Value} (ht : Ty P t dd 1 bs z) (hx : ev e x = .pointer (some ⟨g, o, none⟩)) (hy : ev e y = u) (hu : u.oneCell' = true)
    (hown : w.ownsRow base el s v n xs) (hv : v.ownBlock = some g) (hi : o < n * s) (k : ∀ w', w'.ownsRow base el s v n (xs.set o u) → Only (fun k => v.ownBlock = some k) w w' → w'.heap.size = w.heap.size → K undef w') : OP P e (.store t x y) ty w K := by
  obtain ⟨cap, cur, rfl, hb, hc, hnc, hcm, hcs, htk⟩ := own_blk hown hv
  have hm2 : n * s ≤ cap * s := Nat.mul_le_mul_right _ hnc
  refine o_stB ht hx hy hu hc (by omega) fun w' hC ho hs => k w' ⟨by simp [hown.1], .inr ⟨g, cap, _, rfl, hb, hC, hnc, hcm, by simp [hcs], ?_⟩⟩ (ho.mono (fun j _ h => by rw [hv, h])) hs
  rw [← htk]
  simp only [Array.toList_setIfInBounds, List.take_set]
theorem own_form {w : World} {base : Nat} {el : TypeId} {s n : Nat} {v : Value} {xs : List Value} (h : w.ownsRow base el s v n xs) : ∃ a c, v = .slice a n c ∧ n ≤ c := by
  rcases h.2 with ⟨rfl, rfl⟩ | ⟨g, cap, cur, rfl, hb, hc, hnc, r⟩
  · exact ⟨none, 0, rfl, Nat.le_refl _⟩
  · exact ⟨_, cap, rfl, hnc⟩
theorem own_take {w : World} {base : Nat} {el : TypeId} {s n m g cap : Nat} {xs : List Value} (h : w.ownsRow base el s (.slice (some ⟨g, 0, none⟩) n cap) n xs) (hm : m ≤ n) : w.ownsRow base el s (.slice (some ⟨g, 0, none⟩) m cap) m (xs.take (m * s)) := by
  obtain ⟨cap', cur, hv, hb, hc, hnc, hcm, hcs, ht⟩ := own_blk h rfl
  simp only [Value.slice.injEq] at hv
  obtain ⟨-, -, rfl⟩ := hv
  have hms : m * s ≤ n * s := Nat.mul_le_mul_right _ hm
  refine ⟨by rw [List.length_take, h.1]; omega, .inr ⟨g, cap, cur, rfl, hb, hc, by omega, hcm, hcs, ?_⟩⟩
  rw [← ht, List.take_take, Nat.min_eq_left hms]
theorem sliced0 (g h c s : Nat) : sliced (some ⟨g, 0, none⟩) 0 h c s = .slice (some ⟨g, 0, none⟩) h c := by
  unfold sliced
  split <;> simp [Addr.add]
theorem ite_at {α : Type} (V : Nat → α) {k j : Nat} {a : α} (h : a = V k) : (if j = k then a else V j) = V j := by
  by_cases e : j = k
  · rw [if_pos e, e, h]
  · rw [if_neg e]
theorem Many.repl {w : World} {H0 : Nat} {el : TypeId} {s N : Nat} {V : Nat → Value} {n : Nat → Nat} {X : Nat → List Value} (h : Many w H0 el s N V n X) {j0 b m : Nat} {v : Value} {xs : List Value} (hr : w.ownsRow b el s v m xs) (hb : H0 ≤ b) (hlt : ∀ j, j < N → ∀ k, (V j).ownBlock = some k → k < b) :
    Many w H0 el s N (fun j => if j = j0 then v else V j) (fun j => if j = j0 then m else n j) (fun j => if j = j0 then xs else X j) := by
  refine ⟨fun j hj => ?_, fun i j hi hj hij k hk => ?_⟩
  · by_cases e : j = j0
    · simp only [if_pos e]; exact own_mono hr hb
    · simp only [if_neg e]; exact h.row j hj
  · by_cases e : i = j0
    · have e2 : j ≠ j0 := by omega
      simp only [if_pos e, if_neg e2] at hk ⊢
      intro hk2
      have h1 := (hr.lt k hk).1
      have h2 := hlt j hj k hk2
      omega
    · by_cases e2 : j = j0
      · simp only [if_neg e, if_pos e2] at hk ⊢
        intro hk2
        have h1 := (hr.lt k hk2).1
        have h2 := hlt i hi k hk
        omega
      · simp only [if_neg e, if_neg e2] at hk ⊢
        exact h.off i j hi hj hij k hk
theorem set6 {xs : List Value} {a : Nat} {T : Fr} {tv u : Value} (h : (xs.drop a).take 7 = fcells T tv) : xs.set (a + 6) u = xs.take a ++ fcells T u ++ xs.drop (a + 7) := by
  have hl : a + 7 ≤ xs.length := by
    have := congrArg List.length h
    simp [fcells] at this; omega
  have e : xs = xs.take a ++ (fcells T tv ++ xs.drop (a + 7)) := by
    rw [← h, show xs.drop (a + 7) = (xs.drop a).drop 7 by rw [List.drop_drop], List.take_append_drop, List.take_append_drop]
  have e2 : xs.set (a + 6) u = (xs.take a ++ (fcells T tv ++ xs.drop (a + 7))).set (a + 6) u := by rw [← e]
  rw [e2, List.set_append_right _ _ (by rw [List.length_take]; omega), List.length_take, Nat.min_eq_left (by omega), show a + 6 - a = 6 by omega, List.set_append_left _ _ (by simp [fcells]), List.append_assoc]
  rfl
theorem topF_pos {L : List Fr} (h : 0 < L.length) : topF L = L[L.length - 1] := by rw [topF, List.getD_eq_getElem?_getD, List.getElem?_eq_getElem (by omega)]; rfl
def setR (L : List Fr) (f : Fr) : Int × List Fr := if L.length = 0 then (220, L) else if fwhole f then (0, L.set (L.length - 1) f) else (3, L)
def goR (L : List Fr) (f : Fr) : Int × List Fr := if L.length = 0 then (220, L) else if fright f then (0, L.set (L.length - 1) { f with tab := (topF L).tab }) else (3, L)
def markR (L : List Fr) (a : Int) : Int × List Fr := if L.length = 0 then (220, L) else if inb a 0 Huge then (if 1048576 ≤ (topF L).tab.length then (5, L) else (0, L.set (L.length - 1) { topF L with tab := (topF L).tab ++ [a] })) else (3, L)
/-- a popped table: its slice ends where it ends -/
def Clipd (w : World) (H : Nat) (v : Value) (l : List Int) : Prop := ∃ a cap, v = .slice a l.length l.length ∧ w.ownsRow H 3 1 (.slice a l.length cap) l.length (ints l)
theorem Clipd.In {w : World} {H : Nat} {v : Value} {l : List Int} (h : Clipd w H v l) : In w v l := by
  obtain ⟨a, cap, rfl, ho⟩ := h
  rcases ho.2 with ⟨h1, h2⟩ | ⟨g, cap', cur, h1, hb, hc, hnc, hcm, hcs, ht⟩
  · simp only [Value.slice.injEq] at h1
    obtain ⟨rfl, h3, rfl⟩ := h1
    have : l = [] := List.eq_nil_of_length_eq_zero h3
    subst this
    exact Sl.nil w 1
  · simp only [Value.slice.injEq] at h1
    obtain ⟨rfl, -, rfl⟩ := h1
    refine Sl.blk hc 0 _ (by simp) (Nat.le_refl _) (fun i v hv => ?_)
    rw [← ht, List.getElem?_take] at hv
    split at hv
    · simpa using hv
    · simp at hv
theorem Clipd.only {w w' : World} {H : Nat} {v : Value} {l : List Int} {F : Nat → Prop} (h : Clipd w H v l) (ho : Only F w w') (hn : ∀ k, v.ownBlock = some k → ¬ F k) : Clipd w' H v l := by
  obtain ⟨a, cap, rfl, h1⟩ := h
  exact ⟨a, cap, rfl, own_only h1 ho (fun k hk => hn k (by cases a <;> exact hk))⟩
theorem ite_SF {p : Nat} {lv lv' tv : Value} {V : Nat → Value} {n k : Nat} {w : World} {B : Nat} (hB : w.heap.size ≤ B) (hl : lv'.ownBlock = lv.ownBlock ∨ ∃ g, B ≤ g ∧ lv'.ownBlock = some g) (ht : ∀ k, tv.ownBlock = some k → w.heap.size ≤ k ∨ ∃ j, j < n ∧ (V j).ownBlock = some k) {q m : Nat} (hq : q ≤ n) (h : SF p lv' (fun j => if j = m then tv else V j) q k ∨ SF p lv' (fun j => if j = n then tv else V j) (n + 1) k) : SF p lv V n k ∨ w.heap.size ≤ k := by
  have hlv : lv'.ownBlock = some k → SF p lv V n k ∨ w.heap.size ≤ k := fun h => by
    rcases hl with hl | ⟨g, hg, hl⟩
    · rw [hl] at h; exact .inl (.inr (.inl h))
    · rw [hl] at h; cases h; exact .inr (by omega)
  have htv : tv.ownBlock = some k → SF p lv V n k ∨ w.heap.size ≤ k := fun h => by
    rcases ht k h with h | ⟨j, hj, h⟩
    · exact .inr h
    · exact .inl (.inr (.inr ⟨j, hj, h⟩))
  rcases h with h | h
  · rcases h with rfl | h | ⟨j, hj, h⟩
    · exact .inl (.inl rfl)
    · exact hlv h
    · by_cases e : j = m
      · simp only [if_pos e] at h; exact htv h
      · simp only [if_neg e] at h; exact .inl (.inr (.inr ⟨j, by omega, h⟩))
  · rcases h with rfl | h | ⟨j, hj, h⟩
    · exact .inl (.inl rfl)
    · exact hlv h
    · by_cases e : j = n
      · simp only [if_pos e] at h; exact htv h
      · simp only [if_neg e] at h; exact .inl (.inr (.inr ⟨j, by omega, h⟩))

theorem slot_spec (H p most high : Nat) (L : List Fr) (lv : Value) (V : Nat → Value) (k : Int) (w0 : World) (h : Stk w0 H p most high L lv V) : Ca Try.prog 26 #[.pointer (some ⟨p, 0, none⟩), .int .i64 k] w0 (fun v w' => v = .tuple #[.int .i64 (slotR L k).1, .int .i64 (slotR L k).2] ∧ Ext w0 w') := by
  refine Ca.of Try.func26 Try.ntmps26 rfl rfl ?_
  refine W.seq ?_
  refine W.region ?_
  refine WL.c rfl (o_as ?_)
  refine WL.c rfl (o_as ?_)
  refine WL.nil ?_
  refine W.seq ?_
  refine W.region ?_
  refine WL.c rfl (o_mv ?_)
  refine WL.c rfl (o_call Try.call34 (lc rfl ln) ((last_spec H p most high L lv V _ h).mono ?_))
  rintro v8 w8 ⟨rfl, mq, rfl⟩
  replace h := h.ext (Only.drewN w0 mq)
  have hxq := Only.drewN w0 mq
  generalize w0.drewN mq = wq at *
  refine WL.c rfl (o_as ?_)
  refine WL.nil ?_
  refine W.seq ?_
  refine W.block ?_
  refine W.seq ?_
  rcases Nat.eq_zero_or_pos L.length with h0 | h0
  · skip
    have hl0 : lastP lv L.length = none := by unfold lastP; split <;> simp [h0]
    rw [hl0]
    refine W.region ?_
    refine WL.c rfl (o_mv ?_)
    refine WL.c rfl (o_eqN (p := none) TI77 rfl rfl ?_)
    refine WL.c rfl (o_as ?_)
    refine WL.nil ?_
    refine W.condT' rfl (rfl) ?_
    refine W.seq ?_
    refine W.region ?_
    refine WL.c rfl (o_as ?_)
    refine WL.c rfl (o_as ?_)
    refine WL.nil ?_
    refine W.ret ?_
    refine ret2v rfl (show _ = Value.int _ _ from rfl) (show _ = Value.int _ _ from rfl) ?_
    exact ⟨by simp [slotR, h0], hxq⟩
  · skip
    obtain ⟨g, cap, rfl, hb, hcs⟩ := h.rows.at (k := L.length - 1) (by omega)
    have hl0 : lastP (.slice (some ⟨g, 0, none⟩) L.length cap) L.length = some ⟨g, (L.length - 1) * 7, none⟩ := by unfold lastP; simp only []; rw [if_neg (by omega)]
    rw [hl0]
    obtain ⟨T, hT⟩ : ∃ T, T = L.getD (L.length - 1) Fr.nil := ⟨_, rfl⟩
    rw [← hT] at hcs
    have htab := h.rows.tab (k := L.length - 1) (by omega)
    rw [tabl, ← hT] at htab
    obtain ⟨tv, htv⟩ : ∃ tv, tv = V (L.length - 1) := ⟨_, rfl⟩
    rw [← htv] at hcs htab
    refine W.region ?_
    refine WL.c rfl (o_mv ?_)
    refine WL.c rfl (o_eqN (p := some ⟨g, (L.length - 1) * 7, none⟩) TI77 rfl rfl ?_)
    refine WL.c rfl (o_as ?_)
    refine WL.nil ?_
    refine W.condF' rfl (rfl) ?_
    refine W.seq ?_
    refine W.region ?_
    refine WL.c rfl (o_mv ?_)
    refine WL.c rfl (o_mv ?_)
    refine WL.c rfl (o_nil rfl ?_)
    refine WL.c rfl (o_fa 6 TI39 rfl TI37 rfl rfl ?_)
    refine WL.c rfl (o_ld TI37 rfl rfl (hcs 6 _ rfl) ?_)
    refine WL.c rfl (o_lenR TI37 rfl htab ?_)
    refine WL.c rfl (o_subi rfl rfl (by have := htab.len; have := h.tl (k := L.length - 1) (by omega); rw [tabl, ← hT] at this; omega) ?_)
    refine WL.c rfl (o_call Try.call48 (lc rfl (lc rfl (lc rfl ln))) ((in_spec k 0 _ _).mono ?_))
    rintro v20 w20 ⟨rfl, rfl⟩
    refine WL.c rfl (o_not' rfl ?_)
    refine WL.c rfl (o_as ?_)
    refine WL.nil ?_
    refine W.cond rfl (fun c12 => ?_) (fun c12 => ?_)
    · try simp only [decide_eq_true_eq, decide_eq_false_iff_not, Bool.not_eq_true', Bool.not_eq_false', Bool.and_eq_true, Bool.or_eq_true, Bool.and_eq_false_iff, Bool.or_eq_false_iff] at c12
      refine W.seq ?_
      refine W.region ?_
      refine WL.c rfl (o_as ?_)
      refine WL.c rfl (o_as ?_)
      refine WL.nil ?_
      refine W.ret ?_
      refine ret2v rfl (show _ = Value.int _ _ from rfl) (show _ = Value.int _ _ from rfl) ?_
      refine ⟨?_, hxq⟩
      rw [slotR, if_neg (show ¬ L.length = 0 by omega), topF, ← hT, if_neg (by rw [c12]; simp)]
    · try simp only [decide_eq_true_eq, decide_eq_false_iff_not, Bool.not_eq_true', Bool.not_eq_false', Bool.and_eq_true, Bool.or_eq_true, Bool.and_eq_false_iff, Bool.or_eq_false_iff] at c12
      have hk0 : 0 ≤ k ∧ k < T.tab.length := by simp [inb] at c12; omega
      obtain ⟨kn, rfl⟩ : ∃ n : Nat, k = (n : Int) := ⟨k.toNat, by omega⟩
      refine W.skip ?_
      refine W.seq ?_
      refine W.region ?_
      refine WL.c rfl (o_mv ?_)
      refine WL.c rfl (o_nil rfl ?_)
      refine WL.c rfl (o_fa 6 TI39 rfl TI37 rfl rfl ?_)
      refine WL.c rfl (o_ld TI37 rfl rfl (hcs 6 _ rfl) ?_)
      refine WL.c rfl (o_mv ?_)
      refine WL.c rfl (o_ix1 TI37 TI3 rfl rfl htab (by omega) ?_)
      intro b27 o27 hc27 hb27
      refine WL.c rfl (o_ld TI3 rfl rfl (hc27.trans (getint (by omega))) ?_)
      refine WL.c rfl (o_as ?_)
      refine WL.c rfl (o_as ?_)
      refine WL.nil ?_
      refine W.ret ?_
      refine ret2v rfl (show _ = Value.int _ _ from rfl) (show _ = Value.int _ _ from rfl) ?_
      refine ⟨?_, hxq⟩
      rw [slotR, if_neg (show ¬ L.length = 0 by omega), topF, ← hT, if_pos (by simp [inb]; omega), List.getD_eq_getElem?_getD, Int.toNat_natCast, List.getElem?_eq_getElem (by omega), Option.getD_some]
end Go.Proofs.Ytdiaeafjjffjmaa
