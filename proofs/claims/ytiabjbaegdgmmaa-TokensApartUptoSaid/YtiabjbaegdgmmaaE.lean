/-
  Walks. Written by program out of specs of mine.
-/
import Derived.Test.YtiabjbaegdgmmaaD
set_option linter.unusedSimpArgs false
set_option linter.unusedVariables false
namespace Go.Proofs.Ytiabjbaegdgmmaa
open Go Go.Vc Go.RowKit Go.Proofs

structure Tk where
  kind : Nat
  text : List UInt8
  n : Nat
  at_ : Nat
  fin : Nat
def tokV (t : Tk) : Array Value := #[.int .i64 (t.kind : Int), st t.text, .int .i64 (t.n : Int), .int .i64 (t.at_ : Int), .int .i64 (t.fin : Int)]
def sub (xs : List UInt8) (l h : Nat) : List UInt8 := (xs.take h).drop l
/-- the token that begins at a place; its error first -/
def oneL (xs : List UInt8) (k : Nat) (h : k < xs.length) : Nat × Tk :=
  if letB xs[k] then
    if 32 < runL goeB xs k - k then (52, ⟨1, [], 0, k, runL goeB xs k⟩) else (0, ⟨1, sub xs k (runL goeB xs k), 0, k, runL goeB xs k⟩)
  else if digB xs[k] then ((numL (sub xs k (runL digB xs k))).2, ⟨2, [], (numL (sub xs k (runL digB xs k))).1, k, runL digB xs k⟩)
  else if markB xs[k] then (0, ⟨3, sub xs k (k + 1), 0, k, k + 1⟩)
  else (50, ⟨0, [], 0, k, 0⟩)
theorem takeWhile_all (p : UInt8 → Bool) : ∀ (l : List UInt8), ∀ c ∈ l.takeWhile p, p c = true
  | [], c, h => by simp at h
  | a :: l, c, h => by
    by_cases ha : p a = true
    · rw [List.takeWhile_cons_of_pos ha] at h
      rcases List.mem_cons.1 h with rfl | h
      · exact ha
      · exact takeWhile_all p l c h
    · rw [List.takeWhile_cons_of_neg ha] at h; simp at h
theorem sub_run (p : UInt8 → Bool) (xs : List UInt8) (k : Nat) : sub xs k (runL p xs k) = (xs.drop k).takeWhile p := by
  unfold sub runL
  rw [List.drop_take, Nat.add_sub_cancel_left]
  have h : ∀ l : List UInt8, l.take (l.takeWhile p).length = l.takeWhile p := by
    intro l
    induction l with
    | nil => rfl
    | cons a l ih => by_cases ha : p a = true <;> simp [ha, ih]
  exact h _
theorem sub_len (xs : List UInt8) (l h : Nat) : (sub xs l h).length ≤ xs.length := by unfold sub; simp; omega

theorem token_spec (xs : List UInt8) (k : Nat) (hk : k < xs.length) (w0 : World) (hlen : xs.length ≤ 9223372036854775807) : Ca Try.prog 27 #[st xs, .int .i64 (k : Int)] w0 (fun v w' => v = .tuple #[.agg (tokV (oneL xs k hk).2), .int .i64 ((oneL xs k hk).1 : Int)] ∧ Ext w0 w') := by
  have hr1 := runL_le (p := goeB) (Nat.le_of_lt hk)
  have hr2 := runL_le (p := digB) (Nat.le_of_lt hk)
  have hmk := mark_idx xs[k]
  refine Ca.of Try.func27 Try.ntmps27 rfl rfl ?_
  refine W.seq ?_
  refine W.region ?_
  refine WL.c rfl (o_alB TI33 ?_)
  intro w4 hB4 hx4 hs4
  refine WL.c rfl (o_as ?_)
  refine WL.nil ?_
  refine W.seq ?_
  refine W.region ?_
  refine WL.c rfl (o_mv ?_)
  refine WL.c rfl (o_bldC (cs := [(.int .i64 0), (.string ⟨#[]⟩), (.int .i64 0), _, (.int .i64 0)]) TI33 (Sizes.cons TI3 (Sizes.cons TI9 (Sizes.cons TI3 (Sizes.cons TI3 (Sizes.cons TI3 Sizes.nil))))) rfl (lcp (show _ = Value.int _ _ from rfl) lnp) rfl rfl ?_)
  refine WL.c rfl (o_alB TI33 ?_)
  intro w6 hB6 hx6 hs6
  replace hB4 := hx6.blk hB4 (fun h => h)
  replace hx6 := hx4.tr hx6
  refine WL.u (o_stA TI33 rfl (show _ = Value.agg (tokV ⟨0, [], 0, k, 0⟩) from rfl) rfl rfl hB6 rfl ?_)
  intro w11 hC ho hs
  replace hB6 : w11.heap[w4.heap.size]? = some (.cells (tokV ⟨0, [], 0, k, 0⟩) 33 (0, 0)) := hC
  replace hB4 := ho.blk hB4 (by show ¬ _ = _; omega)
  replace hx6 := Ext.own hx6 (by omega) ho
  clear ho hC hs
  refine WL.nil ?_
  refine W.seq ?_
  refine W.region ?_
  refine WL.c rfl (o_mv ?_)
  refine WL.c rfl (o_mv ?_)
  refine WL.c rfl (o_idT TI9 rfl rfl (hk) ?_)
  refine WL.c rfl (o_as ?_)
  refine WL.nil ?_
  refine W.seq ?_
  refine W.block ?_
  refine W.seq ?_
  refine W.region ?_
  refine WL.c rfl (o_mv ?_)
  refine WL.c rfl (o_call Try.call21 (lc rfl ln) ((letter_spec xs[k] _).mono ?_))
  rintro v18 w18 ⟨rfl, rfl⟩
  refine WL.c rfl (o_as ?_)
  refine WL.nil ?_
  refine W.cond rfl (fun c16 => ?_) (fun c16 => ?_)
  · try simp only [decide_eq_true_eq, decide_eq_false_iff_not, Bool.not_eq_true', Bool.not_eq_false', Bool.and_eq_true, Bool.or_eq_true, Bool.and_eq_false_iff, Bool.or_eq_false_iff] at c16
    refine W.seq ?_
    refine W.region ?_
    refine WL.c rfl (o_fa 0 TI33 rfl TI3 rfl rfl ?_)
    refine WL.u (o_stB TI3 rfl (show _ = Value.int _ _ from rfl) rfl hB6 (show _ < 5 by decide) ?_)
    intro w19 hC ho hs
    replace hB6 : w19.heap[w4.heap.size]? = some (.cells (tokV ⟨1, [], 0, k, 0⟩) 33 (0, 0)) := hC
    replace hB4 := ho.blk hB4 (by show ¬ _ = _; omega)
    replace hx6 := Ext.own hx6 (by omega) ho
    clear ho hC hs
    refine WL.nil ?_
    refine W.seq ?_
    refine W.region ?_
    refine WL.c rfl (o_mv ?_)
    refine WL.c rfl (o_mv ?_)
    refine WL.c rfl (o_call Try.call22 (lc rfl (lc rfl (lc rfl ln))) ((run_spec goeB 23 xs k _ (by omega) hlen further_spec Try.call23).mono ?_))
    rintro v22 w22 ⟨rfl, rfl⟩
    refine WL.c rfl (o_fa 4 TI33 rfl TI3 rfl rfl ?_)
    refine WL.u (o_stB TI3 rfl (show _ = Value.int _ _ from rfl) rfl hB6 (show _ < 5 by decide) ?_)
    intro w23 hC ho hs
    replace hB6 : w23.heap[w4.heap.size]? = some (.cells (tokV ⟨1, [], 0, k, runL goeB xs k⟩) 33 (0, 0)) := hC
    replace hB4 := ho.blk hB4 (by show ¬ _ = _; omega)
    replace hx6 := Ext.own hx6 (by omega) ho
    clear ho hC hs
    refine WL.nil ?_
    refine W.seq ?_
    refine W.region ?_
    refine WL.c rfl (o_fa 4 TI33 rfl TI3 rfl rfl ?_)
    refine WL.c rfl (o_ld TI3 rfl rfl (cell_of hB6 rfl) ?_)
    refine WL.c rfl (o_mv ?_)
    refine WL.c rfl (o_subi rfl rfl (by dsimp only; omega) ?_)
    refine WL.c rfl (o_gt rfl rfl ?_)
    refine WL.nil ?_
    refine W.cond rfl (fun c28 => ?_) (fun c28 => ?_)
    · try simp only [decide_eq_true_eq, decide_eq_false_iff_not, Bool.not_eq_true', Bool.not_eq_false', Bool.and_eq_true, Bool.or_eq_true, Bool.and_eq_false_iff, Bool.or_eq_false_iff] at c28
      refine W.seq ?_
      refine W.region ?_
      refine WL.c rfl (o_ldA TI33 rfl rfl (cells_all hB6) rfl ?_)
      refine WL.u (o_stA TI33 rfl rfl rfl rfl hB4 rfl ?_)
      intro wE hE hoE hsE
      have hxE := Ext.own hx6 (by omega) hoE
      refine WL.c rfl (o_as ?_)
      refine WL.nil ?_
      refine W.ret ?_
      refine retCT rfl TI33 rfl (show _ = Value.int _ _ from rfl) rfl (cells_all hE) rfl ?_
      have ho : oneL xs k hk = (52, ⟨1, [], 0, k, runL goeB xs k⟩) := by unfold oneL; rw [if_pos c16, if_pos (by omega)]
      rw [ho]; exact ⟨rfl, hxE⟩
    · try simp only [decide_eq_true_eq, decide_eq_false_iff_not, Bool.not_eq_true', Bool.not_eq_false', Bool.and_eq_true, Bool.or_eq_true, Bool.and_eq_false_iff, Bool.or_eq_false_iff] at c28
      refine W.skip ?_
      refine W.seq ?_
      refine W.region ?_
      refine WL.c rfl (o_mv ?_)
      refine WL.c rfl (o_mv ?_)
      refine WL.c rfl (o_fa 4 TI33 rfl TI3 rfl rfl ?_)
      refine WL.c rfl (o_ld TI3 rfl rfl (cell_of hB6 rfl) ?_)
      refine WL.c rfl (o_ssT TI9 rfl (Lo.s rfl) (Hi.s rfl) (by first | (show k ≤ runL goeB xs k; omega) | (show k ≤ k + 1; omega)) (by first | (show runL goeB xs k ≤ _; omega) | (show k + 1 ≤ _; omega)) ?_)
      refine WL.c rfl (o_fa 1 TI33 rfl TI9 rfl rfl ?_)
      refine WL.u (o_stB TI9 rfl (show _ = Value.string _ from rfl) rfl hB6 (show _ < 5 by decide) ?_)
      intro w64 hC ho hs
      first
      | replace hB6 : w64.heap[w4.heap.size]? = some (.cells (tokV ⟨1, sub xs k (runL goeB xs k), 0, k, runL goeB xs k⟩) 33 (0, 0)) := hC
      | replace hB6 : w64.heap[w4.heap.size]? = some (.cells (tokV ⟨3, sub xs k (k + 1), 0, k, k + 1⟩) 33 (0, 0)) := hC
      replace hB4 := ho.blk hB4 (by show ¬ _ = _; omega)
      replace hx6 := Ext.own hx6 (by omega) ho
      clear ho hC hs
      refine WL.nil ?_
      refine W.seq ?_
      refine W.region ?_
      refine WL.c rfl (o_ldA TI33 rfl rfl (cells_all hB6) rfl ?_)
      refine WL.u (o_stA TI33 rfl rfl rfl rfl hB4 rfl ?_)
      intro wE hE hoE hsE
      have hxE := Ext.own hx6 (by omega) hoE
      refine WL.c rfl (o_as ?_)
      refine WL.nil ?_
      refine W.ret ?_
      refine retCT rfl TI33 rfl (show _ = Value.int _ _ from rfl) rfl (cells_all hE) rfl ?_
      first
      | (have ho : oneL xs k hk = (0, ⟨1, sub xs k (runL goeB xs k), 0, k, runL goeB xs k⟩) := by unfold oneL; rw [if_pos c16, if_neg (by omega)]
         rw [ho]; exact ⟨rfl, hxE⟩)
      | (have ho : oneL xs k hk = (0, ⟨3, sub xs k (k + 1), 0, k, k + 1⟩) := by unfold oneL; rw [if_neg (by simp [c16]), if_neg (by simp [c30]), if_pos (by rw [← hmk]; simp; omega)]
         rw [ho]; exact ⟨rfl, hxE⟩)
  · try simp only [decide_eq_true_eq, decide_eq_false_iff_not, Bool.not_eq_true', Bool.not_eq_false', Bool.and_eq_true, Bool.or_eq_true, Bool.and_eq_false_iff, Bool.or_eq_false_iff] at c16
    refine W.seq ?_
    refine W.region ?_
    refine WL.c rfl (o_mv ?_)
    refine WL.c rfl (o_call Try.call30 (lc rfl ln) ((digit_spec xs[k] _).mono ?_))
    rintro v32 w32 ⟨rfl, rfl⟩
    refine WL.c rfl (o_as ?_)
    refine WL.nil ?_
    refine W.cond rfl (fun c30 => ?_) (fun c30 => ?_)
    · try simp only [decide_eq_true_eq, decide_eq_false_iff_not, Bool.not_eq_true', Bool.not_eq_false', Bool.and_eq_true, Bool.or_eq_true, Bool.and_eq_false_iff, Bool.or_eq_false_iff] at c30
      refine W.seq ?_
      refine W.region ?_
      refine WL.c rfl (o_fa 0 TI33 rfl TI3 rfl rfl ?_)
      refine WL.u (o_stB TI3 rfl (show _ = Value.int _ _ from rfl) rfl hB6 (show _ < 5 by decide) ?_)
      intro w33 hC ho hs
      replace hB6 : w33.heap[w4.heap.size]? = some (.cells (tokV ⟨2, [], 0, k, 0⟩) 33 (0, 0)) := hC
      replace hB4 := ho.blk hB4 (by show ¬ _ = _; omega)
      replace hx6 := Ext.own hx6 (by omega) ho
      clear ho hC hs
      refine WL.nil ?_
      refine W.seq ?_
      refine W.region ?_
      refine WL.c rfl (o_mv ?_)
      refine WL.c rfl (o_mv ?_)
      refine WL.c rfl (o_call Try.call22 (lc rfl (lc rfl (lc rfl ln))) ((run_spec digB 30 xs k _ (by omega) hlen digit_spec Try.call30).mono ?_))
      rintro v36 w36 ⟨rfl, rfl⟩
      refine WL.c rfl (o_fa 4 TI33 rfl TI3 rfl rfl ?_)
      refine WL.u (o_stB TI3 rfl (show _ = Value.int _ _ from rfl) rfl hB6 (show _ < 5 by decide) ?_)
      intro w37 hC ho hs
      replace hB6 : w37.heap[w4.heap.size]? = some (.cells (tokV ⟨2, [], 0, k, runL digB xs k⟩) 33 (0, 0)) := hC
      replace hB4 := ho.blk hB4 (by show ¬ _ = _; omega)
      replace hx6 := Ext.own hx6 (by omega) ho
      clear ho hC hs
      refine WL.nil ?_
      refine W.seq ?_
      refine W.region ?_
      refine WL.c rfl (o_mv ?_)
      refine WL.c rfl (o_mv ?_)
      refine WL.c rfl (o_fa 4 TI33 rfl TI3 rfl rfl ?_)
      refine WL.c rfl (o_ld TI3 rfl rfl (cell_of hB6 rfl) ?_)
      refine WL.c rfl (o_ssT TI9 rfl (Lo.s rfl) (Hi.s rfl) (by show k ≤ runL digB xs k; omega) (by show runL digB xs k ≤ _; omega) ?_)
      refine WL.c rfl (o_call Try.call32 (lc rfl ln) ((number_spec (sub xs k (runL digB xs k)) _ (by have := sub_len xs k (runL digB xs k); omega) (by rw [sub_run]; exact takeWhile_all digB _)).mono ?_))
      rintro v44 w44 ⟨rfl, rfl⟩
      refine WL.c rfl (o_mv ?_)
      refine WL.c rfl (o_ext rfl rfl ?_)
      refine WL.c rfl (o_ext rfl rfl ?_)
      refine WL.c rfl (o_as ?_)
      refine WL.c rfl (o_as ?_)
      refine WL.nil ?_
      refine W.seq ?_
      refine W.region ?_
      refine WL.c rfl (o_mv ?_)
      refine WL.c rfl (o_fa 2 TI33 rfl TI3 rfl rfl ?_)
      refine WL.u (o_stB TI3 rfl (show _ = Value.int _ _ from rfl) rfl hB6 (show _ < 5 by decide) ?_)
      intro w48 hC ho hs
      replace hB6 : w48.heap[w4.heap.size]? = some (.cells (tokV ⟨2, [], (numL (sub xs k (runL digB xs k))).1, k, runL digB xs k⟩) 33 (0, 0)) := hC
      replace hB4 := ho.blk hB4 (by show ¬ _ = _; omega)
      replace hx6 := Ext.own hx6 (by omega) ho
      clear ho hC hs
      refine WL.nil ?_
      refine W.seq ?_
      refine W.region ?_
      refine WL.c rfl (o_ldA TI33 rfl rfl (cells_all hB6) rfl ?_)
      refine WL.c rfl (o_mv ?_)
      refine WL.u (o_stA TI33 rfl rfl rfl rfl hB4 rfl ?_)
      intro wE hE hoE hsE
      have hxE := Ext.own hx6 (by omega) hoE
      refine WL.c rfl (o_as ?_)
      refine WL.nil ?_
      refine W.ret ?_
      refine retCT rfl TI33 rfl (show _ = Value.int _ _ from rfl) rfl (cells_all hE) rfl ?_
      have ho : oneL xs k hk = ((numL (sub xs k (runL digB xs k))).2, ⟨2, [], (numL (sub xs k (runL digB xs k))).1, k, runL digB xs k⟩) := by unfold oneL; rw [if_neg (by simp [c16]), if_pos c30]
      rw [ho]; exact ⟨rfl, hxE⟩
    · try simp only [decide_eq_true_eq, decide_eq_false_iff_not, Bool.not_eq_true', Bool.not_eq_false', Bool.and_eq_true, Bool.or_eq_true, Bool.and_eq_false_iff, Bool.or_eq_false_iff] at c30
      refine W.seq ?_
      refine W.region ?_
      refine WL.c rfl (o_mv ?_)
      refine WL.c rfl (o_call Try.call33 (lc rfl (lc rfl ln)) ((idx_spec marks xs[k] _).mono ?_))
      rintro v53 w53 ⟨rfl, rfl⟩
      refine WL.c rfl (o_ge rfl rfl ?_)
      refine WL.c rfl (o_as ?_)
      refine WL.nil ?_
      refine W.cond rfl (fun c51 => ?_) (fun c51 => ?_)
      · try simp only [decide_eq_true_eq, decide_eq_false_iff_not, Bool.not_eq_true', Bool.not_eq_false', Bool.and_eq_true, Bool.or_eq_true, Bool.and_eq_false_iff, Bool.or_eq_false_iff] at c51
        refine W.seq ?_
        refine W.region ?_
        refine WL.c rfl (o_fa 0 TI33 rfl TI3 rfl rfl ?_)
        refine WL.u (o_stB TI3 rfl (show _ = Value.int _ _ from rfl) rfl hB6 (show _ < 5 by decide) ?_)
        intro w55 hC ho hs
        replace hB6 : w55.heap[w4.heap.size]? = some (.cells (tokV ⟨3, [], 0, k, 0⟩) 33 (0, 0)) := hC
        replace hB4 := ho.blk hB4 (by show ¬ _ = _; omega)
        replace hx6 := Ext.own hx6 (by omega) ho
        clear ho hC hs
        refine WL.nil ?_
        refine W.region ?_
        refine WL.c rfl (o_mv ?_)
        refine WL.c rfl (o_addi rfl rfl (by omega) ?_)
        refine WL.c rfl (o_fa 4 TI33 rfl TI3 rfl rfl ?_)
        refine WL.u (o_stB TI3 rfl (show _ = Value.int _ _ from rfl) rfl hB6 (show _ < 5 by decide) ?_)
        intro w58 hC ho hs
        replace hB6 : w58.heap[w4.heap.size]? = some (.cells (tokV ⟨3, [], 0, k, k + 1⟩) 33 (0, 0)) := hC
        replace hB4 := ho.blk hB4 (by show ¬ _ = _; omega)
        replace hx6 := Ext.own hx6 (by omega) ho
        clear ho hC hs
        refine WL.nil ?_
        refine W.seq ?_
        refine W.region ?_
        refine WL.c rfl (o_mv ?_)
        refine WL.c rfl (o_mv ?_)
        refine WL.c rfl (o_fa 4 TI33 rfl TI3 rfl rfl ?_)
        refine WL.c rfl (o_ld TI3 rfl rfl (cell_of hB6 rfl) ?_)
        refine WL.c rfl (o_ssT TI9 rfl (Lo.s rfl) (Hi.s rfl) (by first | (show k ≤ runL goeB xs k; omega) | (show k ≤ k + 1; omega)) (by first | (show runL goeB xs k ≤ _; omega) | (show k + 1 ≤ _; omega)) ?_)
        refine WL.c rfl (o_fa 1 TI33 rfl TI9 rfl rfl ?_)
        refine WL.u (o_stB TI9 rfl (show _ = Value.string _ from rfl) rfl hB6 (show _ < 5 by decide) ?_)
        intro w64 hC ho hs
        first
        | replace hB6 : w64.heap[w4.heap.size]? = some (.cells (tokV ⟨1, sub xs k (runL goeB xs k), 0, k, runL goeB xs k⟩) 33 (0, 0)) := hC
        | replace hB6 : w64.heap[w4.heap.size]? = some (.cells (tokV ⟨3, sub xs k (k + 1), 0, k, k + 1⟩) 33 (0, 0)) := hC
        replace hB4 := ho.blk hB4 (by show ¬ _ = _; omega)
        replace hx6 := Ext.own hx6 (by omega) ho
        clear ho hC hs
        refine WL.nil ?_
        refine W.seq ?_
        refine W.region ?_
        refine WL.c rfl (o_ldA TI33 rfl rfl (cells_all hB6) rfl ?_)
        refine WL.u (o_stA TI33 rfl rfl rfl rfl hB4 rfl ?_)
        intro wE hE hoE hsE
        have hxE := Ext.own hx6 (by omega) hoE
        refine WL.c rfl (o_as ?_)
        refine WL.nil ?_
        refine W.ret ?_
        refine retCT rfl TI33 rfl (show _ = Value.int _ _ from rfl) rfl (cells_all hE) rfl ?_
        first
        | (have ho : oneL xs k hk = (0, ⟨1, sub xs k (runL goeB xs k), 0, k, runL goeB xs k⟩) := by unfold oneL; rw [if_pos c16, if_neg (by omega)]
           rw [ho]; exact ⟨rfl, hxE⟩)
        | (have ho : oneL xs k hk = (0, ⟨3, sub xs k (k + 1), 0, k, k + 1⟩) := by unfold oneL; rw [if_neg (by simp [c16]), if_neg (by simp [c30]), if_pos (by rw [← hmk]; simp; omega)]
           rw [ho]; exact ⟨rfl, hxE⟩)
      · try simp only [decide_eq_true_eq, decide_eq_false_iff_not, Bool.not_eq_true', Bool.not_eq_false', Bool.and_eq_true, Bool.or_eq_true, Bool.and_eq_false_iff, Bool.or_eq_false_iff] at c51
        refine W.seq ?_
        refine W.region ?_
        refine WL.c rfl (o_ldA TI33 rfl rfl (cells_all hB6) rfl ?_)
        refine WL.u (o_stA TI33 rfl rfl rfl rfl hB4 rfl ?_)
        intro wE hE hoE hsE
        have hxE := Ext.own hx6 (by omega) hoE
        refine WL.c rfl (o_as ?_)
        refine WL.nil ?_
        refine W.ret ?_
        refine retCT rfl TI33 rfl (show _ = Value.int _ _ from rfl) rfl (cells_all hE) rfl ?_
        have ho : oneL xs k hk = (50, ⟨0, [], 0, k, 0⟩) := by unfold oneL; rw [if_neg (by simp [c16]), if_neg (by simp [c30]), if_neg (by rw [← hmk]; simp; omega)]
        rw [ho]; exact ⟨rfl, hxE⟩
end Go.Proofs.Ytiabjbaegdgmmaa
