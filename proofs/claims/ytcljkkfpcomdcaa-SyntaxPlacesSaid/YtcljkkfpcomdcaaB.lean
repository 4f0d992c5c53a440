/-
  Walks. Written by program out of specs of mine.
-/
import Derived.Test.YtcljkkfpcomdcaaA
set_option linter.unusedSimpArgs false
set_option linter.unusedVariables false
set_option maxRecDepth 100000
namespace Go.Proofs.Ytcljkkfpcomdcaa
open Go Go.Vc Go.RowKit Go.Proofs

structure Tk where
  kind : Nat
  text : List UInt8
  n : Nat
  at_ : Nat
  fin : Nat
def tokV (t : Tk) : Array Value := #[.int .i64 (t.kind : Int), st t.text, .int .i64 (t.n : Int), .int .i64 (t.at_ : Int), .int .i64 (t.fin : Int)]
def sub (xs : List UInt8) (l h : Nat) : List UInt8 := (xs.take h).drop l
/-- the token that begins at a place; its error first -/
def oneL (xs : List UInt8) (k : Nat) (h : k < xs.length) : Nat × Tk :=
  if letB xs[k] then
    if 32 < runL goeB xs k - k then (52, ⟨1, [], 0, k, runL goeB xs k⟩) else (0, ⟨1, sub xs k (runL goeB xs k), 0, k, runL goeB xs k⟩)
  else if digB xs[k] then ((numL (sub xs k (runL digB xs k))).2, ⟨2, [], (numL (sub xs k (runL digB xs k))).1, k, runL digB xs k⟩)
  else if markB xs[k] then (0, ⟨3, sub xs k (k + 1), 0, k, k + 1⟩)
  else (50, ⟨0, [], 0, k, 0⟩)
theorem takeWhile_all (p : UInt8 → Bool) : ∀ (l : List UInt8), ∀ c ∈ l.takeWhile p, p c = true
  | [], c, h => by simp at h
  | a :: l, c, h => by
    by_cases ha : p a = true
    · rw [List.takeWhile_cons_of_pos ha] at h
      rcases List.mem_cons.1 h with rfl | h
      · exact ha
      · exact takeWhile_all p l c h
    · rw [List.takeWhile_cons_of_neg ha] at h; simp at h
theorem sub_run (p : UInt8 → Bool) (xs : List UInt8) (k : Nat) : sub xs k (runL p xs k) = (xs.drop k).takeWhile p := by
  unfold sub runL
  rw [List.drop_take, Nat.add_sub_cancel_left]
  have h : ∀ l : List UInt8, l.take (l.takeWhile p).length = l.takeWhile p := by
    intro l
    induction l with
    | nil => rfl
    | cons a l ih => by_cases ha : p a = true <;> simp [ha, ih]
  exact h _
theorem sub_len (xs : List UInt8) (l h : Nat) : (sub xs l h).length ≤ xs.length := by unfold sub; simp; omega

theorem token_spec (xs : List UInt8) (k : Nat) (hk : k < xs.length) (w0 : World) (hlen : xs.length ≤ 9223372036854775807) : Ca Try.prog 40 #[st xs, .int .i64 (k : Int)] w0 (fun v w' => v = .tuple #[.agg (tokV (oneL xs k hk).2), .int .i64 ((oneL xs k hk).1 : Int)] ∧ Ext w0 w') := by
  have hr1 := runL_le (p := goeB) (Nat.le_of_lt hk)
  have hr2 := runL_le (p := digB) (Nat.le_of_lt hk)
  have hmk := mark_idx xs[k]
  refine Ca.of Try.func40 Try.ntmps40 rfl rfl ?_
  refine W.seq ?_
  refine W.region ?_
  refine WL.c rfl (o_alB TI58 ?_)
  intro w4 hB4 hx4 hs4
  refine WL.c rfl (o_as ?_)
  refine WL.nil ?_
  refine W.seq ?_
  refine W.region ?_
  refine WL.c rfl (o_mv ?_)
  refine WL.c rfl (o_bldC (cs := [(.int .i64 0), (.string ⟨#[]⟩), (.int .i64 0), _, (.int .i64 0)]) TI58 (Sizes.cons TI3 (Sizes.cons TI9 (Sizes.cons TI3 (Sizes.cons TI3 (Sizes.cons TI3 Sizes.nil))))) rfl (lcp (show _ = Value.int _ _ from rfl) lnp) rfl rfl ?_)
  refine WL.c rfl (o_alB TI58 ?_)
  intro w6 hB6 hx6 hs6
  replace hB4 := hx6.blk hB4 (fun h => h)
  replace hx6 := hx4.tr hx6
  refine WL.u (o_stA TI58 rfl (show _ = Value.agg (tokV ⟨0, [], 0, k, 0⟩) from rfl) rfl rfl hB6 rfl ?_)
  intro w11 hC ho hs
  replace hB6 : w11.heap[w4.heap.size]? = some (.cells (tokV ⟨0, [], 0, k, 0⟩) 58 (0, 0)) := hC
  replace hB4 := ho.blk hB4 (by show ¬ _ = _; omega)
  replace hx6 := Ext.own hx6 (by omega) ho
  clear ho hC hs
  refine WL.nil ?_
  refine W.seq ?_
  refine W.region ?_
  refine WL.c rfl (o_mv ?_)
  refine WL.c rfl (o_mv ?_)
  refine WL.c rfl (o_idT TI9 rfl rfl (hk) ?_)
  refine WL.c rfl (o_as ?_)
  refine WL.nil ?_
  refine W.seq ?_
  refine W.block ?_
  refine W.seq ?_
  refine W.region ?_
  refine WL.c rfl (o_mv ?_)
  refine WL.c rfl (o_call Try.call45 (lc rfl ln) ((letter_spec xs[k] _).mono ?_))
  rintro v18 w18 ⟨rfl, rfl⟩
  refine WL.c rfl (o_as ?_)
  refine WL.nil ?_
  refine W.cond rfl (fun c16 => ?_) (fun c16 => ?_)
  · try simp only [decide_eq_true_eq, decide_eq_false_iff_not, Bool.not_eq_true', Bool.not_eq_false', Bool.and_eq_true, Bool.or_eq_true, Bool.and_eq_false_iff, Bool.or_eq_false_iff] at c16
    refine W.seq ?_
    refine W.region ?_
    refine WL.c rfl (o_fa 0 TI58 rfl TI3 rfl rfl ?_)
    refine WL.u (o_stB TI3 rfl (show _ = Value.int _ _ from rfl) rfl hB6 (show _ < 5 by decide) ?_)
    intro w19 hC ho hs
    replace hB6 : w19.heap[w4.heap.size]? = some (.cells (tokV ⟨1, [], 0, k, 0⟩) 58 (0, 0)) := hC
    replace hB4 := ho.blk hB4 (by show ¬ _ = _; omega)
    replace hx6 := Ext.own hx6 (by omega) ho
    clear ho hC hs
    refine WL.nil ?_
    refine W.seq ?_
    refine W.region ?_
    refine WL.c rfl (o_mv ?_)
    refine WL.c rfl (o_mv ?_)
    refine WL.c rfl (o_call Try.call38 (lc rfl (lc rfl (lc rfl ln))) ((run_spec goeB 46 xs k _ (by omega) hlen further_spec Try.call46).mono ?_))
    rintro v22 w22 ⟨rfl, rfl⟩
    refine WL.c rfl (o_fa 4 TI58 rfl TI3 rfl rfl ?_)
    refine WL.u (o_stB TI3 rfl (show _ = Value.int _ _ from rfl) rfl hB6 (show _ < 5 by decide) ?_)
    intro w23 hC ho hs
    replace hB6 : w23.heap[w4.heap.size]? = some (.cells (tokV ⟨1, [], 0, k, runL goeB xs k⟩) 58 (0, 0)) := hC
    replace hB4 := ho.blk hB4 (by show ¬ _ = _; omega)
    replace hx6 := Ext.own hx6 (by omega) ho
    clear ho hC hs
    refine WL.nil ?_
    refine W.seq ?_
    refine W.region ?_
    refine WL.c rfl (o_fa 4 TI58 rfl TI3 rfl rfl ?_)
    refine WL.c rfl (o_ld TI3 rfl rfl (cell_of hB6 rfl) ?_)
    refine WL.c rfl (o_mv ?_)
    refine WL.c rfl (o_subi rfl rfl (by dsimp only; omega) ?_)
    refine WL.c rfl (o_gt rfl rfl ?_)
    refine WL.nil ?_
    refine W.cond rfl (fun c28 => ?_) (fun c28 => ?_)
    · try simp only [decide_eq_true_eq, decide_eq_false_iff_not, Bool.not_eq_true', Bool.not_eq_false', Bool.and_eq_true, Bool.or_eq_true, Bool.and_eq_false_iff, Bool.or_eq_false_iff] at c28
      refine W.seq ?_
      refine W.region ?_
      refine WL.c rfl (o_ldA TI58 rfl rfl (cells_all hB6) rfl ?_)
      refine WL.u (o_stA TI58 rfl rfl rfl rfl hB4 rfl ?_)
      intro wE hE hoE hsE
      have hxE := Ext.own hx6 (by omega) hoE
      refine WL.c rfl (o_as ?_)
      refine WL.nil ?_
      refine W.ret ?_
      refine retCT rfl TI58 rfl (show _ = Value.int _ _ from rfl) rfl (cells_all hE) rfl ?_
      have ho : oneL xs k hk = (52, ⟨1, [], 0, k, runL goeB xs k⟩) := by unfold oneL; rw [if_pos c16, if_pos (by omega)]
      rw [ho]; exact ⟨rfl, hxE⟩
    · try simp only [decide_eq_true_eq, decide_eq_false_iff_not, Bool.not_eq_true', Bool.not_eq_false', Bool.and_eq_true, Bool.or_eq_true, Bool.and_eq_false_iff, Bool.or_eq_false_iff] at c28
      refine W.skip ?_
      refine W.seq ?_
      refine W.region ?_
      refine WL.c rfl (o_mv ?_)
      refine WL.c rfl (o_mv ?_)
      refine WL.c rfl (o_fa 4 TI58 rfl TI3 rfl rfl ?_)
      refine WL.c rfl (o_ld TI3 rfl rfl (cell_of hB6 rfl) ?_)
      refine WL.c rfl (o_ssT TI9 rfl (Lo.s rfl) (Hi.s rfl) (by first | (show k ≤ runL goeB xs k; omega) | (show k ≤ k + 1; omega)) (by first | (show runL goeB xs k ≤ _; omega) | (show k + 1 ≤ _; omega)) ?_)
      refine WL.c rfl (o_fa 1 TI58 rfl TI9 rfl rfl ?_)
      refine WL.u (o_stB TI9 rfl (show _ = Value.string _ from rfl) rfl hB6 (show _ < 5 by decide) ?_)
      intro w64 hC ho hs
      first
      | replace hB6 : w64.heap[w4.heap.size]? = some (.cells (tokV ⟨1, sub xs k (runL goeB xs k), 0, k, runL goeB xs k⟩) 58 (0, 0)) := hC
      | replace hB6 : w64.heap[w4.heap.size]? = some (.cells (tokV ⟨3, sub xs k (k + 1), 0, k, k + 1⟩) 58 (0, 0)) := hC
      replace hB4 := ho.blk hB4 (by show ¬ _ = _; omega)
      replace hx6 := Ext.own hx6 (by omega) ho
      clear ho hC hs
      refine WL.nil ?_
      refine W.seq ?_
      refine W.region ?_
      refine WL.c rfl (o_ldA TI58 rfl rfl (cells_all hB6) rfl ?_)
      refine WL.u (o_stA TI58 rfl rfl rfl rfl hB4 rfl ?_)
      intro wE hE hoE hsE
      have hxE := Ext.own hx6 (by omega) hoE
      refine WL.c rfl (o_as ?_)
      refine WL.nil ?_
      refine W.ret ?_
      refine retCT rfl TI58 rfl (show _ = Value.int _ _ from rfl) rfl (cells_all hE) rfl ?_
      first
      | (have ho : oneL xs k hk = (0, ⟨1, sub xs k (runL goeB xs k), 0, k, runL goeB xs k⟩) := by unfold oneL; rw [if_pos c16, if_neg (by omega)]
         rw [ho]; exact ⟨rfl, hxE⟩)
      | (have ho : oneL xs k hk = (0, ⟨3, sub xs k (k + 1), 0, k, k + 1⟩) := by unfold oneL; rw [if_neg (by simp [c16]), if_neg (by simp [c30]), if_pos (by rw [← hmk]; simp; omega)]
         rw [ho]; exact ⟨rfl, hxE⟩)
  · try simp only [decide_eq_true_eq, decide_eq_false_iff_not, Bool.not_eq_true', Bool.not_eq_false', Bool.and_eq_true, Bool.or_eq_true, Bool.and_eq_false_iff, Bool.or_eq_false_iff] at c16
    refine W.seq ?_
    refine W.region ?_
    refine WL.c rfl (o_mv ?_)
    refine WL.c rfl (o_call Try.call62 (lc rfl ln) ((digit_spec xs[k] _).mono ?_))
    rintro v32 w32 ⟨rfl, rfl⟩
    refine WL.c rfl (o_as ?_)
    refine WL.nil ?_
    refine W.cond rfl (fun c30 => ?_) (fun c30 => ?_)
    · try simp only [decide_eq_true_eq, decide_eq_false_iff_not, Bool.not_eq_true', Bool.not_eq_false', Bool.and_eq_true, Bool.or_eq_true, Bool.and_eq_false_iff, Bool.or_eq_false_iff] at c30
      refine W.seq ?_
      refine W.region ?_
      refine WL.c rfl (o_fa 0 TI58 rfl TI3 rfl rfl ?_)
      refine WL.u (o_stB TI3 rfl (show _ = Value.int _ _ from rfl) rfl hB6 (show _ < 5 by decide) ?_)
      intro w33 hC ho hs
      replace hB6 : w33.heap[w4.heap.size]? = some (.cells (tokV ⟨2, [], 0, k, 0⟩) 58 (0, 0)) := hC
      replace hB4 := ho.blk hB4 (by show ¬ _ = _; omega)
      replace hx6 := Ext.own hx6 (by omega) ho
      clear ho hC hs
      refine WL.nil ?_
      refine W.seq ?_
      refine W.region ?_
      refine WL.c rfl (o_mv ?_)
      refine WL.c rfl (o_mv ?_)
      refine WL.c rfl (o_call Try.call38 (lc rfl (lc rfl (lc rfl ln))) ((run_spec digB 62 xs k _ (by omega) hlen digit_spec Try.call62).mono ?_))
      rintro v36 w36 ⟨rfl, rfl⟩
      refine WL.c rfl (o_fa 4 TI58 rfl TI3 rfl rfl ?_)
      refine WL.u (o_stB TI3 rfl (show _ = Value.int _ _ from rfl) rfl hB6 (show _ < 5 by decide) ?_)
      intro w37 hC ho hs
      replace hB6 : w37.heap[w4.heap.size]? = some (.cells (tokV ⟨2, [], 0, k, runL digB xs k⟩) 58 (0, 0)) := hC
      replace hB4 := ho.blk hB4 (by show ¬ _ = _; omega)
      replace hx6 := Ext.own hx6 (by omega) ho
      clear ho hC hs
      refine WL.nil ?_
      refine W.seq ?_
      refine W.region ?_
      refine WL.c rfl (o_mv ?_)
      refine WL.c rfl (o_mv ?_)
      refine WL.c rfl (o_fa 4 TI58 rfl TI3 rfl rfl ?_)
      refine WL.c rfl (o_ld TI3 rfl rfl (cell_of hB6 rfl) ?_)
      refine WL.c rfl (o_ssT TI9 rfl (Lo.s rfl) (Hi.s rfl) (by show k ≤ runL digB xs k; omega) (by show runL digB xs k ≤ _; omega) ?_)
      refine WL.c rfl (o_call Try.call63 (lc rfl ln) ((number_spec (sub xs k (runL digB xs k)) _ (by have := sub_len xs k (runL digB xs k); omega) (by rw [sub_run]; exact takeWhile_all digB _)).mono ?_))
      rintro v44 w44 ⟨rfl, rfl⟩
      refine WL.c rfl (o_mv ?_)
      refine WL.c rfl (o_ext rfl rfl ?_)
      refine WL.c rfl (o_ext rfl rfl ?_)
      refine WL.c rfl (o_as ?_)
      refine WL.c rfl (o_as ?_)
      refine WL.nil ?_
      refine W.seq ?_
      refine W.region ?_
      refine WL.c rfl (o_mv ?_)
      refine WL.c rfl (o_fa 2 TI58 rfl TI3 rfl rfl ?_)
      refine WL.u (o_stB TI3 rfl (show _ = Value.int _ _ from rfl) rfl hB6 (show _ < 5 by decide) ?_)
      intro w48 hC ho hs
      replace hB6 : w48.heap[w4.heap.size]? = some (.cells (tokV ⟨2, [], (numL (sub xs k (runL digB xs k))).1, k, runL digB xs k⟩) 58 (0, 0)) := hC
      replace hB4 := ho.blk hB4 (by show ¬ _ = _; omega)
      replace hx6 := Ext.own hx6 (by omega) ho
      clear ho hC hs
      refine WL.nil ?_
      refine W.seq ?_
      refine W.region ?_
      refine WL.c rfl (o_ldA TI58 rfl rfl (cells_all hB6) rfl ?_)
      refine WL.c rfl (o_mv ?_)
      refine WL.u (o_stA TI58 rfl rfl rfl rfl hB4 rfl ?_)
      intro wE hE hoE hsE
      have hxE := Ext.own hx6 (by omega) hoE
      refine WL.c rfl (o_as ?_)
      refine WL.nil ?_
      refine W.ret ?_
      refine retCT rfl TI58 rfl (show _ = Value.int _ _ from rfl) rfl (cells_all hE) rfl ?_
      have ho : oneL xs k hk = ((numL (sub xs k (runL digB xs k))).2, ⟨2, [], (numL (sub xs k (runL digB xs k))).1, k, runL digB xs k⟩) := by unfold oneL; rw [if_neg (by simp [c16]), if_pos c30]
      rw [ho]; exact ⟨rfl, hxE⟩
    · try simp only [decide_eq_true_eq, decide_eq_false_iff_not, Bool.not_eq_true', Bool.not_eq_false', Bool.and_eq_true, Bool.or_eq_true, Bool.and_eq_false_iff, Bool.or_eq_false_iff] at c30
      refine W.seq ?_
      refine W.region ?_
      refine WL.c rfl (o_mv ?_)
      refine WL.c rfl (o_call Try.call64 (lc rfl (lc rfl ln)) ((idx_spec marks xs[k] _).mono ?_))
      rintro v53 w53 ⟨rfl, rfl⟩
      refine WL.c rfl (o_ge rfl rfl ?_)
      refine WL.c rfl (o_as ?_)
      refine WL.nil ?_
      refine W.cond rfl (fun c51 => ?_) (fun c51 => ?_)
      · try simp only [decide_eq_true_eq, decide_eq_false_iff_not, Bool.not_eq_true', Bool.not_eq_false', Bool.and_eq_true, Bool.or_eq_true, Bool.and_eq_false_iff, Bool.or_eq_false_iff] at c51
        refine W.seq ?_
        refine W.region ?_
        refine WL.c rfl (o_fa 0 TI58 rfl TI3 rfl rfl ?_)
        refine WL.u (o_stB TI3 rfl (show _ = Value.int _ _ from rfl) rfl hB6 (show _ < 5 by decide) ?_)
        intro w55 hC ho hs
        replace hB6 : w55.heap[w4.heap.size]? = some (.cells (tokV ⟨3, [], 0, k, 0⟩) 58 (0, 0)) := hC
        replace hB4 := ho.blk hB4 (by show ¬ _ = _; omega)
        replace hx6 := Ext.own hx6 (by omega) ho
        clear ho hC hs
        refine WL.nil ?_
        refine W.region ?_
        refine WL.c rfl (o_mv ?_)
        refine WL.c rfl (o_addi rfl rfl (by omega) ?_)
        refine WL.c rfl (o_fa 4 TI58 rfl TI3 rfl rfl ?_)
        refine WL.u (o_stB TI3 rfl (show _ = Value.int _ _ from rfl) rfl hB6 (show _ < 5 by decide) ?_)
        intro w58 hC ho hs
        replace hB6 : w58.heap[w4.heap.size]? = some (.cells (tokV ⟨3, [], 0, k, k + 1⟩) 58 (0, 0)) := hC
        replace hB4 := ho.blk hB4 (by show ¬ _ = _; omega)
        replace hx6 := Ext.own hx6 (by omega) ho
        clear ho hC hs
        refine WL.nil ?_
        refine W.seq ?_
        refine W.region ?_
        refine WL.c rfl (o_mv ?_)
        refine WL.c rfl (o_mv ?_)
        refine WL.c rfl (o_fa 4 TI58 rfl TI3 rfl rfl ?_)
        refine WL.c rfl (o_ld TI3 rfl rfl (cell_of hB6 rfl) ?_)
        refine WL.c rfl (o_ssT TI9 rfl (Lo.s rfl) (Hi.s rfl) (by first | (show k ≤ runL goeB xs k; omega) | (show k ≤ k + 1; omega)) (by first | (show runL goeB xs k ≤ _; omega) | (show k + 1 ≤ _; omega)) ?_)
        refine WL.c rfl (o_fa 1 TI58 rfl TI9 rfl rfl ?_)
        refine WL.u (o_stB TI9 rfl (show _ = Value.string _ from rfl) rfl hB6 (show _ < 5 by decide) ?_)
        intro w64 hC ho hs
        first
        | replace hB6 : w64.heap[w4.heap.size]? = some (.cells (tokV ⟨1, sub xs k (runL goeB xs k), 0, k, runL goeB xs k⟩) 58 (0, 0)) := hC
        | replace hB6 : w64.heap[w4.heap.size]? = some (.cells (tokV ⟨3, sub xs k (k + 1), 0, k, k + 1⟩) 58 (0, 0)) := hC
        replace hB4 := ho.blk hB4 (by show ¬ _ = _; omega)
        replace hx6 := Ext.own hx6 (by omega) ho
        clear ho hC hs
        refine WL.nil ?_
        refine W.seq ?_
        refine W.region ?_
        refine WL.c rfl (o_ldA TI58 rfl rfl (cells_all hB6) rfl ?_)
        refine WL.u (o_stA TI58 rfl rfl rfl rfl hB4 rfl ?_)
        intro wE hE hoE hsE
        have hxE := Ext.own hx6 (by omega) hoE
        refine WL.c rfl (o_as ?_)
        refine WL.nil ?_
        refine W.ret ?_
        refine retCT rfl TI58 rfl (show _ = Value.int _ _ from rfl) rfl (cells_all hE) rfl ?_
        first
        | (have ho : oneL xs k hk = (0, ⟨1, sub xs k (runL goeB xs k), 0, k, runL goeB xs k⟩) := by unfold oneL; rw [if_pos c16, if_neg (by omega)]
           rw [ho]; exact ⟨rfl, hxE⟩)
        | (have ho : oneL xs k hk = (0, ⟨3, sub xs k (k + 1), 0, k, k + 1⟩) := by unfold oneL; rw [if_neg (by simp [c16]), if_neg (by simp [c30]), if_pos (by rw [← hmk]; simp; omega)]
           rw [ho]; exact ⟨rfl, hxE⟩)
      · try simp only [decide_eq_true_eq, decide_eq_false_iff_not, Bool.not_eq_true', Bool.not_eq_false', Bool.and_eq_true, Bool.or_eq_true, Bool.and_eq_false_iff, Bool.or_eq_false_iff] at c51
        refine W.seq ?_
        refine W.region ?_
        refine WL.c rfl (o_ldA TI58 rfl rfl (cells_all hB6) rfl ?_)
        refine WL.u (o_stA TI58 rfl rfl rfl rfl hB4 rfl ?_)
        intro wE hE hoE hsE
        have hxE := Ext.own hx6 (by omega) hoE
        refine WL.c rfl (o_as ?_)
        refine WL.nil ?_
        refine W.ret ?_
        refine retCT rfl TI58 rfl (show _ = Value.int _ _ from rfl) rfl (cells_all hE) rfl ?_
        have ho : oneL xs k hk = (50, ⟨0, [], 0, k, 0⟩) := by unfold oneL; rw [if_neg (by simp [c16]), if_neg (by simp [c30]), if_neg (by rw [← hmk]; simp; omega)]
        rw [ho]; exact ⟨rfl, hxE⟩

theorem oneL_fin (xs : List UInt8) (k : Nat) (h : k < xs.length) (he : (oneL xs k h).1 = 0) : k < (oneL xs k h).2.fin ∧ (oneL xs k h).2.fin ≤ xs.length := by
  have go : ∀ p : UInt8 → Bool, p xs[k] = true → k < runL p xs k ∧ runL p xs k ≤ xs.length := fun p hp => by
    have h1 := runL_go h hp
    have h2 := runL_le (p := p) (k := k + 1) (xs := xs) (by omega)
    omega
  unfold oneL at he ⊢
  split
  · rename_i hl
    have := go goeB (by simp [goeB, hl])
    split
    · exact this
    · exact this
  · split
    · rename_i hd; exact go digB hd
    · split
      · exact ⟨by show k < k + 1; omega, by show k + 1 ≤ _; omega⟩
      · rename_i h1 h2 h3; rw [if_neg h1, if_neg h2, if_neg h3] at he; simp at he
def blankB (c : UInt8) : Bool := decide (c.toNat = 9) || decide (c.toNat = 10) || decide (c.toNat = 32)
/-- the tokens from a place on; the first error and its place -/
def cutL (xs : List UInt8) (k : Nat) : List Tk × Nat × Nat :=
  if h : k < xs.length then
    if (xs[k]).toNat = 35 then cutL xs (runL nnlB xs (k + 1))
    else if blankB xs[k] then cutL xs (k + 1)
    else if he : (oneL xs k h).1 = 0 then ((oneL xs k h).2 :: (cutL xs (oneL xs k h).2.fin).1, (cutL xs (oneL xs k h).2.fin).2)
    else ([], (oneL xs k h).1, k)
  else ([], 0, 0)
termination_by xs.length - k
decreasing_by
  · have := (runL_le (p := nnlB) (k := k + 1) (xs := xs) (by omega)).1; omega
  · omega
  · have := oneL_fin xs k h he; omega
theorem cutL_eq (xs : List UInt8) (k : Nat) : cutL xs k = if h : k < xs.length then
    if (xs[k]).toNat = 35 then cutL xs (runL nnlB xs (k + 1))
    else if blankB xs[k] then cutL xs (k + 1)
    else if he : (oneL xs k h).1 = 0 then ((oneL xs k h).2 :: (cutL xs (oneL xs k h).2.fin).1, (cutL xs (oneL xs k h).2.fin).2)
    else ([], (oneL xs k h).1, k)
  else ([], 0, 0) := by rw [cutL]
/-- what Cut answers -/
def cutA (xs : List UInt8) : List Tk × Nat × Nat := if 65536 < xs.length then ([], 4, 0) else if (cutL xs 0).2.1 = 0 then cutL xs 0 else ([], (cutL xs 0).2)
def flat (ts : List Tk) : List Value := ts.flatMap fun t => (tokV t).toList
theorem flat_snoc (ts : List Tk) (t : Tk) : flat (ts ++ [t]) = flat ts ++ (Value.agg (tokV t)).cells.toList := by simp [flat, Value.cells]
theorem tok_one (t : Tk) : ∀ a ∈ (Value.agg (tokV t)).cells.toList, a.oneCell' = true := by
  intro a ha
  simp [Value.cells, tokV] at ha
  rcases ha with rfl | rfl | rfl | rfl | rfl <;> rfl
def faultV (e k : Nat) : Array Value := #[.int .i64 (e : Int), .int .i64 (k : Int)]
theorem maxLen_eq : maxLen = 9223372036854775807 := rfl

set_option maxHeartbeats 1000000 in
theorem cut_spec (xs : List UInt8) (w0 : World) (hlen : xs.length ≤ 9223372036854775807) : Ca Try.prog 21 #[st xs] w0 (fun v w' => ∃ v1, v = .tuple #[v1, .agg (faultV (cutA xs).2.1 (cutA xs).2.2)] ∧ w'.ownsRow w0.heap.size 58 5 v1 (cutA xs).1.length (flat (cutA xs).1) ∧ Ext w0 w') := by
  refine Ca.of Try.func21 Try.ntmps21 rfl rfl ?_
  refine W.seq ?_
  refine W.region ?_
  refine WL.c rfl (o_as ?_)
  refine WL.c rfl (o_alB TI49 ?_)
  intro w3 hB3 hx3 hs3
  refine WL.nil ?_
  refine W.scope ?_
  refine W.seq ?_
  refine W.seq ?_
  refine W.region ?_
  refine WL.c rfl (o_mv ?_)
  refine WL.c rfl (o_lenT TI9 rfl ?_)
  refine WL.c rfl (o_gt rfl rfl ?_)
  refine WL.nil ?_
  refine W.cond rfl (fun c10 => ?_) (fun c10 => ?_)
  · try simp only [decide_eq_true_eq, decide_eq_false_iff_not, Bool.not_eq_true', Bool.not_eq_false', Bool.and_eq_true, Bool.or_eq_true, Bool.and_eq_false_iff, Bool.or_eq_false_iff] at c10
    refine W.seq ?_
    refine W.region ?_
    refine WL.c rfl (o_bldC (cs := [(.int .i64 4), (.int .i64 0)]) TI49 (Sizes.cons TI32 (Sizes.cons TI3 Sizes.nil)) rfl (lcp (show _ = Value.int _ _ from rfl) lnp) rfl rfl ?_)
    refine WL.c rfl (o_as ?_)
    refine WL.u (o_stA TI49 rfl (show _ = Value.agg (faultV 4 0) from rfl) rfl rfl hB3 rfl ?_)
    intro wE hE hoE hsE
    have hxE := Ext.own hx3 (Nat.le_refl _) hoE
    refine WL.nil ?_
    refine W.ret ?_
    refine retTC rfl TI49 rfl (show _ = Value.slice _ _ _ from rfl) rfl (cells_all hE) rfl ?_
    have ha : cutA xs = ([], 4, 0) := by unfold cutA; rw [if_pos (by omega)]
    rw [ha]; exact ⟨_, rfl, World.ownsRow_nil _ _ _ _, hxE⟩
  · try simp only [decide_eq_true_eq, decide_eq_false_iff_not, Bool.not_eq_true', Bool.not_eq_false', Bool.and_eq_true, Bool.or_eq_true, Bool.and_eq_false_iff, Bool.or_eq_false_iff] at c10
    refine W.skip ?_
    refine W.seq ?_
    refine W.region ?_
    refine WL.c rfl (o_as ?_)
    refine WL.nil ?_
    refine W.seq ?_
    refine W.region ?_
    refine WL.c rfl (o_as ?_)
    refine WL.nil ?_
    refine W.seq ?_
    refine W.label ?_
    refine W.seq ?_
    refine W.block ?_
    refine W.loop (fun e w => ∃ (k : Nat) (ts : List Tk) (v4 : Value), k ≤ xs.length ∧ ts.length ≤ k ∧ e 0 = st xs ∧ e 3 = .pointer (some ⟨w0.heap.size, 0, none⟩) ∧ e 4 = v4 ∧ e 5 = .int .i64 (k : Int) ∧ w.ownsRow (w0.heap.size + 1) 58 5 v4 ts.length (flat ts) ∧ w.heap[w0.heap.size]? = some (.cells (faultV 0 0) 49 (0, 0)) ∧ cutL xs 0 = (ts ++ (cutL xs k).1, (cutL xs k).2) ∧ Ext w0 w ∧ w0.heap.size + 1 ≤ w.heap.size) (fun e w => xs.length - (intOf (e 5)).toNat) ?_ ?_
    · exact ⟨0, [], _, Nat.zero_le _, Nat.le_refl _, rfl, rfl, rfl, rfl, World.ownsRow_nil _ _ _ _, hB3, by simp, hx3, by omega⟩
    rintro e w ⟨k, ts, v4, hk, hts, h0, h3, h4, h5, hown, hB3, hcut, hx3, hsz⟩
    have hm5 := h5
    have hc0 := cutL_eq xs k
    refine W.seq ?_
    refine W.seq ?_
    by_cases hk1 : k < xs.length
    · skip
      rw [dif_pos hk1] at hc0
      have hlen5 : k < 65536 := by omega
      refine W.region ?_
      refine WL.c rfl (o_mvh h5 ?_)
      refine WL.c rfl (o_mvh h0 ?_)
      refine WL.c rfl (o_lenT TI9 rfl ?_)
      refine WL.c rfl (o_lt rfl rfl ?_)
      refine WL.nil ?_
      refine W.condT' rfl (by simp; omega) ?_
      refine W.skip ?_
      refine W.block ?_
      refine W.seq ?_
      refine W.seq ?_
      refine W.region ?_
      refine WL.c rfl (o_mvh h0 ?_)
      refine WL.c rfl (o_mvh h5 ?_)
      refine WL.c rfl (o_idT TI9 rfl rfl (hk1) ?_)
      refine WL.nil ?_
      refine W.block ?_
      refine W.seq ?_
      refine W.block ?_
      refine W.block ?_
      refine W.block ?_
      refine W.seq ?_
      refine W.block ?_
      refine W.seq ?_
      refine W.seq ?_
      refine W.seq ?_
      refine W.region ?_
      refine WL.c rfl (o_eq rfl rfl ?_)
      refine WL.c rfl (o_as ?_)
      refine WL.nil ?_
      refine W.cond rfl (fun c19 => ?_) (fun c19 => ?_)
      · try simp only [decide_eq_true_eq, decide_eq_false_iff_not, Bool.not_eq_true', Bool.not_eq_false', Bool.and_eq_true, Bool.or_eq_true, Bool.and_eq_false_iff, Bool.or_eq_false_iff] at c19
        refine W.exit ?_
        refine W.seq ?_
        refine W.seq ?_
        refine W.region ?_
        refine WL.c rfl (o_mvh h0 ?_)
        refine WL.c rfl (o_mvh h5 ?_)
        refine WL.c rfl (o_call Try.call38 (lc rfl (lc rfl (lc rfl ln))) ((run_spec nnlB 39 xs k _ (by omega) hlen nnl_spec Try.call39).mono ?_))
        rintro v29 w29 ⟨rfl, rfl⟩
        refine WL.c rfl (o_as ?_)
        refine WL.nil ?_
        refine W.exit ?_
        have hgo : runL nnlB xs k = runL nnlB xs (k + 1) := runL_go hk1 (by simp [nnlB]; omega)
        have hrl := runL_le (p := nnlB) (k := k + 1) (xs := xs) (by omega)
        rw [if_pos (by omega)] at hc0
        refine ⟨⟨runL nnlB xs k, ts, v4, by omega, by omega, h0, h3, h4, rfl, hown, hB3, by rw [hcut, hc0, hgo], hx3, hsz⟩, ?_⟩
        show xs.length - ((runL nnlB xs k : Nat) : Int).toNat < _
        rw [hm5]; simp [intOf]; omega
      · try simp only [decide_eq_true_eq, decide_eq_false_iff_not, Bool.not_eq_true', Bool.not_eq_false', Bool.and_eq_true, Bool.or_eq_true, Bool.and_eq_false_iff, Bool.or_eq_false_iff] at c19
        refine W.skip ?_
        refine W.seq ?_
        refine W.seq ?_
        refine W.region ?_
        refine WL.c rfl (o_eq rfl rfl ?_)
        refine WL.c rfl (o_as ?_)
        refine WL.nil ?_
        refine W.cond rfl (fun c21 => ?_) (fun c21 => ?_)
        · try simp only [decide_eq_true_eq, decide_eq_false_iff_not, Bool.not_eq_true', Bool.not_eq_false', Bool.and_eq_true, Bool.or_eq_true, Bool.and_eq_false_iff, Bool.or_eq_false_iff] at c21
          refine W.exit ?_
          refine W.seq ?_
          refine W.seq ?_
          refine W.region ?_
          refine WL.c rfl (o_mvh h5 ?_)
          refine WL.c rfl (o_addi rfl rfl (by omega) ?_)
          refine WL.c rfl (o_as ?_)
          refine WL.nil ?_
          refine W.exit ?_
          rw [if_neg (by omega), if_pos (by simp [blankB]; omega)] at hc0
          refine ⟨⟨k + 1, ts, v4, by omega, by omega, h0, h3, h4, rfl, hown, hB3, by rw [hcut, hc0], hx3, hsz⟩, ?_⟩
          show xs.length - ((k : Int) + 1).toNat < _
          rw [hm5]; simp [intOf]; omega
        · try simp only [decide_eq_true_eq, decide_eq_false_iff_not, Bool.not_eq_true', Bool.not_eq_false', Bool.and_eq_true, Bool.or_eq_true, Bool.and_eq_false_iff, Bool.or_eq_false_iff] at c21
          refine W.skip ?_
          refine W.seq ?_
          refine W.seq ?_
          refine W.region ?_
          refine WL.c rfl (o_eq rfl rfl ?_)
          refine WL.c rfl (o_as ?_)
          refine WL.nil ?_
          refine W.cond rfl (fun c23 => ?_) (fun c23 => ?_)
          · try simp only [decide_eq_true_eq, decide_eq_false_iff_not, Bool.not_eq_true', Bool.not_eq_false', Bool.and_eq_true, Bool.or_eq_true, Bool.and_eq_false_iff, Bool.or_eq_false_iff] at c23
            refine W.exit ?_
            refine W.seq ?_
            refine W.seq ?_
            refine W.region ?_
            refine WL.c rfl (o_mvh h5 ?_)
            refine WL.c rfl (o_addi rfl rfl (by omega) ?_)
            refine WL.c rfl (o_as ?_)
            refine WL.nil ?_
            refine W.exit ?_
            rw [if_neg (by omega), if_pos (by simp [blankB]; omega)] at hc0
            refine ⟨⟨k + 1, ts, v4, by omega, by omega, h0, h3, h4, rfl, hown, hB3, by rw [hcut, hc0], hx3, hsz⟩, ?_⟩
            show xs.length - ((k : Int) + 1).toNat < _
            rw [hm5]; simp [intOf]; omega
          · try simp only [decide_eq_true_eq, decide_eq_false_iff_not, Bool.not_eq_true', Bool.not_eq_false', Bool.and_eq_true, Bool.or_eq_true, Bool.and_eq_false_iff, Bool.or_eq_false_iff] at c23
            refine W.skip ?_
            refine W.seq ?_
            refine W.region ?_
            refine WL.c rfl (o_eq rfl rfl ?_)
            refine WL.c rfl (o_as ?_)
            refine WL.nil ?_
            refine W.cond rfl (fun c25 => ?_) (fun c25 => ?_)
            · try simp only [decide_eq_true_eq, decide_eq_false_iff_not, Bool.not_eq_true', Bool.not_eq_false', Bool.and_eq_true, Bool.or_eq_true, Bool.and_eq_false_iff, Bool.or_eq_false_iff] at c25
              refine W.exit ?_
              refine W.seq ?_
              refine W.seq ?_
              refine W.region ?_
              refine WL.c rfl (o_mvh h5 ?_)
              refine WL.c rfl (o_addi rfl rfl (by omega) ?_)
              refine WL.c rfl (o_as ?_)
              refine WL.nil ?_
              refine W.exit ?_
              rw [if_neg (by omega), if_pos (by simp [blankB]; omega)] at hc0
              refine ⟨⟨k + 1, ts, v4, by omega, by omega, h0, h3, h4, rfl, hown, hB3, by rw [hcut, hc0], hx3, hsz⟩, ?_⟩
              show xs.length - ((k : Int) + 1).toNat < _
              rw [hm5]; simp [intOf]; omega
            · try simp only [decide_eq_true_eq, decide_eq_false_iff_not, Bool.not_eq_true', Bool.not_eq_false', Bool.and_eq_true, Bool.or_eq_true, Bool.and_eq_false_iff, Bool.or_eq_false_iff] at c25
              refine W.skip ?_
              refine W.exit ?_
              refine W.seq ?_
              have hnb : ¬ blankB xs[k] = true := by simp [blankB]; omega
              rw [if_neg (by omega), if_neg hnb] at hc0
              refine W.region ?_
              refine WL.c rfl (o_mvh h0 ?_)
              refine WL.c rfl (o_mvh h5 ?_)
              refine WL.c rfl (o_call Try.call40 (lc rfl (lc rfl ln)) ((token_spec xs k hk1 _ hlen).mono ?_))
              rintro v35 w35 ⟨rfl, hx35⟩
              replace hB3 := hx35.blk hB3 (fun h => h)
              replace hown := own_ext hown hx35
              have hsz35 := hx35.size
              replace hx3 := hx3.tr hx35
              refine WL.c rfl (o_mv ?_)
              refine WL.c rfl (o_ext rfl rfl ?_)
              refine WL.c rfl (o_ext rfl rfl ?_)
              refine WL.c rfl (o_alB TI58 ?_)
              intro w6 hB6 hx6 hs6
              replace hB3 := hx6.blk hB3 (fun h => h)
              have hlt := hown.lt
              replace hown := own_ext hown hx6
              replace hx3 := hx3.tr hx6
              refine WL.u (o_stA TI58 rfl rfl rfl rfl hB6 rfl ?_)
              intro w36 hB6 ho6 hs36
              replace hB3 := ho6.blk hB3 (by show ¬ _ = _; omega)
              replace hown := own_only hown ho6 (fun j hj he => by have := hlt j hj; omega)
              replace hx3 := Ext.own hx3 (by omega) ho6
              refine WL.c rfl (o_as ?_)
              refine WL.nil ?_
              refine W.seq ?_
              refine W.seq ?_
              refine W.region ?_
              refine WL.c rfl (o_mv ?_)
              refine WL.c rfl (o_ne rfl rfl ?_)
              refine WL.nil ?_
              refine W.cond rfl (fun c39 => ?_) (fun c39 => ?_)
              · try simp only [decide_eq_true_eq, decide_eq_false_iff_not, Bool.not_eq_true', Bool.not_eq_false', Bool.and_eq_true, Bool.or_eq_true, Bool.and_eq_false_iff, Bool.or_eq_false_iff] at c39
                refine W.seq ?_
                refine W.region ?_
                refine WL.c rfl (o_mv ?_)
                refine WL.c rfl (o_mvh h5 ?_)
                refine WL.c rfl (o_bldC (cs := [_, _]) TI49 (Sizes.cons TI32 (Sizes.cons TI3 Sizes.nil)) rfl (lcp (show _ = Value.int _ _ from rfl) (lcp (show _ = Value.int _ _ from rfl) lnp)) rfl rfl ?_)
                refine WL.c rfl (o_as ?_)
                refine WL.u (o_stA TI49 h3 (show _ = Value.agg (faultV (oneL xs k hk1).1 k) from rfl) rfl rfl hB3 rfl ?_)
                intro wE hE hoE hsE
                have hxE := Ext.own hx3 (Nat.le_refl _) hoE
                refine WL.nil ?_
                refine W.ret ?_
                refine retTC rfl TI49 rfl (show _ = Value.slice _ _ _ from rfl) h3 (cells_all hE) rfl ?_
                rw [dif_neg (by omega)] at hc0
                have ha : cutA xs = ([], (oneL xs k hk1).1, k) := by unfold cutA; rw [if_neg (by omega), hcut, hc0, if_neg (by show ¬ (oneL xs k hk1).1 = 0; omega)]
                rw [ha]; exact ⟨_, rfl, World.ownsRow_nil _ _ _ _, hxE⟩
              · try simp only [decide_eq_true_eq, decide_eq_false_iff_not, Bool.not_eq_true', Bool.not_eq_false', Bool.and_eq_true, Bool.or_eq_true, Bool.and_eq_false_iff, Bool.or_eq_false_iff] at c39
                have hz : (oneL xs k hk1).1 = 0 := by omega
                have hfin := oneL_fin xs k hk1 hz
                rw [dif_pos hz] at hc0
                refine W.skip ?_
                refine W.seq ?_
                refine W.region ?_
                refine WL.c rfl (o_mvh h4 ?_)
                refine WL.c rfl (o_ldA TI58 rfl rfl (cells_all hB6) rfl ?_)
                refine WL.ap1 ((w0.heap.size + 1)) rfl rfl TI54 TI58 (show _ = Value.agg (tokV (oneL xs k hk1).2) from rfl) rfl hown (by decide) (by decide) rfl (tok_one _) rfl (by rw [maxLen_eq]; omega) (by omega) (by omega) ?_
                intro v46 w46 hown46 ho46
                replace hB3 := ho46.blk hB3 (fun h => by have := (hown.lt _ h).1; omega)
                replace hB6 := ho46.blk hB6 (fun h => by have := (hlt _ h).2; omega)
                rw [← flat_snoc] at hown46
                have hx46 : Ext w0 w46 := hx3.trans' ho46 (fun _ h => h) (fun j hj he => by have := (hown.lt _ he).1; omega)
                refine WL.c rfl (o_as ?_)
                refine WL.nil ?_
                refine W.region ?_
                refine WL.c rfl (o_fa 4 TI58 rfl TI3 rfl rfl ?_)
                refine WL.c rfl (o_ld TI3 rfl rfl (cell_of hB6 rfl) ?_)
                refine WL.c rfl (o_as ?_)
                refine WL.nil ?_
                refine ⟨⟨(oneL xs k hk1).2.fin, ts ++ [(oneL xs k hk1).2], v46, by omega, by simp; omega, h0, h3, rfl, rfl, by rw [List.length_append]; exact hown46, hB3, by rw [hcut, hc0]; simp, hx46, by have := ho46.size; omega⟩, ?_⟩
                show xs.length - (((oneL xs k hk1).2.fin : Nat) : Int).toNat < _
                rw [hm5]; simp [intOf]; omega
    · skip
      rw [dif_neg hk1] at hc0
      refine W.region ?_
      refine WL.c rfl (o_mvh h5 ?_)
      refine WL.c rfl (o_mvh h0 ?_)
      refine WL.c rfl (o_lenT TI9 rfl ?_)
      refine WL.c rfl (o_lt rfl rfl ?_)
      refine WL.nil ?_
      refine W.condF' rfl (by simp; omega) ?_
      refine W.exit ?_
      refine W.seq ?_
      refine W.region ?_
      refine WL.c rfl (o_mvh h4 ?_)
      refine WL.c rfl (o_bldC (cs := [(.int .i64 0), (.int .i64 0)]) TI49 (Sizes.cons TI32 (Sizes.cons TI3 Sizes.nil)) rfl lnp rfl rfl ?_)
      refine WL.c rfl (o_as ?_)
      refine WL.u (o_stA TI49 h3 (show _ = Value.agg (faultV 0 0) from rfl) rfl rfl hB3 rfl ?_)
      intro wE hE hoE hsE
      have hxE := Ext.own hx3 (Nat.le_refl _) hoE
      refine WL.nil ?_
      refine W.ret ?_
      refine retTC rfl TI49 rfl (show _ = v4 from rfl) h3 (cells_all hE) rfl ?_
      have ha : cutA xs = (ts, 0, 0) := by unfold cutA; rw [if_neg (by omega), hcut, hc0]; simp
      rw [ha]; exact ⟨_, rfl, own_mono (own_only hown hoE (fun j hj he => by have := (hown.lt j hj).1; omega)) (by omega), hxE⟩

deriving instance DecidableEq for Tk
theorem first1 : cutA [48, 60, 97, 49, 95, 98, 32, 35, 32, 97, 110, 121] = ([⟨2, [], 0, 0, 1⟩, ⟨3, [60], 0, 1, 2⟩, ⟨1, [97, 49, 95, 98], 0, 2, 6⟩], 0, 0) := by decide +kernel
theorem first2 : cutA [97, 49, 95, 98, 60, 48, 48, 55] = ([], 51, 5) := by decide +kernel
theorem mark_or (c : UInt8) : markB c = (decide (c.toNat = 61) || decide (c.toNat = 59) || decide (c.toNat = 60) || decide (c.toNat = 62) || decide (c.toNat = 44) || decide (c.toNat = 58) || decide (c.toNat = 123) || decide (c.toNat = 125)) := by
  have h : ∀ n : Fin 256, markB (UInt8.ofNat n.1) = (decide (n.1 = 61) || decide (n.1 = 59) || decide (n.1 = 60) || decide (n.1 = 62) || decide (n.1 = 44) || decide (n.1 = 58) || decide (n.1 = 123) || decide (n.1 = 125)) := by decide +kernel
  have := h ⟨c.toNat, UInt8.toNat_lt c⟩
  simpa using this

end Go.Proofs.Ytcljkkfpcomdcaa
