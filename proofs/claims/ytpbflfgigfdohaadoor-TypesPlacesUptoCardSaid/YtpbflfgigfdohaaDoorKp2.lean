/-
  Walks and lemmas. Written by program out of specs of mine.
-/
import Derived.WalkKit
import Derived.WalkSpells
import Derived.WalkLawsBesides
import Derived.Deep.Quiet
import Derived.StillTail
import Derived.StringKeys
import Derived.Laws.StructEq
import Derived.Laws.Externs
import Derived.Laws.Tables
import Derived.Scope
import Derived.Test.YtpbflfgigfdohaaDoorProg
import Derived.Laws.AppendOwn
import Derived.Maps.AppendAt
import Derived.Recover
import Derived.Lib.Bytealg
import Derived.SizedLaws
import Derived.ChangeArms
import Derived.ChangeSlices
import Derived.Maps.OwnSet
import Derived.Lib.Builder
import Derived.Lib.UnsafeStr
import Derived.Shelf.Strconv.Itoa0
import Derived.Shelf.Strconv.Itoa1
import Derived.Shelf.LaysM
import Derived.Shelf.Strconv.Itoa2
import Derived.Shelf.Strconv.Itoa3
import Derived.Test.YtpbflfgigfdohaaDoorRows
import Derived.ProofKit
import Derived.OpenShut
import Derived.ShutString
import Derived.ChangeOld
import Derived.Below
import Derived.JoinedCond
import Derived.SliceStrings
import Derived.Test.YtpbflfgigfdohaaDoorCards
import Derived.Test.YtpbflfgigfdohaaDoorTie
import Derived.Deep.DeepHandedRow
import Derived.Lib.LaidTab
import Derived.Test.YtpbflfgigfdohaaDoorKp1
set_option linter.unusedSimpArgs false
set_option linter.unusedVariables false
set_option maxRecDepth 100000
namespace Go.Proofs.YtpbflfgigfdohaaDoor
open Go Go.Vc Go.RowKit Go.Proofs

structure Tk where
 kind : Nat
 text : List UInt8
 n : Nat
 at_ : Nat
 fin : Nat
def tokV (t : Tk) : Array Value := #[.int .i64 (t.kind : Int), st t.text, .int .i64 (t.n : Int), .int .i64 (t.at_ : Int), .int .i64 (t.fin : Int)]
def sub (xs : List UInt8) (l h : Nat) : List UInt8 := (xs.take h).drop l
/-- the token that begins at a place; its error first -/
def oneL (xs : List UInt8) (k : Nat) (h : k < xs.length) : Nat × Tk :=
 if letB xs[k] then
  if 32 < runL goeB xs k - k then (52, ⟨1, [], 0, k, runL goeB xs k⟩) else (0, ⟨1, sub xs k (runL goeB xs k), 0, k, runL goeB xs k⟩)
 else if digB xs[k] then ((numL (sub xs k (runL digB xs k))).2, ⟨2, [], (numL (sub xs k (runL digB xs k))).1, k, runL digB xs k⟩)
 else if markB xs[k] then (0, ⟨3, sub xs k (k + 1), 0, k, k + 1⟩)
 else (50, ⟨0, [], 0, k, 0⟩)
theorem takeWhile_all (p : UInt8 → Bool) : ∀ (l : List UInt8), ∀ c ∈ l.takeWhile p, p c = true
 | [], c, h => by simp at h
 | a :: l, c, h => by
  by_cases ha : p a = true
  ·rw [List.takeWhile_cons_of_pos ha] at h
   rcases List.mem_cons.1 h with rfl | h
   ·exact ha
   exact takeWhile_all p l c h
  rw [List.takeWhile_cons_of_neg ha] at h; simp at h
theorem sub_run (p : UInt8 → Bool) (xs : List UInt8) (k : Nat) : sub xs k (runL p xs k) = (xs.drop k).takeWhile p := by
 unfold sub runL
 rw [List.drop_take, Nat.add_sub_cancel_left]
 have h : ∀ l : List UInt8, l.take (l.takeWhile p).length = l.takeWhile p := by
  intro l
  induction l with
  | nil => rfl
  | cons a l ih => by_cases ha : p a = true <;> simp [ha, ih]
 exact h _
theorem sub_len (xs : List UInt8) (l h : Nat) : (sub xs l h).length ≤ xs.length := by unfold sub; simp; omega

theorem token_spec (xs : List UInt8) (k : Nat) (hk : k < xs.length) (w0 : World) (hlen : xs.length ≤ 9223372036854775807) : Ca Tryd.prog 44 #[st xs, .int .i64 (k : Int)] w0 (fun v w' => v = .tuple #[.agg (tokV (oneL xs k hk).2), .int .i64 ((oneL xs k hk).1 : Int)] ∧ Ext w0 w') := by
 have hr1 := runL_le (p := goeB) (Nat.le_of_lt hk)
 have hr2 := runL_le (p := digB) (Nat.le_of_lt hk)
 have hmk := mark_idx xs[k]
 refine Ca.of Tryd.func44 Tryd.ntmps44 rfl rfl (We (Wb (Wa rfl (o_alB TI112 ?_))))
 intro w4 hB4 hx4 hs4
 refine Wa rfl (Wo (Wc (We (Wb (Wa rfl (o_mv (Wa rfl (o_bldC (cs := [(.int .i64 0), (.string ⟨#[]⟩), (.int .i64 0), _, (.int .i64 0)]) TI112 (Sizes.cons TI3 (Sizes.cons TI9 (Sizes.cons TI3 (Sizes.cons TI3 (Sizes.cons TI3 Sizes.nil))))) rfl (lcp vI lnp) rfl rfl (Wa rfl (o_alB TI112 ?_))))))))))
 intro w6 hB6 hx6 hs6
 replace hB4 := hx6.blk hB4 (fun h => h)
 replace hx6 := hx4.tr hx6
 refine WL.u (o_stA TI112 rfl (show _ = Value.agg (tokV ⟨0, [], 0, k, 0⟩) from rfl) rfl rfl hB6 rfl ?_)
 intro w11 hC ho hs
 replace hB6 : w11.heap[w4.heap.size]? = some (.cells (tokV ⟨0, [], 0, k, 0⟩) 112 (0, 0)) := hC
 replace hB4 := ho.blk hB4 (by show ¬ _ = _; omega)
 replace hx6 := Ext.own hx6 (by omega) ho
 clear ho hC hs
 refine Wc (We (Wb (Wa rfl (o_mv (Wa rfl (o_mv (Wa rfl (o_idT TI9 rfl rfl (hk) (Wa rfl (Wo (Wc (We (W.block (We (Wb (Wa rfl (o_mv (Wa rfl (o_call Tryd.call55 (lc rfl ln) ((letter_spec xs[k] _).mono ?_))))))))))))))))))))
 rintro v18 w18 ⟨rfl, rfl⟩
 refine Wa rfl (Wo (Wc (Wn rfl (fun c16 => ?_) (fun c16 => ?_))))
 ·try simp only [cs8] at c16
  refine We (Wb (Wa rfl (Wl 0 TI112 rfl TI3 rfl rfl (WL.u (o_stB TI3 rfl vI rfl hB6 (show _ < 5 by decide) ?_)))))
  intro w19 hC ho hs
  replace hB6 : w19.heap[w4.heap.size]? = some (.cells (tokV ⟨1, [], 0, k, 0⟩) 112 (0, 0)) := hC
  replace hB4 := ho.blk hB4 (by show ¬ _ = _; omega)
  replace hx6 := Ext.own hx6 (by omega) ho
  clear ho hC hs
  refine Wc (We (Wb (Wa rfl (o_mv (Wa rfl (o_mv (Wa rfl (o_call Tryd.call42 (lc rfl (lc rfl (lc rfl ln))) ((run_spec goeB 56 xs k _ (by omega) hlen further_spec Tryd.call56).mono ?_)))))))))
  rintro v22 w22 ⟨rfl, rfl⟩
  refine Wa rfl (Wl 4 TI112 rfl TI3 rfl rfl (WL.u (o_stB TI3 rfl vI rfl hB6 (show _ < 5 by decide) ?_)))
  intro w23 hC ho hs
  replace hB6 : w23.heap[w4.heap.size]? = some (.cells (tokV ⟨1, [], 0, k, runL goeB xs k⟩) 112 (0, 0)) := hC
  replace hB4 := ho.blk hB4 (by show ¬ _ = _; omega)
  replace hx6 := Ext.own hx6 (by omega) ho
  clear ho hC hs
  refine Wc (We (Wb (Wa rfl (Wl 4 TI112 rfl TI3 rfl rfl (Wa rfl (Wk TI3 rfl rfl (Wh hB6 rfl) (Wa rfl (o_mv (Wa rfl (o_subi rfl rfl (by dsimp only; omega) (Wa rfl (o_gt rfl rfl (Wc (Wn rfl (fun c28 => ?_) (fun c28 => ?_)))))))))))))))
  ·try simp only [cs8] at c28
   refine We (Wb (Wa rfl (o_ldA TI112 rfl rfl (cells_all hB6) rfl (WL.u (o_stA TI112 rfl rfl rfl rfl hB4 rfl ?_)))))
   intro wE hE hoE hsE
   have hxE := Ext.own hx6 (by omega) hoE
   refine Wa rfl (Wo (Wc (Wm (retCT rfl TI112 rfl vI rfl (cells_all hE) rfl ?_))))
   have ho : oneL xs k hk = (52, ⟨1, [], 0, k, runL goeB xs k⟩) := by unfold oneL; rw [if_pos c16, if_pos (by omega)]
   rw [ho]; exact ⟨rfl, hxE⟩
  try simp only [cs8] at c28
  refine Wp (We (Wb (Wa rfl (o_mv (Wa rfl (o_mv (Wa rfl (Wl 4 TI112 rfl TI3 rfl rfl (Wa rfl (Wk TI3 rfl rfl (Wh hB6 rfl) (Wa rfl (o_ssT TI9 rfl (Lo.s rfl) (Hi.s rfl) (by first | (show k ≤ runL goeB xs k; omega) | (show k ≤ k + 1; omega)) (by first | (show runL goeB xs k ≤ _; omega) | (show k + 1 ≤ _; omega)) (Wa rfl (Wl 1 TI112 rfl TI9 rfl rfl (WL.u (o_stB TI9 rfl (show _ = Value.string _ from rfl) rfl hB6 (show _ < 5 by decide) ?_))))))))))))))))
  intro w64 hC ho hs
  first
  | replace hB6 : w64.heap[w4.heap.size]? = some (.cells (tokV ⟨1, sub xs k (runL goeB xs k), 0, k, runL goeB xs k⟩) 112 (0, 0)) := hC
  | replace hB6 : w64.heap[w4.heap.size]? = some (.cells (tokV ⟨3, sub xs k (k + 1), 0, k, k + 1⟩) 112 (0, 0)) := hC
  replace hB4 := ho.blk hB4 (by show ¬ _ = _; omega)
  replace hx6 := Ext.own hx6 (by omega) ho
  clear ho hC hs
  refine Wc (We (Wb (Wa rfl (o_ldA TI112 rfl rfl (cells_all hB6) rfl (WL.u (o_stA TI112 rfl rfl rfl rfl hB4 rfl ?_))))))
  intro wE hE hoE hsE
  have hxE := Ext.own hx6 (by omega) hoE
  refine Wa rfl (Wo (Wc (Wm (retCT rfl TI112 rfl vI rfl (cells_all hE) rfl ?_))))
  first
  | (have ho : oneL xs k hk = (0, ⟨1, sub xs k (runL goeB xs k), 0, k, runL goeB xs k⟩) := by unfold oneL; rw [if_pos c16, if_neg (by omega)]
     rw [ho]; exact ⟨rfl, hxE⟩)
  | (have ho : oneL xs k hk = (0, ⟨3, sub xs k (k + 1), 0, k, k + 1⟩) := by unfold oneL; rw [if_neg (by simp [c16]), if_neg (by simp [c30]), if_pos (by rw [← hmk]; simp; omega)]
     rw [ho]; exact ⟨rfl, hxE⟩)
 try simp only [cs8] at c16
 refine We (Wb (Wa rfl (o_mv (Wa rfl (o_call Tryd.call68 (lc rfl ln) ((digit_spec xs[k] _).mono ?_))))))
 rintro v32 w32 ⟨rfl, rfl⟩
 refine Wa rfl (Wo (Wc (Wn rfl (fun c30 => ?_) (fun c30 => ?_))))
 ·try simp only [cs8] at c30
  refine We (Wb (Wa rfl (Wl 0 TI112 rfl TI3 rfl rfl (WL.u (o_stB TI3 rfl vI rfl hB6 (show _ < 5 by decide) ?_)))))
  intro w33 hC ho hs
  replace hB6 : w33.heap[w4.heap.size]? = some (.cells (tokV ⟨2, [], 0, k, 0⟩) 112 (0, 0)) := hC
  replace hB4 := ho.blk hB4 (by show ¬ _ = _; omega)
  replace hx6 := Ext.own hx6 (by omega) ho
  clear ho hC hs
  refine Wc (We (Wb (Wa rfl (o_mv (Wa rfl (o_mv (Wa rfl (o_call Tryd.call42 (lc rfl (lc rfl (lc rfl ln))) ((run_spec digB 68 xs k _ (by omega) hlen digit_spec Tryd.call68).mono ?_)))))))))
  rintro v36 w36 ⟨rfl, rfl⟩
  refine Wa rfl (Wl 4 TI112 rfl TI3 rfl rfl (WL.u (o_stB TI3 rfl vI rfl hB6 (show _ < 5 by decide) ?_)))
  intro w37 hC ho hs
  replace hB6 : w37.heap[w4.heap.size]? = some (.cells (tokV ⟨2, [], 0, k, runL digB xs k⟩) 112 (0, 0)) := hC
  replace hB4 := ho.blk hB4 (by show ¬ _ = _; omega)
  replace hx6 := Ext.own hx6 (by omega) ho
  clear ho hC hs
  refine Wc (We (Wb (Wa rfl (o_mv (Wa rfl (o_mv (Wa rfl (Wl 4 TI112 rfl TI3 rfl rfl (Wa rfl (Wk TI3 rfl rfl (Wh hB6 rfl) (Wa rfl (o_ssT TI9 rfl (Lo.s rfl) (Hi.s rfl) (by show k ≤ runL digB xs k; omega) (by show runL digB xs k ≤ _; omega) (Wa rfl (o_call Tryd.call69 (lc rfl ln) ((number_spec (sub xs k (runL digB xs k)) _ (by have := sub_len xs k (runL digB xs k); omega) (by rw [sub_run]; exact takeWhile_all digB _)).mono ?_)))))))))))))))
  rintro v44 w44 ⟨rfl, rfl⟩
  refine Wa rfl (o_mv (Wa rfl (o_ext rfl rfl (Wa rfl (o_ext rfl rfl (Wa rfl (Wo (Wa rfl (Wo (Wc (We (Wb (Wa rfl (o_mv (Wa rfl (Wl 2 TI112 rfl TI3 rfl rfl (WL.u (o_stB TI3 rfl vI rfl hB6 (show _ < 5 by decide) ?_))))))))))))))))))
  intro w48 hC ho hs
  replace hB6 : w48.heap[w4.heap.size]? = some (.cells (tokV ⟨2, [], (numL (sub xs k (runL digB xs k))).1, k, runL digB xs k⟩) 112 (0, 0)) := hC
  replace hB4 := ho.blk hB4 (by show ¬ _ = _; omega)
  replace hx6 := Ext.own hx6 (by omega) ho
  clear ho hC hs
  refine Wc (We (Wb (Wa rfl (o_ldA TI112 rfl rfl (cells_all hB6) rfl (Wa rfl (o_mv (WL.u (o_stA TI112 rfl rfl rfl rfl hB4 rfl ?_))))))))
  intro wE hE hoE hsE
  have hxE := Ext.own hx6 (by omega) hoE
  refine Wa rfl (Wo (Wc (Wm (retCT rfl TI112 rfl vI rfl (cells_all hE) rfl ?_))))
  have ho : oneL xs k hk = ((numL (sub xs k (runL digB xs k))).2, ⟨2, [], (numL (sub xs k (runL digB xs k))).1, k, runL digB xs k⟩) := by unfold oneL; rw [if_neg (by simp [c16]), if_pos c30]
  rw [ho]; exact ⟨rfl, hxE⟩
 try simp only [cs8] at c30
 refine We (Wb (Wa rfl (o_mv (Wa rfl (o_call Tryd.call70 (lc rfl (lc rfl ln)) ((idx_spec marks xs[k] _).mono ?_))))))
 rintro v53 w53 ⟨rfl, rfl⟩
 refine Wa rfl (o_ge rfl rfl (Wa rfl (Wo (Wc (Wn rfl (fun c51 => ?_) (fun c51 => ?_))))))
 ·try simp only [cs8] at c51
  refine We (Wb (Wa rfl (Wl 0 TI112 rfl TI3 rfl rfl (WL.u (o_stB TI3 rfl vI rfl hB6 (show _ < 5 by decide) ?_)))))
  intro w55 hC ho hs
  replace hB6 : w55.heap[w4.heap.size]? = some (.cells (tokV ⟨3, [], 0, k, 0⟩) 112 (0, 0)) := hC
  replace hB4 := ho.blk hB4 (by show ¬ _ = _; omega)
  replace hx6 := Ext.own hx6 (by omega) ho
  clear ho hC hs
  refine Wc (Wb (Wa rfl (o_mv (Wa rfl (o_addi rfl rfl (by omega) (Wa rfl (Wl 4 TI112 rfl TI3 rfl rfl (WL.u (o_stB TI3 rfl vI rfl hB6 (show _ < 5 by decide) ?_)))))))))
  intro w58 hC ho hs
  replace hB6 : w58.heap[w4.heap.size]? = some (.cells (tokV ⟨3, [], 0, k, k + 1⟩) 112 (0, 0)) := hC
  replace hB4 := ho.blk hB4 (by show ¬ _ = _; omega)
  replace hx6 := Ext.own hx6 (by omega) ho
  clear ho hC hs
  refine Wc (We (Wb (Wa rfl (o_mv (Wa rfl (o_mv (Wa rfl (Wl 4 TI112 rfl TI3 rfl rfl (Wa rfl (Wk TI3 rfl rfl (Wh hB6 rfl) (Wa rfl (o_ssT TI9 rfl (Lo.s rfl) (Hi.s rfl) (by first | (show k ≤ runL goeB xs k; omega) | (show k ≤ k + 1; omega)) (by first | (show runL goeB xs k ≤ _; omega) | (show k + 1 ≤ _; omega)) (Wa rfl (Wl 1 TI112 rfl TI9 rfl rfl (WL.u (o_stB TI9 rfl (show _ = Value.string _ from rfl) rfl hB6 (show _ < 5 by decide) ?_))))))))))))))))
  intro w64 hC ho hs
  first
  | replace hB6 : w64.heap[w4.heap.size]? = some (.cells (tokV ⟨1, sub xs k (runL goeB xs k), 0, k, runL goeB xs k⟩) 112 (0, 0)) := hC
  | replace hB6 : w64.heap[w4.heap.size]? = some (.cells (tokV ⟨3, sub xs k (k + 1), 0, k, k + 1⟩) 112 (0, 0)) := hC
  replace hB4 := ho.blk hB4 (by show ¬ _ = _; omega)
  replace hx6 := Ext.own hx6 (by omega) ho
  clear ho hC hs
  refine Wc (We (Wb (Wa rfl (o_ldA TI112 rfl rfl (cells_all hB6) rfl (WL.u (o_stA TI112 rfl rfl rfl rfl hB4 rfl ?_))))))
  intro wE hE hoE hsE
  have hxE := Ext.own hx6 (by omega) hoE
  refine Wa rfl (Wo (Wc (Wm (retCT rfl TI112 rfl vI rfl (cells_all hE) rfl ?_))))
  first
  | (have ho : oneL xs k hk = (0, ⟨1, sub xs k (runL goeB xs k), 0, k, runL goeB xs k⟩) := by unfold oneL; rw [if_pos c16, if_neg (by omega)]
     rw [ho]; exact ⟨rfl, hxE⟩)
  | (have ho : oneL xs k hk = (0, ⟨3, sub xs k (k + 1), 0, k, k + 1⟩) := by unfold oneL; rw [if_neg (by simp [c16]), if_neg (by simp [c30]), if_pos (by rw [← hmk]; simp; omega)]
     rw [ho]; exact ⟨rfl, hxE⟩)
 try simp only [cs8] at c51
 refine We (Wb (Wa rfl (o_ldA TI112 rfl rfl (cells_all hB6) rfl (WL.u (o_stA TI112 rfl rfl rfl rfl hB4 rfl ?_)))))
 intro wE hE hoE hsE
 have hxE := Ext.own hx6 (by omega) hoE
 refine Wa rfl (Wo (Wc (Wm (retCT rfl TI112 rfl vI rfl (cells_all hE) rfl ?_))))
 have ho : oneL xs k hk = (50, ⟨0, [], 0, k, 0⟩) := by unfold oneL; rw [if_neg (by simp [c16]), if_neg (by simp [c30]), if_neg (by rw [← hmk]; simp; omega)]
 rw [ho]; exact ⟨rfl, hxE⟩

theorem oneL_fin (xs : List UInt8) (k : Nat) (h : k < xs.length) (he : (oneL xs k h).1 = 0) : k < (oneL xs k h).2.fin ∧ (oneL xs k h).2.fin ≤ xs.length := by
 have go : ∀ p : UInt8 → Bool, p xs[k] = true → k < runL p xs k ∧ runL p xs k ≤ xs.length := fun p hp => by
  have h1 := runL_go h hp
  have h2 := runL_le (p := p) (k := k + 1) (xs := xs) (by omega)
  omega
 unfold oneL at he ⊢
 split
 ·rename_i hl
  have := go goeB (by simp [goeB, hl])
  split
  ·exact this
  exact this
 split
 ·rename_i hd; exact go digB hd
 split
 ·exact ⟨by show k < k + 1; omega, by show k + 1 ≤ _; omega⟩
 rename_i h1 h2 h3; rw [if_neg h1, if_neg h2, if_neg h3] at he; simp at he
def blankB (c : UInt8) : Bool := decide (c.toNat = 9) || decide (c.toNat = 10) || decide (c.toNat = 32)
/-- the tokens from a place on; the first error and its place -/
def cutL (xs : List UInt8) (k : Nat) : List Tk × Nat × Nat :=
 if h : k < xs.length then
  if (xs[k]).toNat = 35 then cutL xs (runL nnlB xs (k + 1))
  else if blankB xs[k] then cutL xs (k + 1)
  else if he : (oneL xs k h).1 = 0 then ((oneL xs k h).2 :: (cutL xs (oneL xs k h).2.fin).1, (cutL xs (oneL xs k h).2.fin).2)
  else ([], (oneL xs k h).1, k)
 else ([], 0, 0)
termination_by xs.length - k
decreasing_by
 ·have := (runL_le (p := nnlB) (k := k + 1) (xs := xs) (by omega)).1; omega
 ·omega
 have := oneL_fin xs k h he; omega
theorem cutL_eq (xs : List UInt8) (k : Nat) : cutL xs k = if h : k < xs.length then
  if (xs[k]).toNat = 35 then cutL xs (runL nnlB xs (k + 1))
  else if blankB xs[k] then cutL xs (k + 1)
  else if he : (oneL xs k h).1 = 0 then ((oneL xs k h).2 :: (cutL xs (oneL xs k h).2.fin).1, (cutL xs (oneL xs k h).2.fin).2)
  else ([], (oneL xs k h).1, k)
 else ([], 0, 0) := by rw [cutL]
/-- what Cut answers -/
def cutA (xs : List UInt8) : List Tk × Nat × Nat := if 65536 < xs.length then ([], 4, 0) else if (cutL xs 0).2.1 = 0 then cutL xs 0 else ([], (cutL xs 0).2)
def flat (ts : List Tk) : List Value := ts.flatMap fun t => (tokV t).toList
theorem flat_snoc (ts : List Tk) (t : Tk) : flat (ts ++ [t]) = flat ts ++ (Value.agg (tokV t)).cells.toList := by simp [flat, Value.cells]
theorem tok_one (t : Tk) : ∀ a ∈ (Value.agg (tokV t)).cells.toList, a.oneCell' = true := by
 intro a ha
 simp [Value.cells, tokV] at ha
 rcases ha with rfl | rfl | rfl | rfl | rfl <;> rfl
def faultV (e k : Nat) : Array Value := #[.int .i64 (e : Int), .int .i64 (k : Int)]
theorem maxLen_eq : maxLen = 9223372036854775807 := rfl

set_option maxHeartbeats 1000000 in
theorem cut_spec (xs : List UInt8) (w0 : World) (hlen : xs.length ≤ 9223372036854775807) : Ca Tryd.prog 20 #[st xs] w0 (fun v w' => ∃ v1, v = .tuple #[v1, .agg (faultV (cutA xs).2.1 (cutA xs).2.2)] ∧ w'.ownsRow w0.heap.size 112 5 v1 (cutA xs).1.length (flat (cutA xs).1) ∧ Ext w0 w') := by
 refine Ca.of Tryd.func20 Tryd.ntmps20 rfl rfl (We (Wb (Wa rfl (Wo (Wa rfl (o_alB TI32 ?_))))))
 intro w3 hB3 hx3 hs3
 refine Wc (W.scope (We (We (Wb (Wa rfl (o_mv (Wa rfl (o_lenT TI9 rfl (Wa rfl (o_gt rfl rfl (Wc (Wn rfl (fun c10 => ?_) (fun c10 => ?_)))))))))))))
 ·try simp only [cs8] at c10
  refine We (Wb (Wa rfl (o_bldC (cs := [(.int .i64 4), (.int .i64 0)]) TI32 (Sizes.cons TI30 (Sizes.cons TI3 Sizes.nil)) rfl (lcp vI lnp) rfl rfl (Wa rfl (Wo (WL.u (o_stA TI32 rfl (show _ = Value.agg (faultV 4 0) from rfl) rfl rfl hB3 rfl ?_)))))))
  intro wE hE hoE hsE
  have hxE := Ext.own hx3 (Nat.le_refl _) hoE
  refine Wc (Wm (retTC rfl TI32 rfl vS rfl (cells_all hE) rfl ?_))
  have ha : cutA xs = ([], 4, 0) := by unfold cutA; rw [if_pos (by omega)]
  rw [ha]; exact ⟨_, rfl, World.ownsRow_nil _ _ _ _, hxE⟩
 try simp only [cs8] at c10
 refine Wp (We (Wb (Wa rfl (Wo (Wc (We (Wb (Wa rfl (Wo (Wc (We (W.label (We (W.block (W.loop (fun e w => ∃ (k : Nat) (ts : List Tk) (v4 : Value), k ≤ xs.length ∧ ts.length ≤ k ∧ e 0 = st xs ∧ e 3 = .pointer (some ⟨w0.heap.size, 0, none⟩) ∧ e 4 = v4 ∧ e 5 = .int .i64 (k : Int) ∧ w.ownsRow (w0.heap.size + 1) 112 5 v4 ts.length (flat ts) ∧ w.heap[w0.heap.size]? = some (.cells (faultV 0 0) 32 (0, 0)) ∧ cutL xs 0 = (ts ++ (cutL xs k).1, (cutL xs k).2) ∧ Ext w0 w ∧ w0.heap.size + 1 ≤ w.heap.size) (fun e w => xs.length - (intOf (e 5)).toNat) ?_ ?_)))))))))))))))
 ·exact ⟨0, [], _, Nat.zero_le _, Nat.le_refl _, rfl, rfl, rfl, rfl, World.ownsRow_nil _ _ _ _, hB3, by simp, hx3, by omega⟩
 rintro e w ⟨k, ts, v4, hk, hts, h0, h3, h4, h5, hown, hB3, hcut, hx3, hsz⟩
 have hm5 := h5
 have hc0 := cutL_eq xs k
 refine We (We ?_)
 by_cases hk1 : k < xs.length
 ·skip
  rw [dif_pos hk1] at hc0
  have hlen5 : k < 65536 := by omega
  refine Wb (Wa rfl (Wf h5 (Wa rfl (Wf h0 (Wa rfl (o_lenT TI9 rfl (Wa rfl (o_lt rfl rfl (Wc (W.condT' rfl (by simp; omega) (Wp (W.block (We (We (Wb (Wa rfl (Wf h0 (Wa rfl (Wf h5 (Wa rfl (o_idT TI9 rfl rfl (hk1) (Wc (W.block (We (W.block (W.block (W.block (We (W.block (We (We (We (Wb (Wa rfl (o_eq rfl rfl (Wa rfl (Wo (Wc (Wn rfl (fun c19 => ?_) (fun c19 => ?_))))))))))))))))))))))))))))))))))))))))
  ·try simp only [cs8] at c19
   refine W.exit (We (We (Wb (Wa rfl (Wf h0 (Wa rfl (Wf h5 (Wa rfl (o_call Tryd.call42 (lc rfl (lc rfl (lc rfl ln))) ((run_spec nnlB 43 xs k _ (by omega) hlen nnl_spec Tryd.call43).mono ?_))))))))))
   rintro v29 w29 ⟨rfl, rfl⟩
   refine Wa rfl (Wo (Wc (W.exit ?_)))
   have hgo : runL nnlB xs k = runL nnlB xs (k + 1) := runL_go hk1 (by simp [nnlB]; omega)
   have hrl := runL_le (p := nnlB) (k := k + 1) (xs := xs) (by omega)
   rw [if_pos (by omega)] at hc0
   refine ⟨⟨runL nnlB xs k, ts, v4, by omega, by omega, h0, h3, h4, rfl, hown, hB3, by rw [hcut, hc0, hgo], hx3, hsz⟩, ?_⟩
   show xs.length - ((runL nnlB xs k : Nat) : Int).toNat < _
   rw [hm5]; simp [intOf]; omega
  try simp only [cs8] at c19
  refine Wp (We (We (Wb (Wa rfl (o_eq rfl rfl (Wa rfl (Wo (Wc (Wn rfl (fun c21 => ?_) (fun c21 => ?_))))))))))
  ·try simp only [cs8] at c21
   refine W.exit (We (We (Wb (Wa rfl (Wf h5 (Wa rfl (o_addi rfl rfl (by omega) (Wa rfl (Wo (Wc (W.exit ?_)))))))))))
   rw [if_neg (by omega), if_pos (by simp [blankB]; omega)] at hc0
   refine ⟨⟨k + 1, ts, v4, by omega, by omega, h0, h3, h4, rfl, hown, hB3, by rw [hcut, hc0], hx3, hsz⟩, ?_⟩
   show xs.length - ((k : Int) + 1).toNat < _
   rw [hm5]; simp [intOf]; omega
  try simp only [cs8] at c21
  refine Wp (We (We (Wb (Wa rfl (o_eq rfl rfl (Wa rfl (Wo (Wc (Wn rfl (fun c23 => ?_) (fun c23 => ?_))))))))))
  ·try simp only [cs8] at c23
   refine W.exit (We (We (Wb (Wa rfl (Wf h5 (Wa rfl (o_addi rfl rfl (by omega) (Wa rfl (Wo (Wc (W.exit ?_)))))))))))
   rw [if_neg (by omega), if_pos (by simp [blankB]; omega)] at hc0
   refine ⟨⟨k + 1, ts, v4, by omega, by omega, h0, h3, h4, rfl, hown, hB3, by rw [hcut, hc0], hx3, hsz⟩, ?_⟩
   show xs.length - ((k : Int) + 1).toNat < _
   rw [hm5]; simp [intOf]; omega
  try simp only [cs8] at c23
  refine Wp (We (Wb (Wa rfl (o_eq rfl rfl (Wa rfl (Wo (Wc (Wn rfl (fun c25 => ?_) (fun c25 => ?_)))))))))
  ·try simp only [cs8] at c25
   refine W.exit (We (We (Wb (Wa rfl (Wf h5 (Wa rfl (o_addi rfl rfl (by omega) (Wa rfl (Wo (Wc (W.exit ?_)))))))))))
   rw [if_neg (by omega), if_pos (by simp [blankB]; omega)] at hc0
   refine ⟨⟨k + 1, ts, v4, by omega, by omega, h0, h3, h4, rfl, hown, hB3, by rw [hcut, hc0], hx3, hsz⟩, ?_⟩
   show xs.length - ((k : Int) + 1).toNat < _
   rw [hm5]; simp [intOf]; omega
  try simp only [cs8] at c25
  refine Wp (W.exit (We ?_))
  have hnb : ¬ blankB xs[k] = true := by simp [blankB]; omega
  rw [if_neg (by omega), if_neg hnb] at hc0
  refine Wb (Wa rfl (Wf h0 (Wa rfl (Wf h5 (Wa rfl (o_call Tryd.call44 (lc rfl (lc rfl ln)) ((token_spec xs k hk1 _ hlen).mono ?_)))))))
  rintro v35 w35 ⟨rfl, hx35⟩
  replace hB3 := hx35.blk hB3 (fun h => h)
  replace hown := Wr hown hx35
  have hsz35 := hx35.size
  replace hx3 := hx3.tr hx35
  refine Wa rfl (o_mv (Wa rfl (o_ext rfl rfl (Wa rfl (o_ext rfl rfl (Wa rfl (o_alB TI112 ?_)))))))
  intro w6 hB6 hx6 hs6
  replace hB3 := hx6.blk hB3 (fun h => h)
  have hlt := hown.lt
  replace hown := Wr hown hx6
  replace hx3 := hx3.tr hx6
  refine WL.u (o_stA TI112 rfl rfl rfl rfl hB6 rfl ?_)
  intro w36 hB6 ho6 hs36
  replace hB3 := ho6.blk hB3 (by show ¬ _ = _; omega)
  replace hown := own_only hown ho6 (fun j hj he => by have := hlt j hj; omega)
  replace hx3 := Ext.own hx3 (by omega) ho6
  refine Wa rfl (Wo (Wc (We (We (Wb (Wa rfl (o_mv (Wa rfl (o_ne rfl rfl (Wc (Wn rfl (fun c39 => ?_) (fun c39 => ?_))))))))))))
  ·try simp only [cs8] at c39
   refine We (Wb (Wa rfl (o_mv (Wa rfl (Wf h5 (Wa rfl (o_bldC (cs := [_, _]) TI32 (Sizes.cons TI30 (Sizes.cons TI3 Sizes.nil)) rfl (lcp vI (lcp vI lnp)) rfl rfl (Wa rfl (Wo (WL.u (o_stA TI32 h3 (show _ = Value.agg (faultV (oneL xs k hk1).1 k) from rfl) rfl rfl hB3 rfl ?_)))))))))))
   intro wE hE hoE hsE
   have hxE := Ext.own hx3 (Nat.le_refl _) hoE
   refine Wc (Wm (retTC rfl TI32 rfl vS h3 (cells_all hE) rfl ?_))
   rw [dif_neg (by omega)] at hc0
   have ha : cutA xs = ([], (oneL xs k hk1).1, k) := by unfold cutA; rw [if_neg (by omega), hcut, hc0, if_neg (by show ¬ (oneL xs k hk1).1 = 0; omega)]
   rw [ha]; exact ⟨_, rfl, World.ownsRow_nil _ _ _ _, hxE⟩
  try simp only [cs8] at c39
  have hz : (oneL xs k hk1).1 = 0 := by omega
  have hfin := oneL_fin xs k hk1 hz
  rw [dif_pos hz] at hc0
  refine Wp (We (Wb (Wa rfl (Wf h4 (Wa rfl (o_ldA TI112 rfl rfl (cells_all hB6) rfl (WL.ap1 ((w0.heap.size + 1)) rfl rfl TI75 TI112 (show _ = Value.agg (tokV (oneL xs k hk1).2) from rfl) rfl hown (by decide) (by decide) rfl (tok_one _) rfl (by rw [maxLen_eq]; omega) (by omega) (by omega) ?_)))))))
  intro v46 w46 hown46 ho46
  replace hB3 := ho46.blk hB3 (fun h => by have := (hown.lt _ h).1; omega)
  replace hB6 := ho46.blk hB6 (fun h => by have := (hlt _ h).2; omega)
  rw [← flat_snoc] at hown46
  have hx46 : Ext w0 w46 := hx3.trans' ho46 (fun _ h => h) (fun j hj he => by have := (hown.lt _ he).1; omega)
  refine Wa rfl (Wo (Wc (Wb (Wa rfl (Wl 4 TI112 rfl TI3 rfl rfl (Wa rfl (Wk TI3 rfl rfl (Wh hB6 rfl) (Wa rfl (Wo (Wc (⟨⟨(oneL xs k hk1).2.fin, ts ++ [(oneL xs k hk1).2], v46, by omega, by simp; omega, h0, h3, rfl, rfl, by rw [List.length_append]; exact hown46, hB3, by rw [hcut, hc0]; simp, hx46, by have := ho46.size; omega⟩, ?_⟩)))))))))))
  show xs.length - (((oneL xs k hk1).2.fin : Nat) : Int).toNat < _
  rw [hm5]; simp [intOf]; omega
 skip
 rw [dif_neg hk1] at hc0
 refine Wb (Wa rfl (Wf h5 (Wa rfl (Wf h0 (Wa rfl (o_lenT TI9 rfl (Wa rfl (o_lt rfl rfl (Wc (W.condF' rfl (by simp; omega) (W.exit (We (Wb (Wa rfl (Wf h4 (Wa rfl (o_bldC (cs := [(.int .i64 0), (.int .i64 0)]) TI32 (Sizes.cons TI30 (Sizes.cons TI3 Sizes.nil)) rfl lnp rfl rfl (Wa rfl (Wo (WL.u (o_stA TI32 h3 (show _ = Value.agg (faultV 0 0) from rfl) rfl rfl hB3 rfl ?_)))))))))))))))))))))
 intro wE hE hoE hsE
 have hxE := Ext.own hx3 (Nat.le_refl _) hoE
 refine Wc (Wm (retTC rfl TI32 rfl (show _ = v4 from rfl) h3 (cells_all hE) rfl ?_))
 have ha : cutA xs = (ts, 0, 0) := by unfold cutA; rw [if_neg (by omega), hcut, hc0]; simp
 rw [ha]; exact ⟨_, rfl, own_mono (own_only hown hoE (fun j hj he => by have := (hown.lt j hj).1; omega)) (by omega), hxE⟩

deriving instance DecidableEq for Tk
theorem mark_or (c : UInt8) : markB c = (decide (c.toNat = 61) || decide (c.toNat = 59) || decide (c.toNat = 60) || decide (c.toNat = 62) || decide (c.toNat = 44) || decide (c.toNat = 58) || decide (c.toNat = 123) || decide (c.toNat = 125)) := by
 have h : ∀ n : Fin 256, markB (UInt8.ofNat n.1) = (decide (n.1 = 61) || decide (n.1 = 59) || decide (n.1 = 60) || decide (n.1 = 62) || decide (n.1 = 44) || decide (n.1 = 58) || decide (n.1 = 123) || decide (n.1 = 125)) := by decide +kernel
 have := h ⟨c.toNat, UInt8.toNat_lt c⟩
 simpa using this

end Go.Proofs.YtpbflfgigfdohaaDoor

namespace Go.Proofs.YtpbflfgigfdohaaDoor
open Go Go.Vc Go.RowKit Go.Proofs

def valF (n : Nat) (xs : List UInt8) : Nat := xs.foldl (fun n c => 10 * n + (c.toNat - 48)) n
theorem valF_cons (n : Nat) (c : UInt8) (cs : List UInt8) : valF n (c :: cs) = valF (10 * n + (c.toNat - 48)) cs := by simp only [valF, List.foldl_cons]
theorem valF_ge : ∀ (xs : List UInt8) (n : Nat), n * 10 ^ xs.length ≤ valF n xs
 | [], n => by simp [valF]
 | c :: cs, n => by
  rw [valF_cons, List.length_cons, Nat.pow_succ]
  refine Nat.le_trans ?_ (valF_ge cs _)
  rw [Nat.mul_comm (10 ^ cs.length) 10, ← Nat.mul_assoc]
  exact Nat.mul_le_mul_right _ (by omega)
theorem numF_val : ∀ (xs : List UInt8) (n : Nat), n ≤ 2147483647 → numF n xs = if valF n xs ≤ 2147483647 then (valF n xs, 0) else (0, 51)
 | [], n, h => by simp [numF, valF, h]
 | c :: cs, n, h => by
  rw [valF_cons, numF]
  by_cases hh : 2147483647 < 10 * n + (c.toNat - 48)
  ·rw [if_pos hh, if_neg]
   have := valF_ge cs (10 * n + (c.toNat - 48))
   have h1 : 1 ≤ 10 ^ cs.length := Nat.one_le_pow _ _ (by omega)
   have h2 := Nat.mul_le_mul_left (10 * n + (c.toNat - 48)) h1
   omega
  rw [if_neg hh]; exact numF_val cs _ (by omega)
theorem numL_val (xs : List UInt8) (hl : lead xs = false) : numL xs = if valF 0 xs ≤ 2147483647 then (valF 0 xs, 0) else (0, 51) := by
 unfold numL
 rw [hl]; exact numF_val xs 0 (by omega)
end Go.Proofs.YtpbflfgigfdohaaDoor

namespace Go.Proofs.YtpbflfgigfdohaaDoor
open Go Go.Vc Go.RowKit Go.Proofs

structure Ex where
 kind : Int
 n : Int
 name : List UInt8
 label : List UInt8
 tag : Int
 kids : Int
 at_ : Int
deriving instance DecidableEq for Ex
def exV (x : Ex) : List Value := [.int .i64 x.kind, .int .i64 x.n, st x.name, st x.label, .int .i64 x.tag, .int .i64 x.kids, .int .i64 x.at_]
def ex0 : Ex := ⟨0, 0, [], [], 0, 0, 0⟩
def exM : Ex := ⟨0, 0, [], [], 0, 0, -1⟩
inductive Pr (α : Type) where
 | ok (a : α) (i : Nat)
 | bad (e i : Nat)
def Pr.bind {α β : Type} (r : Pr α) (f : α → Nat → Pr β) : Pr β := match r with
 | .ok a i => f a i
 | .bad e i => .bad e i
def tk0 : Tk := ⟨0, [], 0, 0, 0⟩
def tkA (T : List Tk) (i : Nat) : Tk := T.getD i tk0
def plc (T : List Tk) (fin i : Nat) : Nat := if i < T.length then (tkA T i).at_ else fin
def isT (t : Tk) (k : Nat) (s : List UInt8) : Bool := decide (t.kind = k) && decide (t.text = s)
def wantT (T : List Tk) (i k : Nat) (s : List UInt8) : Pr Unit := if isT (tkA T i) k s = true then .ok () (i + 1) else .bad 60 i
def nmT (t : Tk) : Bool := decide (t.kind = 1) && nameB t.text
def nameT (T : List Tk) (i : Nat) : Pr (List UInt8) := if nmT (tkA T i) = true then .ok (tkA T i).text (i + 1) else .bad 60 i
def numT (T : List Tk) (i : Nat) : Pr Nat := if (tkA T i).kind = 2 then .ok (tkA T i).n (i + 1) else .bad 60 i
def leafE (s : List UInt8) : Option (Int × Int) := if s = [117, 56] then some (1, 1) else if s = [117, 49, 54] then some (1, 2) else if s = [117, 51, 50] then some (1, 4) else if s = [117, 54, 52] then some (1, 8) else if s = [98, 111, 111, 108] then some (2, 0) else if s = [118, 97, 114, 105, 110, 116] then some (3, 0) else none
def bgnT (t : Tk) : Bool := decide (t.kind = 1) && (decide (t.text = [118, 101, 99, 116, 111, 114]) || decide (t.text = [108, 105, 115, 116]) || decide (t.text = [111, 112, 116, 105, 111, 110]) || decide (t.text = [117, 110, 105, 111, 110]) || decide (t.text = [115, 116, 114, 117, 99, 116]) || (leafE t.text).isSome || nameB t.text)
/-- what stands ahead of the colon; full: there are asx many asx may be -/
def headT (T : List Tk) (u full : Bool) (i : Nat) (x : Ex) : Pr Ex :=
 if u then (if full = true ∧ (tkA T i).kind = 2 then .bad 5 i else (numT T i).bind fun n i => .ok { x with tag := n } i)
 else (if full = true ∧ nmT (tkA T i) = true then .bad 5 i else (nameT T i).bind fun s i => .ok { x with label := s } i)
/-- fields or arms, behind the bracket -/
def rowsT (E : Nat → Ex → Pr (List Ex)) (T : List Tk) (u : Bool) : Nat → Nat → Nat → Pr (List Ex × Nat)
 | 0, i, _ => .bad 0 i
 | g + 1, i, k => (headT T u (decide (k = 64)) i { ex0 with at_ := i }).bind fun x i => (wantT T i 3 [58]).bind fun _ i => (E i x).bind fun N i =>
  if isT (tkA T i) 3 [44] = true then (rowsT E T u g (i + 1) (k + 1)).bind fun r i => .ok (N ++ r.1, r.2) i
  else (wantT T i 3 [125]).bind fun _ i => .ok (N, k + 1) i
def atE (i : Nat) (x : Ex) : Ex := if x.at_ < 0 then { x with at_ := i } else x
def Ex.lf (x : Ex) (k n : Int) : Ex := { x with kind := k, n := n }
def Ex.vec (x : Ex) (b : Bool) (n : Int) : Ex := { x with kind := if b then 5 else 4, kids := 1, n := n }
def Ex.opt (x : Ex) : Ex := { x with kind := 6, kids := 1 }
def Ex.br (x : Ex) (u : Bool) (k : Int) : Ex := { x with kind := if u then 7 else 8, kids := k }
def Ex.nm (x : Ex) (s : List UInt8) : Ex := { x with kind := 9, name := s }
/-- a type: its nodes; their places are tokens' numbers -/
def exprT (T : List Tk) : Nat → Nat → Ex → Nat → Pr (List Ex)
 | 0, i, _, _ => .bad 0 i
 | f + 1, i, x, deep =>
  if bgnT (tkA T i) = false then .bad 60 i
  else if 16 < deep then .bad 61 i
  else match leafE (tkA T i).text with
  | some kn => .ok [(atE i x).lf kn.1 kn.2] (i + 1)
  | none =>
   if (tkA T i).text = [118, 101, 99, 116, 111, 114] ∨ (tkA T i).text = [108, 105, 115, 116] then
    (wantT T (i + 1) 3 [60]).bind fun _ j => (exprT T f j exM (deep + 1)).bind fun N j => (wantT T j 3 [44]).bind fun _ j => (numT T j).bind fun n j => (wantT T j 3 [62]).bind fun _ j =>
     .ok ((atE i x).vec (decide ((tkA T i).text = [108, 105, 115, 116])) n :: N) j
   else if (tkA T i).text = [111, 112, 116, 105, 111, 110] then
    (wantT T (i + 1) 3 [60]).bind fun _ j => (exprT T f j exM (deep + 1)).bind fun N j => (wantT T j 3 [62]).bind fun _ j => .ok ((atE i x).opt :: N) j
   else if (tkA T i).text = [117, 110, 105, 111, 110] then
    ((wantT T (i + 1) 3 [123]).bind fun _ j => rowsT (fun i x => exprT T f i x (deep + 1)) T true f j 0).bind fun r j => .ok ((atE i x).br true (r.2 : Nat) :: r.1) j
   else if (tkA T i).text = [115, 116, 114, 117, 99, 116] then
    ((wantT T (i + 1) 3 [123]).bind fun _ j => rowsT (fun i x => exprT T f i x (deep + 1)) T false f j 0).bind fun r j => .ok ((atE i x).br false (r.2 : Nat) :: r.1) j
   else .ok [(atE i x).nm (tkA T i).text] (i + 1)
structure Df where
 name : List UInt8
 at_ : Int
 ty : List Ex
deriving instance DecidableEq for Df
/-- the definitions from a token on; k there are -/
def defsT (T : List Tk) : Nat → Nat → Nat → Pr (List Df)
 | 0, i, _ => .bad 0 i
 | g + 1, i, k => if T.length ≤ i then .ok [] i
  else if k = 256 ∧ isT (tkA T i) 1 [116, 121, 112, 101] = true then .bad 5 i
  else (wantT T i 1 [116, 121, 112, 101]).bind fun _ i => (nameT T i).bind fun s j => (wantT T j 3 [61]).bind fun _ j => (exprT T (T.length + 2) j exM 0).bind fun N j => (wantT T j 3 [59]).bind fun _ j =>
   (defsT T g j (k + 1)).bind fun D j => .ok (⟨s, i, N⟩ :: D) j
/-- a node at its token's place -/
def plE (T : List Tk) (x : Ex) : Ex := if x.at_ < 0 then x else { x with at_ := (tkA T x.at_.toNat).at_ }
def plD (T : List Tk) (d : Df) : Df := ⟨d.name, (tkA T d.at_.toNat).at_, d.ty.map (plE T)⟩
def pan (e a : Nat) : PanicEntry := { v := .iface 79 (.agg #[.int .i64 (e : Int), .int .i64 (a : Int)]), recovered := false }
/-- the parser -/
structure Psr (w : World) (B0 p : Nat) (lv : Value) (T : List Tk) (fin at_ : Nat) : Prop where
 cell : w.heap[p]? = some (.cells #[lv, .int .i64 (at_ : Int), .int .i64 (fin : Int)] 82 (0, 0))
 toks : Sl w 5 lv T.length (flat T)
 off : ∀ b, lv.ownBlock = some b → b < p
 hp : p < B0
 le : at_ ≤ T.length
 small : T.length ≤ 1000000
 b0 : B0 ≤ w.heap.size
theorem Psr.keep {w w' : World} {F : Nat → Prop} {B0 p fin at_ : Nat} {lv : Value} {T : List Tk} (h : Psr w B0 p lv T fin at_) (ho : Only F w w') (hF : ∀ k, F k → p < k) : Psr w' B0 p lv T fin at_ :=
 ⟨ho.blk h.cell (fun hp => by have := hF p hp; omega), h.toks.only ho (fun b hb hk => by have := hF b hk; have := h.off b hb; omega), h.off, h.hp, h.le, h.small, Nat.le_trans h.b0 ho.size⟩
theorem Psr.ext {w w' : World} {B0 p fin at_ : Nat} {lv : Value} {T : List Tk} (h : Psr w B0 p lv T fin at_) (ho : Ext w w') : Psr w' B0 p lv T fin at_ := h.keep ho (fun _ h => h.elim)
theorem Psr.move {w w' : World} {B0 p fin at_ a2 : Nat} {lv : Value} {T : List Tk} (h : Psr w B0 p lv T fin at_) (hc : w'.heap[p]? = some (.cells #[lv, .int .i64 (a2 : Int), .int .i64 (fin : Int)] 82 (0, 0))) (ho : Only (fun k => k = p) w w') (hle : a2 ≤ T.length) : Psr w' B0 p lv T fin a2 :=
 ⟨hc, h.toks.only ho (fun b hb hk => by have := h.off b hb; omega), h.off, h.hp, hle, h.small, Nat.le_trans h.b0 ho.size⟩
theorem tkA_lt {T : List Tk} {i : Nat} (h : i < T.length) : tkA T i = T[i] := by simp [tkA, List.getD_eq_getElem?_getD, h]
theorem tkA_ge {T : List Tk} {i : Nat} (h : T.length ≤ i) : tkA T i = tk0 := by simp [tkA, List.getD_eq_getElem?_getD, h]
theorem tkA_kind {T : List Tk} {i k : Nat} (hk : 1 ≤ k) (h : (tkA T i).kind = k) : i < T.length := Nat.lt_of_not_le (fun h1 => by rw [tkA_ge h1] at h; simp only [tk0] at h; omega)
theorem plc_lt {T : List Tk} {fin i : Nat} (h : i < T.length) : plc T fin i = (tkA T i).at_ := if_pos h
theorem isT_lt {T : List Tk} {i k : Nat} {s : List UInt8} (hk : 1 ≤ k) (h : isT (tkA T i) k s = true) : i < T.length := by
 simp only [isT, Bool.and_eq_true, decide_eq_true_eq] at h
 exact tkA_kind hk h.1
theorem flat_at (ts : List Tk) : ∀ (k : Nat) (hk : k < ts.length), ((flat ts).drop (k * 5)).take 5 = (tokV ts[k]).toList := by
 induction ts with
 | nil => intro k hk; simp at hk
 | cons t ts ih =>
  intro k hk
  have h5 : (tokV t).toList.length = 5 := rfl
  cases k with
  | zero => rw [Nat.zero_mul, List.drop_zero, flat, List.flatMap_cons]; exact List.take_left' h5
  | succ k =>
   have h1 : (k + 1) * 5 - (tokV t).toList.length = k * 5 := by rw [h5]; omega
   have := ih k (by simpa using hk)
   rw [flat, List.flatMap_cons, List.drop_append, List.drop_eq_nil_of_le (by rw [h5]; omega), List.nil_append, h1]
   exact this
theorem Sl.tok {w : World} {v : Value} {ts : List Tk} (h : Sl w 5 v ts.length (flat ts)) {k : Nat} (hk : k < ts.length) : ∃ b o c, v = .slice (some ⟨b, o, none⟩) ts.length c ∧ Cells w b (o + k * 5) (tokV (tkA ts k)).toList := by
 rw [tkA_lt hk]
 rcases h.val with ⟨hz, h0⟩ | ⟨b, o, c, rfl, hnc, hc⟩
 ·omega
 exact ⟨b, o, c, rfl, by rw [← flat_at ts k hk]; exact hc.sub _ _⟩

theorem place_spec (B0 p : Nat) (lv : Value) (T : List Tk) (fin at_ : Nat) (w0 : World) (h : Psr w0 B0 p lv T fin at_) : Ca Tryd.prog 25 #[.pointer (some ⟨p, 0, none⟩)] w0 (fun v w' => v = .int .i64 (plc T fin at_ : Int) ∧ Ext w0 w') := by
 have hcell := h.cell
 have hT := h.toks
 have hsm := h.small
 have hx : Ext w0 w0 := Only.refl _ _
 refine Ca.of Tryd.func25 Tryd.ntmps25 rfl rfl (We (Wb (Wa rfl (Wg vI (Wc (We (We (W.quiet rfl (by kernel_rfl) (Wx rfl ((Wy rfl fun _ => Wf (by first | exact (show _ = Value.pointer _ from rfl) | exact rfl) ⟨rfl, rfl⟩)) (Wx rfl ((QO.r fun _ => r_nil rfl)) (Wx rfl ((Wy rfl fun _ => Wl 1 TI82 rfl TI3 rfl rfl ⟨rfl, rfl⟩)) (Wx rfl ((Wy rfl fun _ => Wk TI3 rfl rfl (Wh hcell rfl) ⟨rfl, rfl⟩)) (Wx rfl ((Wy rfl fun _ => Wf (by first | exact (show _ = Value.pointer _ from rfl) | exact rfl) ⟨rfl, rfl⟩)) (Wx rfl ((QO.r fun _ => r_nil rfl)) (Wx rfl ((Wy rfl fun _ => Wl 0 TI82 rfl TI75 rfl rfl ⟨rfl, rfl⟩)) (Wx rfl ((Wy rfl fun _ => Wk TI75 rfl rfl (Wh hcell rfl) ⟨rfl, rfl⟩)) (Wx rfl ((QO.r fun _ => r_lenR TI75 rfl hT)) (Wx rfl ((Wy rfl fun _ => o_lt rfl rfl ⟨rfl, rfl⟩)) (WQ.nil ?_)))))))))))))))))))
 intro nq
 have hxq1 := Only.drewN w0 nq
 replace h := h.ext hxq1
 replace hcell := h.cell
 replace hT := h.toks
 replace hx := hx.tr hxq1
 generalize World.drewN w0 nq = wq1 at *
 refine Wn rfl (fun c12 => ?_) (fun c12 => ?_)
 ·try simp only [cs8] at c12
  obtain ⟨tb, to_, tc, rfl, htc⟩ := Sl.tok h.toks (k := at_) (by omega)
  refine We (W.quiet rfl (by kernel_rfl) (Wx rfl ((Wy rfl fun _ => Wf (by first | exact (show _ = Value.pointer _ from rfl) | exact rfl) ⟨rfl, rfl⟩)) (Wx rfl ((QO.r fun _ => r_nil rfl)) (Wx rfl ((Wy rfl fun _ => Wl 0 TI82 rfl TI75 rfl rfl ⟨rfl, rfl⟩)) (Wx rfl ((Wy rfl fun _ => Wk TI75 rfl rfl (Wh hcell rfl) ⟨rfl, rfl⟩)) (Wx rfl ((Wy rfl fun _ => Wf (by first | exact (show _ = Value.pointer _ from rfl) | exact rfl) ⟨rfl, rfl⟩)) (Wx rfl ((QO.r fun _ => r_nil rfl)) (Wx rfl ((Wy rfl fun _ => Wl 1 TI82 rfl TI3 rfl rfl ⟨rfl, rfl⟩)) (Wx rfl ((Wy rfl fun _ => Wk TI3 rfl rfl (Wh hcell rfl) ⟨rfl, rfl⟩)) (Wx rfl ((Wy rfl fun _ => Wt (i := at_) TI75 TI112 rfl rfl (by omega) ⟨rfl, rfl⟩)) (Wx rfl ((Wy rfl fun _ => Wl 3 TI112 rfl TI3 rfl rfl ⟨rfl, rfl⟩)) (Wx rfl ((Wy rfl fun _ => Wk TI3 rfl rfl (htc 3 _ rfl) ⟨rfl, rfl⟩)) (Wx rfl ((Wy rfl fun _ => Wg vI ⟨rfl, rfl⟩)) (WQ.nil ?_))))))))))))))
  intro nq
  have hxq2 := Only.drewN wq1 nq
  replace h := h.ext hxq2
  replace hcell := h.cell
  replace hT := h.toks
  replace hx := hx.tr hxq2
  generalize World.drewN wq1 nq = wq2 at *
  refine Wm (Wu rfl vI ?_)
  exact ⟨by rw [plc_lt (by omega)], hx⟩
 try simp only [cs8] at c12
 refine Wp (We (Wb (Wa rfl (Wf (by first | exact (show _ = Value.pointer _ from rfl) | exact rfl) (Wa rfl (o_nil rfl (Wa rfl (Wl 2 TI82 rfl TI3 rfl rfl (Wa rfl (Wk TI3 rfl rfl (Wh hcell rfl) (Wa rfl (Wg vI (Wc (Wm (Wu rfl vI ?_)))))))))))))))
 exact ⟨by rw [plc, if_neg (by omega)], hx⟩
theorem fails_spec (B0 p : Nat) (lv : Value) (T : List Tk) (fin at_ : Nat) (w0 : World) (h : Psr w0 B0 p lv T fin at_) (e : Nat) : CaX Tryd.prog 23 #[.pointer (some ⟨p, 0, none⟩), .int .i64 (e : Int)] w0 (fun _ _ => False) (fun ch w' => ch = [pan e (plc T fin at_)] ∧ Ext w0 w') := by
 refine CaX.of Tryd.func23 Tryd.ntmps23 rfl rfl (Wb (Wa rfl (Wf vI (Wa rfl (Wf (by first | exact (show _ = Value.pointer _ from rfl) | exact rfl) (Wa rfl (o_call Tryd.call25 (lc rfl ln) ((place_spec B0 p lv T fin at_ _ h).mono ?_))))))))
 rintro v6 w6 ⟨rfl, hx6⟩
 refine Wa rfl (o_bldC (cs := [_, _]) TI32 (Sizes.cons TI30 (Sizes.cons TI3 Sizes.nil)) rfl (lcp vI (lcp vI lnp)) rfl rfl (Wa rfl (o_bld TI79 (Sizes.cons TI32 Sizes.nil) rfl rfl (Wa rfl (o_mkI TI79 rfl rfl (WL.ux (ox_panic (show _ = Value.iface _ _ from rfl) ?_)))))))
 exact ⟨rfl, hx6⟩
theorem peek_spec (B0 p : Nat) (lv : Value) (T : List Tk) (fin at_ : Nat) (w0 : World) (h : Psr w0 B0 p lv T fin at_) : Ca Tryd.prog 45 #[.pointer (some ⟨p, 0, none⟩)] w0 (fun v w' => v = Value.agg (tokV (tkA T at_)) ∧ Ext w0 w') := by
 have hcell := h.cell
 have hT := h.toks
 have hsm := h.small
 have hx : Ext w0 w0 := Only.refl _ _
 have hcell0 := hcell
 refine Ca.of Tryd.func45 Tryd.ntmps45 rfl rfl (We (Wb (Wa rfl (o_alB TI112 ?_))))
 intro w2 hC2 hx2 hs2
 replace h := h.ext hx2
 replace hcell := h.cell
 replace hT := h.toks
 replace hx := hx.tr hx2
 obtain ⟨c2, hc2⟩ : ∃ c2, c2 = w0.heap.size := ⟨_, rfl⟩
 rw [← hc2] at hC2 hs2 ⊢
 have hcp : ¬ p = c2 := fun he => by have := (Array.getElem?_eq_some_iff.1 hcell0).1; omega
 refine Wc (We (We (W.quiet rfl (by kernel_rfl) (Wx rfl ((Wy rfl fun _ => Wf (by first | exact (show _ = Value.pointer _ from rfl) | exact rfl) ⟨rfl, rfl⟩)) (Wx rfl ((QO.r fun _ => r_nil rfl)) (Wx rfl ((Wy rfl fun _ => Wl 1 TI82 rfl TI3 rfl rfl ⟨rfl, rfl⟩)) (Wx rfl ((Wy rfl fun _ => Wk TI3 rfl rfl (Wh hcell rfl) ⟨rfl, rfl⟩)) (Wx rfl ((Wy rfl fun _ => Wf (by first | exact (show _ = Value.pointer _ from rfl) | exact rfl) ⟨rfl, rfl⟩)) (Wx rfl ((QO.r fun _ => r_nil rfl)) (Wx rfl ((Wy rfl fun _ => Wl 0 TI82 rfl TI75 rfl rfl ⟨rfl, rfl⟩)) (Wx rfl ((Wy rfl fun _ => Wk TI75 rfl rfl (Wh hcell rfl) ⟨rfl, rfl⟩)) (Wx rfl ((QO.r fun _ => r_lenR TI75 rfl hT)) (Wx rfl ((Wy rfl fun _ => o_lt rfl rfl ⟨rfl, rfl⟩)) (WQ.nil ?_))))))))))))))
 intro nq
 have hxq1 := Only.drewN w2 nq
 replace h := h.ext hxq1
 replace hcell := h.cell
 replace hT := h.toks
 replace hx := hx.tr hxq1
 replace hC2 := hxq1.blk hC2 (fun h => h)
 generalize World.drewN w2 nq = wq1 at *
 refine Wn rfl (fun c12 => ?_) (fun c12 => ?_)
 ·try simp only [cs8] at c12
  obtain ⟨tb, to_, tc, rfl, htc⟩ := Sl.tok h.toks (k := at_) (by omega)
  refine We (W.tail 10 rfl (by kernel_rfl) (WS.c rfl ((SO.o rfl (Wf (by first | exact (show _ = Value.pointer _ from rfl) | exact rfl) ⟨rfl, rfl⟩))) (WS.c rfl ((SO.r (r_nil rfl))) (WS.c rfl ((SO.o rfl (Wl 0 TI82 rfl TI75 rfl rfl ⟨rfl, rfl⟩))) (WS.c rfl ((SO.o rfl (Wk TI75 rfl rfl (Wh hcell rfl) ⟨rfl, rfl⟩))) (WS.c rfl ((SO.o rfl (Wf (by first | exact (show _ = Value.pointer _ from rfl) | exact rfl) ⟨rfl, rfl⟩))) (WS.c rfl ((SO.r (r_nil rfl))) (WS.c rfl ((SO.o rfl (Wl 1 TI82 rfl TI3 rfl rfl ⟨rfl, rfl⟩))) (WS.c rfl ((SO.o rfl (Wk TI3 rfl rfl (Wh hcell rfl) ⟨rfl, rfl⟩))) (WS.c rfl ((SO.o rfl (Wt (i := at_) TI75 TI112 rfl rfl (by omega) ⟨rfl, rfl⟩))) (WS.c rfl ((SO.o rfl (o_ldA TI112 rfl rfl htc rfl ⟨rfl, rfl⟩))) (WS.nil (WL.u (o_stA TI112 rfl (show _ = Value.agg (tokV (tkA T at_)) from rfl) rfl rfl hC2 rfl ?_))))))))))))))
  intro wE hE hoE hsE
  refine Wc (Wm (retC rfl TI112 rfl rfl (cells_all hE) rfl ?_))
  exact ⟨rfl, (hx.tr (Only.drew _)).trans' hoE (fun _ h => h) (fun k hk he => by omega)⟩
 try simp only [cs8] at c12
 refine Wp (We (Wb (Wa rfl (o_bldC (cs := [(.int .i64 0), (.string ⟨#[]⟩), (.int .i64 0), (.int .i64 0), (.int .i64 0)]) TI112 (Sizes.cons TI3 (Sizes.cons TI9 (Sizes.cons TI3 (Sizes.cons TI3 (Sizes.cons TI3 Sizes.nil))))) rfl lnp rfl rfl (WL.u (o_stA TI112 rfl (show _ = Value.agg (tokV tk0) from rfl) rfl rfl hC2 rfl ?_))))))
 intro wE hE hoE hsE
 refine Wc (Wm (retC rfl TI112 rfl rfl (cells_all hE) rfl ?_))
 exact ⟨by rw [tkA_ge (by omega)], hx.trans' hoE (fun _ h => h) (fun k hk he => by omega)⟩
theorem is_spec (B0 p : Nat) (lv : Value) (T : List Tk) (fin at_ : Nat) (w0 : World) (h : Psr w0 B0 p lv T fin at_) (k : Nat) (s : List UInt8) : Ca Tryd.prog 22 #[.pointer (some ⟨p, 0, none⟩), .int .i64 (k : Int), st s] w0 (fun v w' => v = .bool (isT (tkA T at_) k s) ∧ Ext w0 w') := by
 have hx : Ext w0 w0 := Only.refl _ _
 have hsm := h.small
 have hle := h.le
 refine Ca.of Tryd.func22 Tryd.ntmps22 rfl rfl (We (Wb (Wa rfl (Wg vB (Wc (We (Wb (Wa rfl (Wf (by first | exact (show _ = Value.pointer _ from rfl) | exact rfl) (Wa rfl (o_call Tryd.call45 (lc rfl ln) ((peek_spec B0 p lv T fin at_ _ h).mono ?_))))))))))))
 rintro v9 w9 ⟨rfl, hx9⟩
 replace h := h.ext hx9
 replace hx := hx.tr hx9
 refine Wa rfl (o_alB TI112 ?_)
 intro wa7 hCa hxa hsa
 refine WL.u (o_stA TI112 rfl (show _ = Value.agg (tokV (tkA T at_)) from rfl) rfl rfl hCa rfl ?_)
 intro wb7 hB7 hob hsb
 have hxb := Ext.own hxa (Nat.le_refl _) hob
 clear hCa hxa hsa hob hsb
 replace h := h.ext hxb
 replace hx := hx.tr hxb
 refine Wc (We (Wb (Wa rfl (Wl 0 TI112 rfl TI3 rfl rfl (Wa rfl (Wk TI3 rfl rfl (Wh hB7 rfl) (Wa rfl (Wf vI (Wa rfl (o_eq rfl rfl (Wa rfl (Wf vB (Wq 4 rfl (fun g14 => ?_) (fun g14 => ?_))))))))))))))
 ·skip
  refine Wj rfl (g14) rfl (Wl 1 TI112 rfl TI9 rfl rfl (Wj rfl (g14) rfl (Wk TI9 rfl rfl (Wh hB7 rfl) (Wj rfl (g14) rfl (Wf (show _ = Value.string _ from rfl) (Wj rfl (g14) rfl (o_eqT rfl rfl (Wa rfl (Ww rfl rfl (Wa rfl (Wg vB (Wc (Wm (Wu rfl vB ?_))))))))))))))
  exact ⟨congrArg Value.bool (by rw [Bool.eq_iff_iff]; simp_all [isT] <;> omega), hx⟩
 skip
 refine Wi rfl (g14) rfl (Wi rfl (g14) rfl (Wi rfl (g14) rfl (Wi rfl (g14) rfl (Wa rfl (Wv rfl (g14) (Wa rfl (Wg vB (Wc (Wm (Wu rfl vB ?_))))))))))
 exact ⟨congrArg Value.bool (by rw [Bool.eq_iff_iff]; simp_all [isT] <;> omega), hx⟩
theorem want_spec (B0 p : Nat) (lv : Value) (T : List Tk) (fin at_ : Nat) (w0 : World) (h : Psr w0 B0 p lv T fin at_) (k : Nat) (hk : 1 ≤ k) (s : List UInt8) : CaX Tryd.prog 24 #[.pointer (some ⟨p, 0, none⟩), .int .i64 (k : Int), st s] w0 (fun _ w' => wantT T at_ k s = .ok () (at_ + 1) ∧ Psr w' B0 p lv T fin (at_ + 1) ∧ Only (fun k => k = p) w0 w') (fun ch w' => ∃ e j, wantT T at_ k s = .bad e j ∧ ch = [pan e (plc T fin j)] ∧ Ext w0 w') := by
 have hx : Ext w0 w0 := Only.refl _ _
 have hsm := h.small
 have hle := h.le
 refine CaX.of Tryd.func24 Tryd.ntmps24 rfl rfl (We (We (Wb (Wa rfl (Wf (by first | exact (show _ = Value.pointer _ from rfl) | exact rfl) (Wa rfl (Wf vI (Wa rfl (Wf (show _ = Value.string _ from rfl) (Wa rfl (o_call Tryd.call22 (lc rfl (lc rfl (lc rfl ln))) ((is_spec B0 p lv T fin at_ _ h k s).mono ?_))))))))))))
 rintro v9 w9 ⟨rfl, hx9⟩
 replace h := h.ext hx9
 replace hx := hx.tr hx9
 refine Wa rfl (o_not' rfl (Wc (Wn rfl (fun c10 => ?_) (fun c10 => ?_))))
 ·try simp only [cs8] at c10
  refine Wb (Wa rfl (Wf (by first | exact (show _ = Value.pointer _ from rfl) | exact rfl) (WL.cx rfl (ox_call Tryd.call23 (lc rfl (lc rfl ln)) ((fails_spec B0 p lv T fin at_ _ h 60).mono ?_ (fun ch w' hh => by obtain ⟨h1, h2⟩ := hh; exact ⟨60, at_, by rw [wantT, if_neg (by simp_all)], h1, hx.tr h2⟩))))))
  exact fun _ _ hf => hf.elim
 try simp only [cs8] at c10
 have hit : isT (tkA T at_) k s = true := by simp_all
 have hlt := isT_lt hk hit
 refine Wp (Wb (Wa rfl (Wf (by first | exact (show _ = Value.pointer _ from rfl) | exact rfl) (Wa rfl (o_nil rfl (Wa rfl (Wl 1 TI82 rfl TI3 rfl rfl (Wa rfl (Wk TI3 rfl rfl (Wh h.cell rfl) (Wa rfl (o_addi rfl rfl (by omega) (Wa rfl (o_nil rfl (Wa rfl (Wl 1 TI82 rfl TI3 rfl rfl (WL.u (o_stB TI3 rfl vI rfl h.cell (show 1 < 3 by decide) ?_)))))))))))))))))
 intro w19 hBp hop hsp
 replace h := h.move (a2 := at_ + 1) hBp hop (by omega)
 have hxp := hx.trans' hop (fun _ h => h.elim) (G := fun k => k = p) (fun _ _ h => h)
 refine Wc (ret0 rfl ?_)
 exact ⟨by rw [wantT, if_pos hit], h, hxp⟩
theorem mark_spec (B0 p : Nat) (lv : Value) (T : List Tk) (fin at_ : Nat) (w0 : World) (h : Psr w0 B0 p lv T fin at_) (s : List UInt8) : CaX Tryd.prog 27 #[.pointer (some ⟨p, 0, none⟩), st s] w0 (fun _ w' => wantT T at_ 3 s = .ok () (at_ + 1) ∧ Psr w' B0 p lv T fin (at_ + 1) ∧ Only (fun k => k = p) w0 w') (fun ch w' => ∃ e j, wantT T at_ 3 s = .bad e j ∧ ch = [pan e (plc T fin j)] ∧ Ext w0 w') := by
 refine CaX.of Tryd.func27 Tryd.ntmps27 rfl rfl (Wb (Wa rfl (Wf (by first | exact (show _ = Value.pointer _ from rfl) | exact rfl) (Wa rfl (Wf (show _ = Value.string _ from rfl) (WL.cx rfl (ox_call Tryd.call24 (lc rfl (lc rfl (lc rfl ln))) ((want_spec B0 p lv T fin at_ _ h 3 (by decide) s).mono ?_ (fun ch w' hh => hh)))))))))
 rintro v6 w6 hh
 refine Wc (ret0 rfl ?_)
 exact hh
theorem isname_spec (B0 p : Nat) (lv : Value) (T : List Tk) (fin at_ : Nat) (w0 : World) (h : Psr w0 B0 p lv T fin at_) (hlen : (tkA T at_).text.length ≤ 9223372036854775807) : Ca Tryd.prog 46 #[.pointer (some ⟨p, 0, none⟩)] w0 (fun v w' => v = .bool (nmT (tkA T at_)) ∧ Ext w0 w') := by
 have hx : Ext w0 w0 := Only.refl _ _
 have hsm := h.small
 have hle := h.le
 refine Ca.of Tryd.func46 Tryd.ntmps46 rfl rfl (We (Wb (Wa rfl (Wg vB (Wc (We (Wb (Wa rfl (Wf (by first | exact (show _ = Value.pointer _ from rfl) | exact rfl) (Wa rfl (o_call Tryd.call45 (lc rfl ln) ((peek_spec B0 p lv T fin at_ _ h).mono ?_))))))))))))
 rintro v5 w5 ⟨rfl, hx5⟩
 replace h := h.ext hx5
 replace hx := hx.tr hx5
 refine Wa rfl (o_alB TI112 ?_)
 intro wa3 hCa hxa hsa
 refine WL.u (o_stA TI112 rfl (show _ = Value.agg (tokV (tkA T at_)) from rfl) rfl rfl hCa rfl ?_)
 intro wb3 hB3 hob hsb
 have hxb := Ext.own hxa (Nat.le_refl _) hob
 clear hCa hxa hsa hob hsb
 replace h := h.ext hxb
 replace hx := hx.tr hxb
 refine Wc (We (Wb (Wa rfl (Wl 0 TI112 rfl TI3 rfl rfl (Wa rfl (Wk TI3 rfl rfl (Wh hB3 rfl) (Wa rfl (o_eq rfl rfl (Wa rfl (Wf vB (Wq 3 rfl (fun g9 => ?_) (fun g9 => ?_))))))))))))
 ·skip
  refine Wj rfl (g9) rfl (Wl 1 TI112 rfl TI9 rfl rfl (Wj rfl (g9) rfl (Wk TI9 rfl rfl (Wh hB3 rfl) (Wj rfl (g9) rfl (o_call Tryd.call31 (lc rfl ln) ((name_spec (tkA T at_).text _ hlen).mono ?_))))))
  rintro v12 w12 ⟨rfl, rfl⟩
  refine Wa rfl (Ww rfl rfl (Wa rfl (Wg vB (Wc (Wm (Wu rfl vB ?_))))))
  exact ⟨congrArg Value.bool (by rw [Bool.eq_iff_iff]; simp_all [nmT] <;> omega), hx⟩
 skip
 refine Wi rfl (g9) rfl (Wi rfl (g9) rfl (Wi rfl (g9) rfl (Wa rfl (Wv rfl (g9) (Wa rfl (Wg vB (Wc (Wm (Wu rfl vB ?_)))))))))
 exact ⟨congrArg Value.bool (by rw [Bool.eq_iff_iff]; simp_all [nmT] <;> omega), hx⟩
theorem namep_spec (B0 p : Nat) (lv : Value) (T : List Tk) (fin at_ : Nat) (w0 : World) (h : Psr w0 B0 p lv T fin at_) (hlen : (tkA T at_).text.length ≤ 9223372036854775807) : CaX Tryd.prog 26 #[.pointer (some ⟨p, 0, none⟩)] w0 (fun v w' => ∃ s, nameT T at_ = .ok s (at_ + 1) ∧ v = st s ∧ Psr w' B0 p lv T fin (at_ + 1) ∧ Only (fun k => k = p) w0 w') (fun ch w' => ∃ e j, nameT T at_ = .bad e j ∧ ch = [pan e (plc T fin j)] ∧ Ext w0 w') := by
 have hx : Ext w0 w0 := Only.refl _ _
 have hsm := h.small
 have hle := h.le
 refine CaX.of Tryd.func26 Tryd.ntmps26 rfl rfl (We (Wb (Wa rfl (Wg (show _ = Value.string _ from rfl) (Wc (We (We (Wb (Wa rfl (Wf (by first | exact (show _ = Value.pointer _ from rfl) | exact rfl) (Wa rfl (o_call Tryd.call46 (lc rfl ln) ((isname_spec B0 p lv T fin at_ _ h hlen).mono ?_)))))))))))))
 rintro v4 w4 ⟨rfl, hx4⟩
 replace h := h.ext hx4
 replace hx := hx.tr hx4
 refine Wa rfl (o_not' rfl (Wc (Wn rfl (fun c5 => ?_) (fun c5 => ?_))))
 ·try simp only [cs8] at c5
  refine Wb (Wa rfl (Wf (by first | exact (show _ = Value.pointer _ from rfl) | exact rfl) (WL.cx rfl (ox_call Tryd.call23 (lc rfl (lc rfl ln)) ((fails_spec B0 p lv T fin at_ _ h 60).mono ?_ (fun ch w' hh => by obtain ⟨h1, h2⟩ := hh; exact ⟨60, at_, by rw [nameT, if_neg (by simp_all)], h1, hx.tr h2⟩))))))
  exact fun _ _ hf => hf.elim
 try simp only [cs8] at c5
 have hit : nmT (tkA T at_) = true := by simp_all
 have hlt : at_ < T.length := tkA_kind (k := 1) (by decide) (by simp only [nmT, Bool.and_eq_true, decide_eq_true_eq] at hit; exact hit.1)
 refine Wp (We (Wb (Wa rfl (Wf (by first | exact (show _ = Value.pointer _ from rfl) | exact rfl) (Wa rfl (o_nil rfl (Wa rfl (Wl 1 TI82 rfl TI3 rfl rfl (Wa rfl (Wk TI3 rfl rfl (Wh h.cell rfl) (Wa rfl (o_addi rfl rfl (by omega) (Wa rfl (o_nil rfl (Wa rfl (Wl 1 TI82 rfl TI3 rfl rfl (WL.u (o_stB TI3 rfl vI rfl h.cell (show 1 < 3 by decide) ?_))))))))))))))))))
 intro w14 hBp hop hsp
 replace h := h.move (a2 := at_ + 1) hBp hop (by omega)
 have hxp := hx.trans' hop (fun _ h => h.elim) (G := fun k => k = p) (fun _ _ h => h)
 refine Wc (We ?_)
 have hT := h.toks
 have hcell := h.cell
 obtain ⟨tb, to_, tc, rfl, htc⟩ := Sl.tok hT (k := at_) (by omega)
 refine W.quiet rfl (by kernel_rfl) (Wx rfl ((Wy rfl fun _ => Wf (by first | exact (show _ = Value.pointer _ from rfl) | exact rfl) ⟨rfl, rfl⟩)) (Wx rfl ((QO.r fun _ => r_nil rfl)) (Wx rfl ((Wy rfl fun _ => Wl 0 TI82 rfl TI75 rfl rfl ⟨rfl, rfl⟩)) (Wx rfl ((Wy rfl fun _ => Wk TI75 rfl rfl (Wh hcell rfl) ⟨rfl, rfl⟩)) (Wx rfl ((Wy rfl fun _ => Wf (by first | exact (show _ = Value.pointer _ from rfl) | exact rfl) ⟨rfl, rfl⟩)) (Wx rfl ((QO.r fun _ => r_nil rfl)) (Wx rfl ((Wy rfl fun _ => Wl 1 TI82 rfl TI3 rfl rfl ⟨rfl, rfl⟩)) (Wx rfl ((Wy rfl fun _ => Wk TI3 rfl rfl (Wh hcell rfl) ⟨rfl, rfl⟩)) (Wx rfl ((Wy rfl fun _ => o_subi rfl rfl (by omega) ⟨rfl, rfl⟩)) (Wx rfl ((Wy rfl fun _ => Wt (i := at_) TI75 TI112 rfl (by show Value.int _ _ = _; congr 1; omega) (by omega) ⟨rfl, rfl⟩)) (Wx rfl ((Wy rfl fun _ => Wl 1 TI112 rfl TI9 rfl rfl ⟨rfl, rfl⟩)) (Wx rfl ((Wy rfl fun _ => Wk TI9 rfl rfl (htc 1 _ rfl) ⟨rfl, rfl⟩)) (Wx rfl ((Wy rfl fun _ => Wg (show _ = Value.string _ from rfl) ⟨rfl, rfl⟩)) (WQ.nil ?_))))))))))))))
 intro nq
 refine Wm (Wu rfl (show _ = Value.string _ from rfl) ?_)
 exact ⟨_, by rw [nameT, if_pos hit], rfl, h.ext (Only.drewN _ _), hxp.ext (Only.drewN _ _)⟩
theorem nump_spec (B0 p : Nat) (lv : Value) (T : List Tk) (fin at_ : Nat) (w0 : World) (h : Psr w0 B0 p lv T fin at_) : CaX Tryd.prog 49 #[.pointer (some ⟨p, 0, none⟩)] w0 (fun v w' => ∃ n : Nat, numT T at_ = .ok n (at_ + 1) ∧ v = .int .i64 (n : Int) ∧ Psr w' B0 p lv T fin (at_ + 1) ∧ Only (fun k => k = p) w0 w') (fun ch w' => ∃ e j, numT T at_ = .bad e j ∧ ch = [pan e (plc T fin j)] ∧ Ext w0 w') := by
 have hx : Ext w0 w0 := Only.refl _ _
 have hsm := h.small
 have hle := h.le
 refine CaX.of Tryd.func49 Tryd.ntmps49 rfl rfl (We (Wb (Wa rfl (Wg vI (Wc (We (Wb (Wa rfl (Wf (by first | exact (show _ = Value.pointer _ from rfl) | exact rfl) (Wa rfl (o_call Tryd.call45 (lc rfl ln) ((peek_spec B0 p lv T fin at_ _ h).mono ?_))))))))))))
 rintro v5 w5 ⟨rfl, hx5⟩
 replace h := h.ext hx5
 replace hx := hx.tr hx5
 refine Wa rfl (o_alB TI112 ?_)
 intro wa3 hCa hxa hsa
 refine WL.u (o_stA TI112 rfl (show _ = Value.agg (tokV (tkA T at_)) from rfl) rfl rfl hCa rfl ?_)
 intro wb3 hB3 hob hsb
 have hxb := Ext.own hxa (Nat.le_refl _) hob
 have hpn : ¬ w5.heap.size = p := fun he => by have := (Array.getElem?_eq_some_iff.1 h.cell).1; omega
 clear hCa hxa hsa hob hsb
 replace h := h.ext hxb
 replace hx := hx.tr hxb
 refine Wc (We (We (Wb (Wa rfl (Wl 0 TI112 rfl TI3 rfl rfl (Wa rfl (Wk TI3 rfl rfl (Wh hB3 rfl) (Wa rfl (o_ne rfl rfl (Wc (Wn rfl (fun c8 => ?_) (fun c8 => ?_))))))))))))
 ·try simp only [cs8] at c8
  refine Wb (Wa rfl (Wf (by first | exact (show _ = Value.pointer _ from rfl) | exact rfl) (WL.cx rfl (ox_call Tryd.call23 (lc rfl (lc rfl ln)) ((fails_spec B0 p lv T fin at_ _ h 60).mono ?_ (fun ch w' hh => by obtain ⟨h1, h2⟩ := hh; exact ⟨60, at_, by rw [numT, if_neg (by omega)], h1, hx.tr h2⟩))))))
  exact fun _ _ hf => hf.elim
 try simp only [cs8] at c8
 have hit : (tkA T at_).kind = 2 := by omega
 have hlt := tkA_kind (by decide) hit
 have hpw := (Array.getElem?_eq_some_iff.1 h.cell).1
 refine Wp (We (Wb (Wa rfl (Wf (by first | exact (show _ = Value.pointer _ from rfl) | exact rfl) (Wa rfl (o_nil rfl (Wa rfl (Wl 1 TI82 rfl TI3 rfl rfl (Wa rfl (Wk TI3 rfl rfl (Wh h.cell rfl) (Wa rfl (o_addi rfl rfl (by omega) (Wa rfl (o_nil rfl (Wa rfl (Wl 1 TI82 rfl TI3 rfl rfl (WL.u (o_stB TI3 rfl vI rfl h.cell (show 1 < 3 by decide) ?_))))))))))))))))))
 intro w17 hBp hop hsp
 replace h := h.move (a2 := at_ + 1) hBp hop (by omega)
 have hxp := hx.trans' hop (fun _ h => h.elim) (G := fun k => k = p) (fun _ _ h => h)
 refine Wc (We (Wb (Wa rfl (Wl 2 TI112 rfl TI3 rfl rfl (Wa rfl (Wk TI3 rfl rfl (Wh (hop.blk hB3 (fun he => hpn he)) rfl) (Wa rfl (Wg vI (Wc (Wm (Wu rfl vI ?_)))))))))))
 exact ⟨_, by rw [numT, if_pos hit], rfl, h, hxp⟩
theorem leaf_spec (s : List UInt8) (w0 : World) : Ca Tryd.prog 48 #[st s] w0 (fun v w' => v = .tuple #[.agg (exV { ex0 with kind := ((leafE s).getD (0, 0)).1, n := ((leafE s).getD (0, 0)).2 }).toArray, .bool (leafE s).isSome] ∧ Ext w0 w') := by
 refine Ca.of Tryd.func48 Tryd.ntmps48 rfl rfl (We (Wb (Wa rfl (o_alB TI40 ?_))))
 intro w2 hC2 hx2 hs2
 refine Wa rfl (Wg vB (Wc (We (We (Wb (Wa rfl (Wf (show _ = Value.string _ from rfl) (Wc (W.block (We (Wb (Wa rfl (o_eqT rfl rfl (Wa rfl (Wg vB (Wc (Wn rfl (fun c5 => ?_) (fun c5 => ?_))))))))))))))))))
 ·try simp only [cs8] at c5
  refine We (Wb (Wa rfl (o_bldC (cs := [(.int .i64 1), (.int .i64 1), (.string ⟨#[]⟩), (.string ⟨#[]⟩), (.int .i64 0), (.int .i64 0), (.int .i64 0)]) TI40 (Sizes.cons TI3 (Sizes.cons TI3 (Sizes.cons TI9 (Sizes.cons TI9 (Sizes.cons TI3 (Sizes.cons TI3 (Sizes.cons TI3 Sizes.nil))))))) rfl (lcp vI (lcp vI lnp)) rfl rfl (WL.u (o_stA TI40 rfl (show _ = Value.agg (exV { ex0 with kind := 1, n := 1 }).toArray from rfl) rfl rfl hC2 rfl ?_)))))
  intro wE hE hoE hsE
  have hx := hx2.trans' hoE (fun _ h => h) (fun k hk he => by omega)
  refine Wa rfl (Wg vB (Wc (Wm (retCT rfl TI40 rfl vB rfl (cells_all hE) rfl ?_))))
  exact ⟨by simp_all [leafE], hx⟩
 try simp only [cs8] at c5
 refine We (Wb (Wa rfl (o_eqT rfl rfl (Wa rfl (Wg vB (Wc (Wn rfl (fun c8 => ?_) (fun c8 => ?_))))))))
 ·try simp only [cs8] at c8
  refine We (Wb (Wa rfl (o_bldC (cs := [(.int .i64 1), (.int .i64 2), (.string ⟨#[]⟩), (.string ⟨#[]⟩), (.int .i64 0), (.int .i64 0), (.int .i64 0)]) TI40 (Sizes.cons TI3 (Sizes.cons TI3 (Sizes.cons TI9 (Sizes.cons TI9 (Sizes.cons TI3 (Sizes.cons TI3 (Sizes.cons TI3 Sizes.nil))))))) rfl (lcp vI (lcp vI lnp)) rfl rfl (WL.u (o_stA TI40 rfl (show _ = Value.agg (exV { ex0 with kind := 1, n := 2 }).toArray from rfl) rfl rfl hC2 rfl ?_)))))
  intro wE hE hoE hsE
  have hx := hx2.trans' hoE (fun _ h => h) (fun k hk he => by omega)
  refine Wa rfl (Wg vB (Wc (Wm (retCT rfl TI40 rfl vB rfl (cells_all hE) rfl ?_))))
  exact ⟨by simp_all [leafE], hx⟩
 try simp only [cs8] at c8
 refine We (Wb (Wa rfl (o_eqT rfl rfl (Wa rfl (Wg vB (Wc (Wn rfl (fun c11 => ?_) (fun c11 => ?_))))))))
 ·try simp only [cs8] at c11
  refine We (Wb (Wa rfl (o_bldC (cs := [(.int .i64 1), (.int .i64 4), (.string ⟨#[]⟩), (.string ⟨#[]⟩), (.int .i64 0), (.int .i64 0), (.int .i64 0)]) TI40 (Sizes.cons TI3 (Sizes.cons TI3 (Sizes.cons TI9 (Sizes.cons TI9 (Sizes.cons TI3 (Sizes.cons TI3 (Sizes.cons TI3 Sizes.nil))))))) rfl (lcp vI (lcp vI lnp)) rfl rfl (WL.u (o_stA TI40 rfl (show _ = Value.agg (exV { ex0 with kind := 1, n := 4 }).toArray from rfl) rfl rfl hC2 rfl ?_)))))
  intro wE hE hoE hsE
  have hx := hx2.trans' hoE (fun _ h => h) (fun k hk he => by omega)
  refine Wa rfl (Wg vB (Wc (Wm (retCT rfl TI40 rfl vB rfl (cells_all hE) rfl ?_))))
  exact ⟨by simp_all [leafE], hx⟩
 try simp only [cs8] at c11
 refine We (Wb (Wa rfl (o_eqT rfl rfl (Wa rfl (Wg vB (Wc (Wn rfl (fun c14 => ?_) (fun c14 => ?_))))))))
 ·try simp only [cs8] at c14
  refine We (Wb (Wa rfl (o_bldC (cs := [(.int .i64 1), (.int .i64 8), (.string ⟨#[]⟩), (.string ⟨#[]⟩), (.int .i64 0), (.int .i64 0), (.int .i64 0)]) TI40 (Sizes.cons TI3 (Sizes.cons TI3 (Sizes.cons TI9 (Sizes.cons TI9 (Sizes.cons TI3 (Sizes.cons TI3 (Sizes.cons TI3 Sizes.nil))))))) rfl (lcp vI (lcp vI lnp)) rfl rfl (WL.u (o_stA TI40 rfl (show _ = Value.agg (exV { ex0 with kind := 1, n := 8 }).toArray from rfl) rfl rfl hC2 rfl ?_)))))
  intro wE hE hoE hsE
  have hx := hx2.trans' hoE (fun _ h => h) (fun k hk he => by omega)
  refine Wa rfl (Wg vB (Wc (Wm (retCT rfl TI40 rfl vB rfl (cells_all hE) rfl ?_))))
  exact ⟨by simp_all [leafE], hx⟩
 try simp only [cs8] at c14
 refine We (Wb (Wa rfl (o_eqT rfl rfl (Wa rfl (Wg vB (Wc (Wn rfl (fun c17 => ?_) (fun c17 => ?_))))))))
 ·try simp only [cs8] at c17
  refine We (Wb (Wa rfl (o_bldC (cs := [(.int .i64 2), (.int .i64 0), (.string ⟨#[]⟩), (.string ⟨#[]⟩), (.int .i64 0), (.int .i64 0), (.int .i64 0)]) TI40 (Sizes.cons TI3 (Sizes.cons TI3 (Sizes.cons TI9 (Sizes.cons TI9 (Sizes.cons TI3 (Sizes.cons TI3 (Sizes.cons TI3 Sizes.nil))))))) rfl (lcp vI lnp) rfl rfl (WL.u (o_stA TI40 rfl (show _ = Value.agg (exV { ex0 with kind := 2, n := 0 }).toArray from rfl) rfl rfl hC2 rfl ?_)))))
  intro wE hE hoE hsE
  have hx := hx2.trans' hoE (fun _ h => h) (fun k hk he => by omega)
  refine Wa rfl (Wg vB (Wc (Wm (retCT rfl TI40 rfl vB rfl (cells_all hE) rfl ?_))))
  exact ⟨by simp_all [leafE], hx⟩
 try simp only [cs8] at c17
 refine We (Wb (Wa rfl (o_eqT rfl rfl (Wa rfl (Wg vB (Wc (Wn rfl (fun c20 => ?_) (fun c20 => ?_))))))))
 ·try simp only [cs8] at c20
  refine We (Wb (Wa rfl (o_bldC (cs := [(.int .i64 3), (.int .i64 0), (.string ⟨#[]⟩), (.string ⟨#[]⟩), (.int .i64 0), (.int .i64 0), (.int .i64 0)]) TI40 (Sizes.cons TI3 (Sizes.cons TI3 (Sizes.cons TI9 (Sizes.cons TI9 (Sizes.cons TI3 (Sizes.cons TI3 (Sizes.cons TI3 Sizes.nil))))))) rfl (lcp vI lnp) rfl rfl (WL.u (o_stA TI40 rfl (show _ = Value.agg (exV { ex0 with kind := 3, n := 0 }).toArray from rfl) rfl rfl hC2 rfl ?_)))))
  intro wE hE hoE hsE
  have hx := hx2.trans' hoE (fun _ h => h) (fun k hk he => by omega)
  refine Wa rfl (Wg vB (Wc (Wm (retCT rfl TI40 rfl vB rfl (cells_all hE) rfl ?_))))
  exact ⟨by simp_all [leafE], hx⟩
 try simp only [cs8] at c20
 refine Wp (We (Wb (Wa rfl (o_bldC (cs := [(.int .i64 0), (.int .i64 0), (.string ⟨#[]⟩), (.string ⟨#[]⟩), (.int .i64 0), (.int .i64 0), (.int .i64 0)]) TI40 (Sizes.cons TI3 (Sizes.cons TI3 (Sizes.cons TI9 (Sizes.cons TI9 (Sizes.cons TI3 (Sizes.cons TI3 (Sizes.cons TI3 Sizes.nil))))))) rfl lnp rfl rfl (WL.u (o_stA TI40 rfl (show _ = Value.agg (exV { ex0 with kind := 0, n := 0 }).toArray from rfl) rfl rfl hC2 rfl ?_))))))
 intro wE hE hoE hsE
 have hx := hx2.trans' hoE (fun _ h => h) (fun k hk he => by omega)
 refine Wa rfl (Wg vB (Wc (Wm (retCT rfl TI40 rfl vB rfl (cells_all hE) rfl ?_))))
 exact ⟨by simp_all [leafE], hx⟩
theorem begins_spec (t : Tk) (w0 : World) (hlen : t.text.length ≤ 9223372036854775807) : Ca Tryd.prog 47 #[.agg (tokV t)] w0 (fun v w' => v = .bool (bgnT t) ∧ Ext w0 w') := by
 refine Ca.of Tryd.func47 Tryd.ntmps47 rfl rfl (We (Wb (Wa rfl (o_boxB rfl ?_))))
 intro w1 hC1 hx1 hs1
 have hx := hx1
 replace hC1 : w1.heap[w0.heap.size]? = some (.cells (tokV t) 112 (0, 0)) := hC1
 refine Wa rfl (Wg vB (Wc (We (We (Wb (Wa rfl (Wl 0 TI112 rfl TI3 rfl rfl (Wa rfl (Wk TI3 rfl rfl (Wh hC1 rfl) (Wa rfl (o_ne rfl rfl (Wc (Wn rfl (fun c7 => ?_) (fun c7 => ?_))))))))))))))
 ·try simp only [cs8] at c7
  have hk1 : ¬ t.kind = 1 := by omega
  refine We (Wb (Wa rfl (Wg vB (Wc (Wm (Wu rfl vB ?_))))))
  exact ⟨congrArg Value.bool (by simp_all [bgnT]), hx⟩
 try simp only [cs8] at c7
 have hk1 : t.kind = 1 := by omega
 refine Wp (We (We (Wb (Wa rfl (Wl 1 TI112 rfl TI9 rfl rfl (Wa rfl (Wk TI9 rfl rfl (Wh hC1 rfl) (Wc (W.block (We (We (Wb (Wa rfl (o_eqT rfl rfl (Wa rfl (Wg vB (Wc (Wn rfl (fun c10 => ?_) (fun c10 => ?_)))))))))))))))))))
 ·try simp only [cs8] at c10
  refine Wp (Wn rfl (fun c10 => ?_) (fun c10 => ?_))
  ·try simp only [cs8] at c10
   refine We (Wb (Wa rfl (Wg vB (Wc (Wm (Wu rfl vB ?_))))))
   exact ⟨congrArg Value.bool (by simp_all [bgnT]), hx⟩
  try simp only [cs8] at c10
  refine Wp (We (Wb (Wa rfl (Wl 1 TI112 rfl TI9 rfl rfl (Wa rfl (Wk TI9 rfl rfl (Wh hC1 rfl) (Wa rfl (o_call Tryd.call48 (lc rfl ln) ((leaf_spec t.text _).mono ?_)))))))))
  rintro v19 w19 ⟨rfl, hx19⟩
  replace hx := hx.tr hx19
  replace hC1 := hx19.blk hC1 (fun h => h)
  refine Wa rfl (Wf (by first | exact (show _ = Value.tuple _ from rfl) | exact rfl) (Wa rfl (o_ext rfl rfl (Wa rfl (o_ext rfl rfl (Wa rfl (o_alB TI40 ?_)))))))
  intro wa hCa hxa hsa
  refine WL.u (o_stA TI40 rfl (show _ = Value.agg (exV { ex0 with kind := ((leafE t.text).getD (0, 0)).1, n := ((leafE t.text).getD (0, 0)).2 }).toArray from rfl) rfl rfl hCa rfl ?_)
  intro wb hB3 hob hsb
  have hxb := Ext.own hxa (Nat.le_refl _) hob
  clear hCa hxa hsa hob hsb
  replace hC1 := hxb.blk hC1 (fun h => h)
  replace hx := hx.tr hxb
  refine Wa rfl (Wg vB (Wc (We (Wb (Wa rfl (Wf vB (Wa rfl (Wf vB (Wq 1 rfl (fun g23 => ?_) (fun g23 => ?_))))))))))
  ·skip
   refine Wi rfl (g23) rfl (Wi rfl (g23) rfl (Wi rfl (g23) rfl (Wa rfl (o_pickT rfl (g23) (Wa rfl (Wg vB (Wc (Wm (Wu rfl vB ?_)))))))))
   exact ⟨congrArg Value.bool (by simp_all [bgnT]), hx⟩
  skip
  refine Wj rfl (g23) rfl (Wl 1 TI112 rfl TI9 rfl rfl (Wj rfl (g23) rfl (Wk TI9 rfl rfl (Wh hC1 rfl) (Wj rfl (g23) rfl (o_call Tryd.call31 (lc rfl ln) ((name_spec t.text _ hlen).mono ?_))))))
  rintro v26 w26 ⟨rfl, rfl⟩
  refine Wa rfl (o_pickO rfl rfl (Wa rfl (Wg vB (Wc (Wm (Wu rfl vB ?_))))))
  exact ⟨congrArg Value.bool (by simp_all [bgnT]), hx⟩
 try simp only [cs8] at c10
 refine We (Wb (Wa rfl (o_eqT rfl rfl (Wa rfl (Wg vB (Wc (Wn rfl (fun c10 => ?_) (fun c10 => ?_))))))))
 ·try simp only [cs8] at c10
  refine Wp (Wn rfl (fun c10 => ?_) (fun c10 => ?_))
  ·try simp only [cs8] at c10
   refine We (Wb (Wa rfl (Wg vB (Wc (Wm (Wu rfl vB ?_))))))
   exact ⟨congrArg Value.bool (by simp_all [bgnT]), hx⟩
  try simp only [cs8] at c10
  refine Wp (We (Wb (Wa rfl (Wl 1 TI112 rfl TI9 rfl rfl (Wa rfl (Wk TI9 rfl rfl (Wh hC1 rfl) (Wa rfl (o_call Tryd.call48 (lc rfl ln) ((leaf_spec t.text _).mono ?_)))))))))
  rintro v19 w19 ⟨rfl, hx19⟩
  replace hx := hx.tr hx19
  replace hC1 := hx19.blk hC1 (fun h => h)
  refine Wa rfl (Wf (by first | exact (show _ = Value.tuple _ from rfl) | exact rfl) (Wa rfl (o_ext rfl rfl (Wa rfl (o_ext rfl rfl (Wa rfl (o_alB TI40 ?_)))))))
  intro wa hCa hxa hsa
  refine WL.u (o_stA TI40 rfl (show _ = Value.agg (exV { ex0 with kind := ((leafE t.text).getD (0, 0)).1, n := ((leafE t.text).getD (0, 0)).2 }).toArray from rfl) rfl rfl hCa rfl ?_)
  intro wb hB3 hob hsb
  have hxb := Ext.own hxa (Nat.le_refl _) hob
  clear hCa hxa hsa hob hsb
  replace hC1 := hxb.blk hC1 (fun h => h)
  replace hx := hx.tr hxb
  refine Wa rfl (Wg vB (Wc (We (Wb (Wa rfl (Wf vB (Wa rfl (Wf vB (Wq 1 rfl (fun g23 => ?_) (fun g23 => ?_))))))))))
  ·skip
   refine Wi rfl (g23) rfl (Wi rfl (g23) rfl (Wi rfl (g23) rfl (Wa rfl (o_pickT rfl (g23) (Wa rfl (Wg vB (Wc (Wm (Wu rfl vB ?_)))))))))
   exact ⟨congrArg Value.bool (by simp_all [bgnT]), hx⟩
  skip
  refine Wj rfl (g23) rfl (Wl 1 TI112 rfl TI9 rfl rfl (Wj rfl (g23) rfl (Wk TI9 rfl rfl (Wh hC1 rfl) (Wj rfl (g23) rfl (o_call Tryd.call31 (lc rfl ln) ((name_spec t.text _ hlen).mono ?_))))))
  rintro v26 w26 ⟨rfl, rfl⟩
  refine Wa rfl (o_pickO rfl rfl (Wa rfl (Wg vB (Wc (Wm (Wu rfl vB ?_))))))
  exact ⟨congrArg Value.bool (by simp_all [bgnT]), hx⟩
 try simp only [cs8] at c10
 refine We (Wb (Wa rfl (o_eqT rfl rfl (Wa rfl (Wg vB (Wc (Wn rfl (fun c10 => ?_) (fun c10 => ?_))))))))
 ·try simp only [cs8] at c10
  refine Wp (Wn rfl (fun c10 => ?_) (fun c10 => ?_))
  ·try simp only [cs8] at c10
   refine We (Wb (Wa rfl (Wg vB (Wc (Wm (Wu rfl vB ?_))))))
   exact ⟨congrArg Value.bool (by simp_all [bgnT]), hx⟩
  try simp only [cs8] at c10
  refine Wp (We (Wb (Wa rfl (Wl 1 TI112 rfl TI9 rfl rfl (Wa rfl (Wk TI9 rfl rfl (Wh hC1 rfl) (Wa rfl (o_call Tryd.call48 (lc rfl ln) ((leaf_spec t.text _).mono ?_)))))))))
  rintro v19 w19 ⟨rfl, hx19⟩
  replace hx := hx.tr hx19
  replace hC1 := hx19.blk hC1 (fun h => h)
  refine Wa rfl (Wf (by first | exact (show _ = Value.tuple _ from rfl) | exact rfl) (Wa rfl (o_ext rfl rfl (Wa rfl (o_ext rfl rfl (Wa rfl (o_alB TI40 ?_)))))))
  intro wa hCa hxa hsa
  refine WL.u (o_stA TI40 rfl (show _ = Value.agg (exV { ex0 with kind := ((leafE t.text).getD (0, 0)).1, n := ((leafE t.text).getD (0, 0)).2 }).toArray from rfl) rfl rfl hCa rfl ?_)
  intro wb hB3 hob hsb
  have hxb := Ext.own hxa (Nat.le_refl _) hob
  clear hCa hxa hsa hob hsb
  replace hC1 := hxb.blk hC1 (fun h => h)
  replace hx := hx.tr hxb
  refine Wa rfl (Wg vB (Wc (We (Wb (Wa rfl (Wf vB (Wa rfl (Wf vB (Wq 1 rfl (fun g23 => ?_) (fun g23 => ?_))))))))))
  ·skip
   refine Wi rfl (g23) rfl (Wi rfl (g23) rfl (Wi rfl (g23) rfl (Wa rfl (o_pickT rfl (g23) (Wa rfl (Wg vB (Wc (Wm (Wu rfl vB ?_)))))))))
   exact ⟨congrArg Value.bool (by simp_all [bgnT]), hx⟩
  skip
  refine Wj rfl (g23) rfl (Wl 1 TI112 rfl TI9 rfl rfl (Wj rfl (g23) rfl (Wk TI9 rfl rfl (Wh hC1 rfl) (Wj rfl (g23) rfl (o_call Tryd.call31 (lc rfl ln) ((name_spec t.text _ hlen).mono ?_))))))
  rintro v26 w26 ⟨rfl, rfl⟩
  refine Wa rfl (o_pickO rfl rfl (Wa rfl (Wg vB (Wc (Wm (Wu rfl vB ?_))))))
  exact ⟨congrArg Value.bool (by simp_all [bgnT]), hx⟩
 try simp only [cs8] at c10
 refine We (Wb (Wa rfl (o_eqT rfl rfl (Wa rfl (Wg vB (Wc (Wn rfl (fun c10 => ?_) (fun c10 => ?_))))))))
 ·try simp only [cs8] at c10
  refine Wp (Wn rfl (fun c10 => ?_) (fun c10 => ?_))
  ·try simp only [cs8] at c10
   refine We (Wb (Wa rfl (Wg vB (Wc (Wm (Wu rfl vB ?_))))))
   exact ⟨congrArg Value.bool (by simp_all [bgnT]), hx⟩
  try simp only [cs8] at c10
  refine Wp (We (Wb (Wa rfl (Wl 1 TI112 rfl TI9 rfl rfl (Wa rfl (Wk TI9 rfl rfl (Wh hC1 rfl) (Wa rfl (o_call Tryd.call48 (lc rfl ln) ((leaf_spec t.text _).mono ?_)))))))))
  rintro v19 w19 ⟨rfl, hx19⟩
  replace hx := hx.tr hx19
  replace hC1 := hx19.blk hC1 (fun h => h)
  refine Wa rfl (Wf (by first | exact (show _ = Value.tuple _ from rfl) | exact rfl) (Wa rfl (o_ext rfl rfl (Wa rfl (o_ext rfl rfl (Wa rfl (o_alB TI40 ?_)))))))
  intro wa hCa hxa hsa
  refine WL.u (o_stA TI40 rfl (show _ = Value.agg (exV { ex0 with kind := ((leafE t.text).getD (0, 0)).1, n := ((leafE t.text).getD (0, 0)).2 }).toArray from rfl) rfl rfl hCa rfl ?_)
  intro wb hB3 hob hsb
  have hxb := Ext.own hxa (Nat.le_refl _) hob
  clear hCa hxa hsa hob hsb
  replace hC1 := hxb.blk hC1 (fun h => h)
  replace hx := hx.tr hxb
  refine Wa rfl (Wg vB (Wc (We (Wb (Wa rfl (Wf vB (Wa rfl (Wf vB (Wq 1 rfl (fun g23 => ?_) (fun g23 => ?_))))))))))
  ·skip
   refine Wi rfl (g23) rfl (Wi rfl (g23) rfl (Wi rfl (g23) rfl (Wa rfl (o_pickT rfl (g23) (Wa rfl (Wg vB (Wc (Wm (Wu rfl vB ?_)))))))))
   exact ⟨congrArg Value.bool (by simp_all [bgnT]), hx⟩
  skip
  refine Wj rfl (g23) rfl (Wl 1 TI112 rfl TI9 rfl rfl (Wj rfl (g23) rfl (Wk TI9 rfl rfl (Wh hC1 rfl) (Wj rfl (g23) rfl (o_call Tryd.call31 (lc rfl ln) ((name_spec t.text _ hlen).mono ?_))))))
  rintro v26 w26 ⟨rfl, rfl⟩
  refine Wa rfl (o_pickO rfl rfl (Wa rfl (Wg vB (Wc (Wm (Wu rfl vB ?_))))))
  exact ⟨congrArg Value.bool (by simp_all [bgnT]), hx⟩
 try simp only [cs8] at c10
 refine Wb (Wa rfl (o_eqT rfl rfl (Wa rfl (Wg vB (Wc (Wn rfl (fun c10 => ?_) (fun c10 => ?_)))))))
 ·try simp only [cs8] at c10
  refine We (Wb (Wa rfl (Wg vB (Wc (Wm (Wu rfl vB ?_))))))
  exact ⟨congrArg Value.bool (by simp_all [bgnT]), hx⟩
 try simp only [cs8] at c10
 refine Wp (We (Wb (Wa rfl (Wl 1 TI112 rfl TI9 rfl rfl (Wa rfl (Wk TI9 rfl rfl (Wh hC1 rfl) (Wa rfl (o_call Tryd.call48 (lc rfl ln) ((leaf_spec t.text _).mono ?_)))))))))
 rintro v19 w19 ⟨rfl, hx19⟩
 replace hx := hx.tr hx19
 replace hC1 := hx19.blk hC1 (fun h => h)
 refine Wa rfl (Wf (by first | exact (show _ = Value.tuple _ from rfl) | exact rfl) (Wa rfl (o_ext rfl rfl (Wa rfl (o_ext rfl rfl (Wa rfl (o_alB TI40 ?_)))))))
 intro wa hCa hxa hsa
 refine WL.u (o_stA TI40 rfl (show _ = Value.agg (exV { ex0 with kind := ((leafE t.text).getD (0, 0)).1, n := ((leafE t.text).getD (0, 0)).2 }).toArray from rfl) rfl rfl hCa rfl ?_)
 intro wb hB3 hob hsb
 have hxb := Ext.own hxa (Nat.le_refl _) hob
 clear hCa hxa hsa hob hsb
 replace hC1 := hxb.blk hC1 (fun h => h)
 replace hx := hx.tr hxb
 refine Wa rfl (Wg vB (Wc (We (Wb (Wa rfl (Wf vB (Wa rfl (Wf vB (Wq 1 rfl (fun g23 => ?_) (fun g23 => ?_))))))))))
 ·skip
  refine Wi rfl (g23) rfl (Wi rfl (g23) rfl (Wi rfl (g23) rfl (Wa rfl (o_pickT rfl (g23) (Wa rfl (Wg vB (Wc (Wm (Wu rfl vB ?_)))))))))
  exact ⟨congrArg Value.bool (by simp_all [bgnT]), hx⟩
 skip
 refine Wj rfl (g23) rfl (Wl 1 TI112 rfl TI9 rfl rfl (Wj rfl (g23) rfl (Wk TI9 rfl rfl (Wh hC1 rfl) (Wj rfl (g23) rfl (o_call Tryd.call31 (lc rfl ln) ((name_spec t.text _ hlen).mono ?_))))))
 rintro v26 w26 ⟨rfl, rfl⟩
 refine Wa rfl (o_pickO rfl rfl (Wa rfl (Wg vB (Wc (Wm (Wu rfl vB ?_))))))
 exact ⟨congrArg Value.bool (by simp_all [bgnT]), hx⟩
end Go.Proofs.YtpbflfgigfdohaaDoor

namespace Go.Proofs.YtpbflfgigfdohaaDoor
open Go Go.Vc Go.RowKit Go.Proofs

theorem headT_u {T : List Tk} {full : Bool} {i : Nat} {x : Ex} : headT T true full i x = if full = true ∧ (tkA T i).kind = 2 then .bad 5 i else (numT T i).bind fun n i => .ok { x with tag := n } i := rfl
theorem headT_s {T : List Tk} {full : Bool} {i : Nat} {x : Ex} : headT T false full i x = if full = true ∧ nmT (tkA T i) = true then .bad 5 i else (nameT T i).bind fun s i => .ok { x with label := s } i := rfl
theorem cells_exV {x : Ex} : (exV x).length = 7 := rfl
def exs (L : List Ex) : List Value := L.flatMap exV
theorem exs_len (L : List Ex) : (exs L).length = L.length * 7 := by
 induction L with
 | nil => rfl
 | cons a l ih => rw [exs, List.flatMap_cons, List.length_append, cells_exV]; show 7 + (exs l).length = _; rw [ih, List.length_cons]; omega
theorem exs_snoc (L : List Ex) (x : Ex) : exs (L ++ [x]) = exs L ++ exV x := by simp [exs]
theorem exs_app (L M : List Ex) : exs (L ++ M) = exs L ++ exs M := by simp [exs]

theorem headu_spec (B0 p c4 bx : Nat) (lv : Value) (T : List Tk) (fin at_ : Nat) (full : Bool) (x : Ex) (w0 : World) (h : Psr w0 B0 p lv T fin at_) (hc : w0.heap[c4]? = some (.cells #[.pointer (some ⟨p, 0, none⟩)] 80 (0, 0))) (hx0 : w0.heap[bx]? = some (.cells (exV x).toArray 40 (0, 0))) (hbp : ¬ bx = p) (hcp : ¬ c4 = p) (hbp2 : p < bx) : CaX Tryd.prog 51 #[.pointer (some ⟨bx, 0, none⟩), .bool full, .pointer (some ⟨c4, 0, none⟩)] w0 (fun _ w' => ∃ y, headT T true full at_ x = .ok y (at_ + 1) ∧ w'.heap[bx]? = some (.cells (exV y).toArray 40 (0, 0)) ∧ Psr w' B0 p lv T fin (at_ + 1) ∧ Only (fun k => k = p ∨ k = bx) w0 w') (fun ch w' => ∃ e j, headT T true full at_ x = .bad e j ∧ ch = [pan e (plc T fin j)] ∧ Ext w0 w') := by
 have hx : Ext w0 w0 := Only.refl _ _
 have hsm := h.small
 have hle := h.le
 refine CaX.of Tryd.func51 Tryd.ntmps51 rfl rfl (We (We (Wb (Wa rfl (Wf vB (Wa rfl (Wf vB (Wq 1 rfl (fun g6 => ?_) (fun g6 => ?_)))))))))
 ·skip
  refine Wj rfl (g6) rfl (Wk TI80 rfl rfl (Wh hc rfl) (Wj rfl (g6) rfl (o_call Tryd.call45 (lc rfl ln) ((peek_spec B0 p lv T fin at_ _ h).mono ?_))))
  rintro v8 w8 ⟨rfl, hx8⟩
  replace h := h.ext hx8
  replace hx := hx.tr hx8
  replace hc := hx8.blk hc (fun h => h)
  replace hx0 := hx8.blk hx0 (fun h => h)
  refine Wj rfl (g6) rfl (o_fldT TI112 rfl rfl rfl TI3 rfl rfl rfl (Wj rfl (g6) rfl (o_eq rfl rfl (Wa rfl (Ww rfl rfl (Wc (Wn rfl (fun c11 => ?_) (fun c11 => ?_))))))))
  ·try simp only [cs8] at c11
   have hk2 : full = true ∧ (tkA T at_).kind = 2 := by simp_all <;> omega
   refine Wb (Wa rfl (Wk TI80 rfl rfl (Wh hc rfl) (WL.cx rfl (ox_call Tryd.call23 (lc rfl (lc rfl ln)) ((fails_spec B0 p lv T fin at_ _ h 5).mono ?_ (fun ch w' hh => by obtain ⟨h1, h2⟩ := hh; exact ⟨5, at_, by rw [headT_u, if_pos hk2], h1, hx.tr h2⟩))))))
   exact fun _ _ hf => hf.elim
  try simp only [cs8] at c11
  have hk2 : ¬ (full = true ∧ (tkA T at_).kind = 2) := by simp_all <;> omega
  refine Wp (Wb (Wa rfl (Wf (by first | exact (show _ = Value.pointer _ from rfl) | exact rfl) (Wa rfl (Wk TI80 rfl rfl (Wh hc rfl) (WL.cx rfl (ox_call Tryd.call49 (lc rfl ln) ((nump_spec B0 p lv T fin at_ _ h).mono ?_ (fun ch w' hh => by obtain ⟨e, j, h1, h2, h3⟩ := hh; exact ⟨e, j, by rw [headT_u, if_neg hk2, h1, Pr.bind], h2, hx.tr h3⟩)))))))))
  rintro v16 w16 ⟨n, hn, rfl, h', hop⟩
  refine Wa rfl (o_nil rfl (Wa rfl (Wl 4 TI40 rfl TI3 rfl rfl (WL.u (o_stB TI3 rfl vI rfl (hop.blk hx0 hbp) (show 4 < 7 by decide) ?_)))))
  intro wz hBz hoz hsz
  refine Wc (ret0 rfl ?_)
  exact ⟨{ x with tag := n }, by rw [headT_u, if_neg hk2, hn, Pr.bind], hBz, h'.keep hoz (fun k hk => by subst hk; exact hbp2), (hx.mono (fun _ _ h => h.elim)).trans ((hop.mono (fun _ _ h => .inl h)).trans (hoz.mono (fun _ _ h => .inr h)))⟩
 skip
 refine Wi rfl (g6) rfl (Wi rfl (g6) rfl (Wi rfl (g6) rfl (Wi rfl (g6) rfl (Wa rfl (Wv rfl (g6) (Wc (Wn rfl (fun c11 => ?_) (fun c11 => ?_))))))))
 ·try simp only [cs8] at c11
  have hk2 : full = true ∧ (tkA T at_).kind = 2 := by simp_all <;> omega
  refine Wb (Wa rfl (Wk TI80 rfl rfl (Wh hc rfl) (WL.cx rfl (ox_call Tryd.call23 (lc rfl (lc rfl ln)) ((fails_spec B0 p lv T fin at_ _ h 5).mono ?_ (fun ch w' hh => by obtain ⟨h1, h2⟩ := hh; exact ⟨5, at_, by rw [headT_u, if_pos hk2], h1, hx.tr h2⟩))))))
  exact fun _ _ hf => hf.elim
 try simp only [cs8] at c11
 have hk2 : ¬ (full = true ∧ (tkA T at_).kind = 2) := by simp_all <;> omega
 refine Wp (Wb (Wa rfl (Wf (by first | exact (show _ = Value.pointer _ from rfl) | exact rfl) (Wa rfl (Wk TI80 rfl rfl (Wh hc rfl) (WL.cx rfl (ox_call Tryd.call49 (lc rfl ln) ((nump_spec B0 p lv T fin at_ _ h).mono ?_ (fun ch w' hh => by obtain ⟨e, j, h1, h2, h3⟩ := hh; exact ⟨e, j, by rw [headT_u, if_neg hk2, h1, Pr.bind], h2, hx.tr h3⟩)))))))))
 rintro v16 w16 ⟨n, hn, rfl, h', hop⟩
 refine Wa rfl (o_nil rfl (Wa rfl (Wl 4 TI40 rfl TI3 rfl rfl (WL.u (o_stB TI3 rfl vI rfl (hop.blk hx0 hbp) (show 4 < 7 by decide) ?_)))))
 intro wz hBz hoz hsz
 refine Wc (ret0 rfl ?_)
 exact ⟨{ x with tag := n }, by rw [headT_u, if_neg hk2, hn, Pr.bind], hBz, h'.keep hoz (fun k hk => by subst hk; exact hbp2), (hx.mono (fun _ _ h => h.elim)).trans ((hop.mono (fun _ _ h => .inl h)).trans (hoz.mono (fun _ _ h => .inr h)))⟩
theorem heads_spec (B0 p c4 bx : Nat) (lv : Value) (T : List Tk) (fin at_ : Nat) (full : Bool) (x : Ex) (w0 : World) (h : Psr w0 B0 p lv T fin at_) (hc : w0.heap[c4]? = some (.cells #[.pointer (some ⟨p, 0, none⟩)] 80 (0, 0))) (hx0 : w0.heap[bx]? = some (.cells (exV x).toArray 40 (0, 0))) (hbp : ¬ bx = p) (hcp : ¬ c4 = p) (hbp2 : p < bx) (hln : ∀ i, (tkA T i).text.length ≤ 9223372036854775807) : CaX Tryd.prog 52 #[.pointer (some ⟨bx, 0, none⟩), .bool full, .pointer (some ⟨c4, 0, none⟩)] w0 (fun _ w' => ∃ y, headT T false full at_ x = .ok y (at_ + 1) ∧ w'.heap[bx]? = some (.cells (exV y).toArray 40 (0, 0)) ∧ Psr w' B0 p lv T fin (at_ + 1) ∧ Only (fun k => k = p ∨ k = bx) w0 w') (fun ch w' => ∃ e j, headT T false full at_ x = .bad e j ∧ ch = [pan e (plc T fin j)] ∧ Ext w0 w') := by
 have hx : Ext w0 w0 := Only.refl _ _
 have hsm := h.small
 have hle := h.le
 have hlen : (tkA T at_).text.length ≤ 9223372036854775807 := hln at_
 refine CaX.of Tryd.func52 Tryd.ntmps52 rfl rfl (We (We (Wb (Wa rfl (Wf vB (Wa rfl (Wf vB (Wq 1 rfl (fun g6 => ?_) (fun g6 => ?_)))))))))
 ·skip
  refine Wj rfl (g6) rfl (Wk TI80 rfl rfl (Wh hc rfl) (Wj rfl (g6) rfl (o_call Tryd.call46 (lc rfl ln) ((isname_spec B0 p lv T fin at_ _ h hlen).mono ?_))))
  rintro v8 w8 ⟨rfl, hx8⟩
  replace h := h.ext hx8
  replace hx := hx.tr hx8
  replace hc := hx8.blk hc (fun h => h)
  replace hx0 := hx8.blk hx0 (fun h => h)
  refine Wa rfl (Ww rfl rfl (Wc (Wn rfl (fun c9 => ?_) (fun c9 => ?_))))
  ·try simp only [cs8] at c9
   have hk2 : full = true ∧ nmT (tkA T at_) = true := by simp_all <;> omega
   refine Wb (Wa rfl (Wk TI80 rfl rfl (Wh hc rfl) (WL.cx rfl (ox_call Tryd.call23 (lc rfl (lc rfl ln)) ((fails_spec B0 p lv T fin at_ _ h 5).mono ?_ (fun ch w' hh => by obtain ⟨h1, h2⟩ := hh; exact ⟨5, at_, by rw [headT_s, if_pos hk2], h1, hx.tr h2⟩))))))
   exact fun _ _ hf => hf.elim
  try simp only [cs8] at c9
  have hk2 : ¬ (full = true ∧ nmT (tkA T at_) = true) := by simp_all <;> omega
  refine Wp (Wb (Wa rfl (Wf (by first | exact (show _ = Value.pointer _ from rfl) | exact rfl) (Wa rfl (Wk TI80 rfl rfl (Wh hc rfl) (WL.cx rfl (ox_call Tryd.call26 (lc rfl ln) ((namep_spec B0 p lv T fin at_ _ h hlen).mono ?_ (fun ch w' hh => by obtain ⟨e, j, h1, h2, h3⟩ := hh; exact ⟨e, j, by rw [headT_s, if_neg hk2, h1, Pr.bind], h2, hx.tr h3⟩)))))))))
  rintro v14 w14 ⟨s, hn, rfl, h', hop⟩
  refine Wa rfl (o_nil rfl (Wa rfl (Wl 3 TI40 rfl TI9 rfl rfl (WL.u (o_stB TI9 rfl (show _ = Value.string _ from rfl) rfl (hop.blk hx0 hbp) (show 3 < 7 by decide) ?_)))))
  intro wz hBz hoz hsz
  refine Wc (ret0 rfl ?_)
  exact ⟨{ x with label := s }, by rw [headT_s, if_neg hk2, hn, Pr.bind], hBz, h'.keep hoz (fun k hk => by subst hk; exact hbp2), (hx.mono (fun _ _ h => h.elim)).trans ((hop.mono (fun _ _ h => .inl h)).trans (hoz.mono (fun _ _ h => .inr h)))⟩
 skip
 refine Wi rfl (g6) rfl (Wi rfl (g6) rfl (Wa rfl (Wv rfl (g6) (Wc (Wn rfl (fun c9 => ?_) (fun c9 => ?_))))))
 ·try simp only [cs8] at c9
  have hk2 : full = true ∧ nmT (tkA T at_) = true := by simp_all <;> omega
  refine Wb (Wa rfl (Wk TI80 rfl rfl (Wh hc rfl) (WL.cx rfl (ox_call Tryd.call23 (lc rfl (lc rfl ln)) ((fails_spec B0 p lv T fin at_ _ h 5).mono ?_ (fun ch w' hh => by obtain ⟨h1, h2⟩ := hh; exact ⟨5, at_, by rw [headT_s, if_pos hk2], h1, hx.tr h2⟩))))))
  exact fun _ _ hf => hf.elim
 try simp only [cs8] at c9
 have hk2 : ¬ (full = true ∧ nmT (tkA T at_) = true) := by simp_all <;> omega
 refine Wp (Wb (Wa rfl (Wf (by first | exact (show _ = Value.pointer _ from rfl) | exact rfl) (Wa rfl (Wk TI80 rfl rfl (Wh hc rfl) (WL.cx rfl (ox_call Tryd.call26 (lc rfl ln) ((namep_spec B0 p lv T fin at_ _ h hlen).mono ?_ (fun ch w' hh => by obtain ⟨e, j, h1, h2, h3⟩ := hh; exact ⟨e, j, by rw [headT_s, if_neg hk2, h1, Pr.bind], h2, hx.tr h3⟩)))))))))
 rintro v14 w14 ⟨s, hn, rfl, h', hop⟩
 refine Wa rfl (o_nil rfl (Wa rfl (Wl 3 TI40 rfl TI9 rfl rfl (WL.u (o_stB TI9 rfl (show _ = Value.string _ from rfl) rfl (hop.blk hx0 hbp) (show 3 < 7 by decide) ?_)))))
 intro wz hBz hoz hsz
 refine Wc (ret0 rfl ?_)
 exact ⟨{ x with label := s }, by rw [headT_s, if_neg hk2, hn, Pr.bind], hBz, h'.keep hoz (fun k hk => by subst hk; exact hbp2), (hx.mono (fun _ _ h => h.elim)).trans ((hop.mono (fun _ _ h => .inl h)).trans (hoz.mono (fun _ _ h => .inr h)))⟩
end Go.Proofs.YtpbflfgigfdohaaDoor

namespace Go.Proofs.YtpbflfgigfdohaaDoor
open Go Go.Vc Go.RowKit Go.Proofs

theorem ob {g n c k : Nat} (h : (Value.slice (some ⟨g, 0, none⟩) n c).ownBlock = some k) : g = k := by simpa [Value.ownBlock] using h
theorem headT_at {T : List Tk} {u full : Bool} {i j : Nat} {a : Int} {y : Ex} (b : Int) (h : headT T u full i { ex0 with at_ := a } = .ok y j) : y.at_ = a ∧ i < T.length ∧ y.kids = 0 ∧ j = i + 1 ∧ headT T u full i { ex0 with at_ := b } = .ok { y with at_ := b } j := by
 cases u
 ·rw [headT_s] at h ⊢
  split at h
  ·cases h
  rename_i hn
  rw [if_neg hn]
  unfold nameT at h ⊢
  split at h
  ·rename_i h1
   rw [if_pos h1]
   simp only [Pr.bind, Pr.ok.injEq] at h ⊢
   obtain ⟨rfl, rfl⟩ := h
   exact ⟨rfl, tkA_kind (k := 1) (by decide) (by simp only [nmT, Bool.and_eq_true, decide_eq_true_eq] at h1; exact h1.1), rfl, rfl, rfl, rfl⟩
  cases h
 rw [headT_u] at h ⊢
 split at h
 ·cases h
 rename_i hn
 rw [if_neg hn]
 unfold numT at h ⊢
 split at h
 ·rename_i h1
  rw [if_pos h1]
  simp only [Pr.bind, Pr.ok.injEq] at h ⊢
  obtain ⟨rfl, rfl⟩ := h
  exact ⟨rfl, tkA_kind (k := 2) (by decide) h1, rfl, rfl, rfl, rfl⟩
 cases h
theorem headT_bad {T : List Tk} {u full : Bool} {i e j : Nat} {a : Int} (b : Int) (h : headT T u full i { ex0 with at_ := a } = .bad e j) : headT T u full i { ex0 with at_ := b } = .bad e j := by
 cases u
 ·rw [headT_s] at h ⊢
  split at h
  ·rename_i hn; rw [if_pos hn]; exact h
  rename_i hn
  rw [if_neg hn]
  unfold nameT at h ⊢
  split at h
  ·cases h
  rename_i h1; rw [if_neg h1]; exact h
 rw [headT_u] at h ⊢
 split at h
 ·rename_i hn; rw [if_pos hn]; exact h
 rename_i hn
 rw [if_neg hn]
 unfold numT at h ⊢
 split at h
 ·cases h
 rename_i h1; rw [if_neg h1]; exact h
def Ex.wk (x : Ex) (z : Int) : Ex := { x with kids := z }
def Ex.wn (x : Ex) (z : Int) : Ex := { x with n := z }
theorem wk_self {x : Ex} {z : Int} (h : x.kids = z) : x.wk z = x := by subst h; rfl
theorem dec64 {x : Ex} {k : Nat} : decide (k = 64) = decide (((x.wk (k : Int)).kids) = 64) := by
 rw [Bool.eq_iff_iff, decide_eq_true_iff, decide_eq_true_iff]
 show k = 64 ↔ (k : Int) = 64
 omega
theorem exs_set {L M : List Ex} {x : Ex} {z : Int} : (exs (L ++ x :: M)).set (L.length * 7 + 5) (.int .i64 z) = exs (L ++ x.wk z :: M) := by
 rw [exs_app, exs_app, List.set_append_right _ _ (by rw [exs_len]; omega), exs_len, show L.length * 7 + 5 - L.length * 7 = 5 by omega]
 rfl
theorem exs_setN {L M : List Ex} {x : Ex} {z : Int} : (exs (L ++ x :: M)).set (L.length * 7 + 1) (.int .i64 z) = exs (L ++ x.wn z :: M) := by
 rw [exs_app, exs_app, List.set_append_right _ _ (by rw [exs_len]; omega), exs_len, show L.length * 7 + 1 - L.length * 7 = 1 by omega]
 rfl
theorem exs_kids {L M : List Ex} {x : Ex} : (exs (L ++ x :: M))[L.length * 7 + 5]? = some (.int .i64 x.kids) := by
 rw [exs_app, List.getElem?_append_right (by rw [exs_len]; omega), exs_len, show L.length * 7 + 5 - L.length * 7 = 5 by omega]
 rfl
abbrev RowE (w : World) (B0 : Nat) (v : Value) (L : List Ex) : Prop := w.ownsRow B0 40 7 v L.length (exs L)
/-- what expr does, asx told by E, at the depth 'deep', from the token m on -/
def ESpec (B0 p : Nat) (lv : Value) (T : List Tk) (fin : Nat) (E : Nat → Ex → Pr (List Ex)) (deep m : Nat) : Prop :=
 ∀ (at_ : Nat) (x : Ex) (L : List Ex) (v : Value) (w0 : World), m ≤ at_ → x.kids = 0 → Psr w0 B0 p lv T fin at_ → RowE w0 B0 v L → L.length ≤ at_ →
  CaX Tryd.prog 28 #[.pointer (some ⟨p, 0, none⟩), v, .agg (exV (plE T x)).toArray, .int .i64 (deep : Int)] w0
   (fun v' w' => ∃ N j, E at_ x = .ok N j ∧ RowE w' B0 v' (L ++ N.map (plE T)) ∧ L.length + N.length ≤ j ∧ at_ < j ∧ (∀ k, v'.ownBlock = some k → v.ownBlock = some k ∨ w0.heap.size ≤ k) ∧ Psr w' B0 p lv T fin j ∧ Only (fun k => k = p ∨ v.ownBlock = some k) w0 w')
   (fun ch w' => ∃ e j, E at_ x = .bad e j ∧ ch = [pan e (plc T fin j)] ∧ Only (fun k => k = p ∨ v.ownBlock = some k) w0 w')
/-- what stands ahead of the colon is read by g -/
def HSpec (B0 p c4 : Nat) (lv : Value) (T : List Tk) (fin : Nat) (u : Bool) (g : FuncId) : Prop :=
 ∀ (bx at_ : Nat) (full : Bool) (x : Ex) (w0 : World), Psr w0 B0 p lv T fin at_ → w0.heap[c4]? = some (.cells #[.pointer (some ⟨p, 0, none⟩)] 80 (0, 0)) → w0.heap[bx]? = some (.cells (exV x).toArray 40 (0, 0)) → ¬ bx = p → ¬ c4 = p → p < bx →
  CaX Tryd.prog g #[.pointer (some ⟨bx, 0, none⟩), .bool full, .pointer (some ⟨c4, 0, none⟩)] w0 (fun _ w' => ∃ y, headT T u full at_ x = .ok y (at_ + 1) ∧ w'.heap[bx]? = some (.cells (exV y).toArray 40 (0, 0)) ∧ Psr w' B0 p lv T fin (at_ + 1) ∧ Only (fun k => k = p ∨ k = bx) w0 w') (fun ch w' => ∃ e j, headT T u full at_ x = .bad e j ∧ ch = [pan e (plc T fin j)] ∧ Ext w0 w')
theorem plE_at {T : List Tk} {y : Ex} {i : Nat} (h : y.at_ = ((tkA T i).at_ : Int)) : plE T { y with at_ := (i : Int) } = y := by
 unfold plE
 rw [if_neg (by show ¬ (i : Int) < 0; omega)]
 cases y
 simp only at h
 simp [h]
theorem rowsT_s {E : Nat → Ex → Pr (List Ex)} {T : List Tk} {u : Bool} {g i k : Nat} : rowsT E T u (g + 1) i k = ((headT T u (decide (k = 64)) i { ex0 with at_ := i }).bind fun x i => (wantT T i 3 [58]).bind fun _ i => (E i x).bind fun N i =>
  if isT (tkA T i) 3 [44] = true then (rowsT E T u g (i + 1) (k + 1)).bind fun r i => .ok (N ++ r.1, r.2) i
  else (wantT T i 3 [125]).bind fun _ i => .ok (N, k + 1) i) := rfl
theorem Pr.bind_ok {α β : Type} {a : α} {i : Nat} {f : α → Nat → Pr β} : (Pr.ok a i).bind f = f a i := rfl
set_option maxHeartbeats 2000000 in
theorem rows_spec (B0 p c4 : Nat) (lv : Value) (T : List Tk) (fin : Nat) (u : Bool) (g : FuncId) (hg : ∀ args w, (callFunc g args).run Tryd.prog w = .ok (.enter g args) w) (hH : HSpec B0 p c4 lv T fin u g) (E : Nat → Ex → Pr (List Ex)) (deep f m : Nat) (hE : ESpec B0 p lv T fin E (deep + 1) m) (hdeep : deep ≤ 16) (L : List Ex) (x : Ex) (hxk : x.kids = 0) (v : Value) (at_ : Nat) (w0 : World) (h : Psr w0 B0 p lv T fin at_) (hc4 : w0.heap[c4]? = some (.cells #[.pointer (some ⟨p, 0, none⟩)] 80 (0, 0))) (hcp : ¬ c4 = p) (hrow : RowE w0 B0 v (L ++ [plE T x])) (hl : L.length + 1 ≤ at_) (hm : m ≤ at_ + 1) (hf : T.length + 2 ≤ f + (at_ + 1)) : CaX Tryd.prog 50 #[.pointer (some ⟨p, 0, none⟩), v, .int .i64 (L.length : Int), .int .i64 (deep : Int), .int .i64 64, .func (.func g) #[] #[.pointer (some ⟨c4, 0, none⟩)]] w0 (fun v' w' => ∃ (N : List Ex) (k j : Nat), ((wantT T at_ 3 [123]).bind fun _ i => rowsT E T u f i 0) = .ok (N, k) j ∧ RowE w' B0 v' (L ++ (plE T x).wk (k : Int) :: N.map (plE T)) ∧ L.length + 1 + N.length ≤ j ∧ at_ < j ∧ (∀ k, v'.ownBlock = some k → v.ownBlock = some k ∨ w0.heap.size ≤ k) ∧ Psr w' B0 p lv T fin j ∧ Only (fun k => k = p ∨ v.ownBlock = some k) w0 w') (fun ch w' => ∃ e j, ((wantT T at_ 3 [123]).bind fun _ i => rowsT E T u f i 0) = .bad e j ∧ ch = [pan e (plc T fin j)] ∧ Only (fun k => k = p ∨ v.ownBlock = some k) w0 w') := by
 have hx : Ext w0 w0 := Only.refl _ _
 have hsm := h.small
 have hpl := (Array.getElem?_eq_some_iff.1 h.cell).1
 have hvp : ¬ v.ownBlock = some p := own_off hrow h.cell (by decide)
 have hvc : ¬ v.ownBlock = some c4 := own_off hrow hc4 (by decide)
 have hvl : ∀ k, v.ownBlock = some k → k < w0.heap.size := fun k hk => (hrow.lt k hk).2
 have hpk : (plE T x).kids = 0 := by unfold plE; split <;> exact hxk
 refine CaX.of Tryd.func50 Tryd.ntmps50 rfl rfl (We (Wb (Wa rfl (Wg (by first | exact vS | exact rfl) (Wc (We (Wb (Wa rfl (Wf (by first | exact (show _ = Value.pointer _ from rfl) | exact rfl) (WL.cx rfl (ox_call Tryd.call27 (lc rfl (lc rfl ln)) ((mark_spec B0 p lv T fin at_ _ h [123]).mono ?_ (fun ch w' hh => by obtain ⟨e, j, h1, h2, h3⟩ := hh; exact ⟨e, j, by rw [h1]; rfl, h2, h3.mono (fun _ _ h => h.elim)⟩)))))))))))))
 rintro v15 w15 ⟨hw, h', ho⟩
 replace h := h'
 have hcl : ¬ c4 = p := hcp
 replace hc4 := ho.blk hc4 hcp
 replace hrow := own_only hrow ho (fun k hk he => by subst he; exact hvp hk)
 have hq : Only (fun k => k = p ∨ v.ownBlock = some k) w0 w15 := ho.mono (fun _ _ h => .inl h)
 rw [hw]
 simp only [Pr.bind_ok]
 refine Wc (We (W.block (W.loopN (fun gg e w => ∃ (i k : Nat) (N : List Ex) (v' : Value), e 0 = .pointer (some ⟨p, 0, none⟩) ∧ e 1 = v' ∧ e 2 = .int .i64 (L.length : Int) ∧ e 3 = .int .i64 (deep : Int) ∧ e 4 = .int .i64 64 ∧ e 5 = .func (.func g) #[] #[.pointer (some ⟨c4, 0, none⟩)] ∧ Psr w B0 p lv T fin i ∧ RowE w B0 v' (L ++ (plE T x).wk (k : Int) :: N.map (plE T)) ∧ L.length + 1 + N.length ≤ i ∧ k ≤ i ∧ m ≤ i ∧ at_ < i ∧ T.length + 2 ≤ gg + i ∧ rowsT E T u f (at_ + 1) 0 = ((rowsT E T u gg i k).bind fun r i => .ok (N ++ r.1, r.2) i) ∧ (∀ k, v'.ownBlock = some k → v.ownBlock = some k ∨ w0.heap.size ≤ k) ∧ Only (fun k => k = p ∨ v.ownBlock = some k) w0 w ∧ w.heap[c4]? = some (.cells #[.pointer (some ⟨p, 0, none⟩)] 80 (0, 0))) ?_ ?_)))
 ·refine ⟨f, at_ + 1, 0, [], v, rfl, rfl, rfl, rfl, rfl, rfl, h, ?_, by simp; omega, by omega, by omega, by omega, hf, ?_, fun k hk => .inl hk, hq, hc4⟩
  ·rw [show ((0 : Nat) : Int) = 0 from rfl, wk_self hpk]; exact hrow
  cases rowsT E T u f (at_ + 1) 0 <;> simp [Pr.bind]
 rintro gg e w ⟨i, k, N, v', h0, h1, h2, h3, h4, h5, h, hrow, hNl, hki, hmi, hati, hfi, hres, hvb, hq, hc4⟩
 obtain ⟨gg, rfl⟩ : ∃ g', gg = g' + 1 := ⟨gg - 1, by have := h.le; omega⟩
 have hpw := (Array.getElem?_eq_some_iff.1 h.cell).1
 have hcw := (Array.getElem?_eq_some_iff.1 hc4).1
 obtain ⟨gv, cap, rfl, hgb⟩ := own_some hrow (by simp only [List.length_append, List.length_cons]; omega)
 refine W.block (We (Wb (Wa rfl (Wf h0 (Wa rfl (o_call Tryd.call25 (lc rfl ln) ((place_spec B0 p lv T fin i _ h).mono ?_)))))))
 rintro v17 w17 ⟨rfl, hx17⟩
 replace h := h.ext hx17
 replace hrow := Wr hrow hx17
 replace hc4 := hx17.blk hc4 (fun h => h)
 replace hq := hq.ext hx17
 have hq17 : w0.heap.size ≤ w17.heap.size := hq.size
 have hgv17 : gv < w17.heap.size := (hrow.lt gv rfl).2
 refine Wa rfl (o_bldC (cs := [(.int .i64 0), (.int .i64 0), (.string ⟨#[]⟩), (.string ⟨#[]⟩), (.int .i64 0), (.int .i64 0), _]) TI40 (Sizes.cons TI3 (Sizes.cons TI3 (Sizes.cons TI9 (Sizes.cons TI9 (Sizes.cons TI3 (Sizes.cons TI3 (Sizes.cons TI3 Sizes.nil))))))) rfl (lcp vI lnp) rfl rfl (Wa rfl (o_alB TI40 ?_)))
 intro wa hCa hxa hsa
 refine WL.u (o_stA TI40 rfl (show _ = Value.agg (exV { ex0 with at_ := (plc T fin i : Int) }).toArray from rfl) rfl rfl hCa rfl ?_)
 intro wb hB hob hsb
 have hxb := Ext.own hxa (Nat.le_refl _) hob
 clear hCa hob hsb
 replace h := h.ext hxb
 replace hrow := Wr hrow hxb
 replace hc4 := hxb.blk hc4 (fun h => h)
 replace hq := hq.ext hxb
 have h00 := h
 obtain ⟨bx, hbx⟩ : ∃ bx, bx = w17.heap.size := ⟨_, rfl⟩
 rw [← hbx] at hB ⊢
 have hpb : p < bx := by have := hx17.size; omega
 have hcb : c4 < bx := by have := hx17.size; omega
 have hBl := (Array.getElem?_eq_some_iff.1 hB).1
 refine Wc (We (Wb (Wa rfl (Wf h5 (Wa rfl (Wf h1 (Wa rfl (Wf h2 (Wa rfl (Wt (i := L.length) TI36 TI40 (show _ = Value.slice (some ⟨gv, 0, none⟩) (L ++ (plE T x).wk (k : Int) :: N.map (plE T)).length cap from rfl) rfl (by simp only [List.length_append, List.length_cons]; omega) (Wa rfl (Wl 5 TI40 rfl TI3 rfl rfl (Wa rfl (Wk TI3 rfl rfl (own_cell hrow (by rw [Nat.zero_add]; exact exs_kids)) (Wa rfl (Wf h4 (Wa rfl (o_eq rfl rfl (WL.cx rfl (ox_callC rfl hg (lc rfl (lc rfl ln)) ((hH bx i (decide ((((plE T x).wk (k : Int)).kids) = 64)) { ex0 with at_ := (plc T fin i : Int) } _ h hc4 hB (by omega) hcp hpb).mono ?_ (fun ch w' hh => by obtain ⟨e, j, h1, h2, h3⟩ := hh; exact ⟨e, j, by rw [hres, rowsT_s, dec64 (x := plE T x), headT_bad _ h1]; rfl, h2, hq.ext h3⟩))))))))))))))))))))))
 rintro v27 w27 ⟨y, hy, hB', h', ho⟩
 replace h := h'
 clear h' hB
 have h0c := h00.cell
 obtain ⟨hya, hil, hyk, -, hy2⟩ := headT_at (i : Int) hy
 have hpy : plE T { y with at_ := (i : Int) } = y := plE_at (by rw [hya, plc_lt hil])
 refine Wc (We (Wb (Wa rfl (Wf h0 (WL.cx rfl (ox_call Tryd.call27 (lc rfl (lc rfl ln)) ((mark_spec B0 p lv T fin (i + 1) _ h [58]).mono ?_ (fun ch w' hh => by obtain ⟨e, j, h1, h2, h3⟩ := hh; exact ⟨e, j, by rw [hres, rowsT_s, dec64 (x := plE T x), hy2, Pr.bind_ok, h1]; rfl, h2, (hq.trans' ho (fun _ h => h) (fun k hk hF => hF.imp id (fun he => by omega))).ext h3⟩))))))))
 rintro v29 w29 ⟨hw2, h', ho2⟩
 replace h := h'
 replace hB := ho2.blk hB' (fun he => by omega)
 have hob : Only (fun k => k = p ∨ k = bx) wb w29 := ho.trans (ho2.mono (fun _ _ h => .inl h))
 have hgb2 : ¬ gv = bx := by omega
 have hgp : ¬ gv = p := fun he => own_off hrow h0c (by decide) (by rw [he]; rfl)
 have hgc : ¬ gv = c4 := fun he => own_off hrow hc4 (by decide) (by rw [he]; rfl)
 replace hrow := own_only hrow hob (fun k hk hF => by obtain rfl := ob hk; rcases hF with hF | hF; exact hgp hF; exact hgb2 hF)
 replace hc4 := hob.blk hc4 (fun hF => by rcases hF with hF | hF; exact hcp hF; omega)
 replace hq := hq.trans' hob (fun _ h => h) (fun k hk hF => hF.imp id (fun he => by omega))
 refine Wc (We (Wb (Wa rfl (Wf h0 (Wa rfl (Wf h1 (Wa rfl (o_ldA TI40 rfl rfl (show Cells _ bx 0 (exV y) from Cells.of hB 0 _ (by simp)) rfl (Wa rfl (Wf h3 (Wa rfl (o_addi rfl rfl (by omega) ?_))))))))))))
 have hE2 := hE (i + 1 + 1) { y with at_ := (i : Int) } (L ++ (plE T x).wk (k : Int) :: N.map (plE T)) _ _ (by omega) hyk h hrow (by simp only [List.length_append, List.length_cons, List.length_map]; omega)
 rw [hpy, show ((deep + 1 : Nat) : Int) = (deep : Int) + 1 by omega] at hE2
 refine WL.cx rfl (ox_call Tryd.call28 (lc rfl (lc rfl (lc rfl (lc rfl ln)))) ((hE2).mono ?_ (fun ch w' hh => by obtain ⟨e, j, h1, h2, h3⟩ := hh; exact ⟨e, j, by rw [hres, rowsT_s, dec64 (x := plE T x), hy2, Pr.bind_ok, hw2, Pr.bind_ok, h1]; rfl, h2, hq.trans' h3 (fun _ h => h) (fun k hk hF => hF.imp id (fun he => (hvb k he).resolve_right (by omega)))⟩)))
 rintro v35 w35 ⟨M, j, hM, hrow', hMl, hij, hvb', h', ho3⟩
 have hsz0 := hq.size
 clear hrow h
 replace h := h'
 have erow : (L ++ (plE T x).wk (k : Int) :: N.map (plE T)) ++ M.map (plE T) = L ++ (plE T x).wk (k : Int) :: (N ++ M).map (plE T) := by simp
 rw [erow] at hrow'
 replace hc4 := ho3.blk hc4 (fun hF => by rcases hF with hF | hF; exact hcp hF; exact hgc (ob hF))
 replace hq := hq.trans' ho3 (fun _ h => h) (fun k hk hF => hF.imp id (fun he => (hvb k he).resolve_right (by omega)))
 have hvbn : ∀ k, v35.ownBlock = some k → v.ownBlock = some k ∨ w0.heap.size ≤ k := fun k hk => by
  rcases hvb' k hk with h1 | h1
  ·exact hvb k h1
  exact .inr (by omega)
 clear hvb'
 have hjl := h.le
 simp only [List.length_append, List.length_cons, List.length_map] at hMl
 obtain ⟨g2, cap2, rfl, hgb3⟩ := own_some hrow' (by simp only [List.length_append, List.length_cons]; omega)
 refine Wa rfl (Wg (by first | exact vS | exact rfl) (Wc (We (Wb (Wa rfl (Wf (by first | exact vS | exact rfl) (Wa rfl (Wf h2 (Wa rfl (Wt (i := L.length) TI36 TI40 (show _ = Value.slice (some ⟨g2, 0, none⟩) (L ++ (plE T x).wk (k : Int) :: (N ++ M).map (plE T)).length cap2 from rfl) rfl (by simp only [List.length_append, List.length_cons]; omega) (Wa rfl (Wl 5 TI40 rfl TI3 rfl rfl (Wa rfl (Wk TI3 rfl rfl (show _ = some (Value.int .i64 (k : Int)) from own_cell hrow' (by rw [Nat.zero_add]; exact exs_kids)) (Wa rfl (o_addi rfl rfl (by omega) (Wa rfl (Wt (i := L.length) TI36 TI40 (show _ = Value.slice (some ⟨g2, 0, none⟩) (L ++ (plE T x).wk (k : Int) :: (N ++ M).map (plE T)).length cap2 from rfl) rfl (by simp only [List.length_append, List.length_cons]; omega) (Wa rfl (Wl 5 TI40 rfl TI3 rfl rfl (WL.u (o_stRj (i := L.length * 7 + 5) TI3 rfl (by omega) (show _ = Value.int .i64 ((k : Int) + 1) from rfl) rfl hrow' rfl (by simp only [List.length_append, List.length_cons]; omega) ?_))))))))))))))))))))))
 intro w43 hrow2 ho43 hs43
 rw [exs_set] at hrow2
 replace hrow : RowE w43 B0 (.slice (some ⟨g2, 0, none⟩) (L ++ (plE T x).wk (k : Int) :: (N ++ M).map (plE T)).length cap2) (L ++ (plE T x).wk ((k + 1 : Nat) : Int) :: (N ++ M).map (plE T)) := by
  show World.ownsRow _ _ _ _ _ (L ++ (plE T x).wk ((k + 1 : Nat) : Int) :: (N ++ M).map (plE T)).length _
  rw [show (L ++ (plE T x).wk ((k + 1 : Nat) : Int) :: (N ++ M).map (plE T)).length = (L ++ (plE T x).wk (k : Int) :: (N ++ M).map (plE T)).length by simp only [List.length_append, List.length_cons]]
  exact hrow2
 have hg2p : ¬ g2 = p := fun he => own_off hrow' h.cell (by decide) (by rw [he]; rfl)
 have hg2c : ¬ g2 = c4 := fun he => own_off hrow' hc4 (by decide) (by rw [he]; rfl)
 have hg2r : p < g2 := by have := (hrow'.lt g2 rfl).1; have := h.hp; omega
 clear hrow' hrow2
 replace h := h.keep ho43 (fun k hk => by obtain rfl := ob hk; exact hg2r)
 replace hc4 := ho43.blk hc4 (fun hk => hg2c (ob hk))
 replace hq := hq.trans' ho43 (fun _ h => h) (fun k hk hF => .inr ((hvbn k hF).resolve_right (by omega)))
 refine Wc (We (We (Wb (Wa rfl (Wf h0 (Wa rfl (o_call Tryd.call22 (lc rfl (lc rfl (lc rfl ln))) ((is_spec B0 p lv T fin j _ h 3 [44]).mono ?_))))))))
 rintro v45 w45 ⟨rfl, hx45⟩
 replace h := h.ext hx45
 replace hrow := Wr hrow hx45
 replace hc4 := hx45.blk hc4 (fun h => h)
 replace hq := hq.ext hx45
 refine Wa rfl (o_not' rfl (Wc (Wn rfl (fun c46 => ?_) (fun c46 => ?_))))
 ·try simp only [cs8] at c46
  have hcm : ¬ isT (tkA T j) 3 [44] = true := by simp_all
  refine W.exit (We (Wb (Wa rfl (Wf h0 (WL.cx rfl (ox_call Tryd.call27 (lc rfl (lc rfl ln)) ((mark_spec B0 p lv T fin j _ h [125]).mono ?_ (fun ch w' hh => by obtain ⟨e, j, h1, h2, h3⟩ := hh; exact ⟨e, j, by rw [hres, rowsT_s, dec64 (x := plE T x), hy2, Pr.bind_ok, hw2, Pr.bind_ok, hM, Pr.bind_ok, if_neg hcm, h1]; rfl, h2, hq.ext h3⟩))))))))
  rintro v55 w55 ⟨hw3, h', ho55⟩
  replace h := h'
  replace hrow := own_only hrow ho55 (fun k hk he => by obtain rfl := ob hk; exact hg2p he)
  replace hq := hq.trans' ho55 (fun _ h => h) (fun _ _ h => .inl h)
  refine Wc (We (Wb (Wa rfl (Wf (by first | exact vS | exact rfl) (Wa rfl (Wg (by first | exact vS | exact rfl) (Wc (Wm (Wu rfl rfl (⟨N ++ M, k + 1, j + 1, ?_, hrow, by rw [List.length_append]; omega, by omega, hvbn, h, hq⟩))))))))))
  rw [hres, rowsT_s, dec64 (x := plE T x), hy2, Pr.bind_ok, hw2, Pr.bind_ok, hM, Pr.bind_ok, if_neg hcm, hw3]; rfl
 try simp only [cs8] at c46
 have hcm : isT (tkA T j) 3 [44] = true := by simp_all
 have hjl2 := isT_lt (by decide) hcm
 refine Wp (Wb (Wa rfl (Wf h0 (Wa rfl (o_nil rfl (Wa rfl (Wl 1 TI82 rfl TI3 rfl rfl (Wa rfl (Wk TI3 rfl rfl (Wh h.cell rfl) (Wa rfl (o_addi rfl rfl (by omega) (Wa rfl (o_nil rfl (Wa rfl (Wl 1 TI82 rfl TI3 rfl rfl (WL.u (o_stB TI3 rfl vI rfl h.cell (show 1 < 3 by decide) ?_)))))))))))))))))
 intro w53 hBp hop hsp
 replace h := h.move (a2 := j + 1) hBp hop (by omega)
 replace hrow := own_only hrow hop (fun k hk he => by obtain rfl := ob hk; exact hg2p he)
 replace hc4 := hop.blk hc4 hcp
 replace hq := hq.trans' hop (fun _ h => h) (fun _ _ h => .inl h)
 refine Wc (⟨gg, by omega, j + 1, k + 1, N ++ M, _, h0, rfl, h2, h3, h4, h5, h, hrow, by rw [List.length_append]; omega, by omega, by omega, by omega, by omega, ?_, hvbn, hq, hc4⟩)
 rw [hres, rowsT_s, dec64 (x := plE T x), hy2, Pr.bind_ok, hw2, Pr.bind_ok, hM, Pr.bind_ok, if_pos hcm]
 cases rowsT E T u gg (j + 1) (k + 1) <;> simp [Pr.bind]
end Go.Proofs.YtpbflfgigfdohaaDoor

namespace Go.Proofs.YtpbflfgigfdohaaDoor
open Go Go.Vc Go.RowKit Go.Proofs

theorem own_new1 {w : World} {v : Value} {el : TypeId} {s : Nat} (hv : v.cells.size = s) : (w.alloc (.cells v.cells el)).ownsRow w.heap.size el s (.slice (some ⟨w.heap.size, 0, none⟩) 1 1) 1 v.cells.toList :=
 ⟨by simp [hv], .inr ⟨w.heap.size, 1, v.cells, rfl, Nat.le_refl _, heap_alloc_new w _, Nat.le_refl _, by rw [maxLen_eq]; omega, by rw [hv]; omega, by rw [Nat.one_mul]; exact List.take_of_length_le (by simp [hv])⟩⟩
theorem RowE.snoc {w : World} {B0 : Nat} {v : Value} {L : List Ex} {y : Ex} (h : w.ownsRow B0 40 7 v (L.length + 1) (exs L ++ (Value.agg (exV y).toArray).cells.toList)) : RowE w B0 v (L ++ [y]) := by
 show World.ownsRow _ _ _ _ _ (L ++ [y]).length _
 rw [exs_snoc, List.length_append]
 exact h
theorem exV_one {y : Ex} : ∀ a ∈ (Value.agg (exV y).toArray).cells.toList, a.oneCell' = true := by
 intro a ha
 simp [Value.cells, exV] at ha
 rcases ha with rfl | rfl | rfl | rfl | rfl | rfl | rfl <;> rfl
theorem exprT_s {T : List Tk} {f i : Nat} {x : Ex} {deep : Nat} : exprT T (f + 1) i x deep =
  (if bgnT (tkA T i) = false then .bad 60 i
  else if 16 < deep then .bad 61 i
  else match leafE (tkA T i).text with
  | some kn => .ok [(atE i x).lf kn.1 kn.2] (i + 1)
  | none =>
   if (tkA T i).text = [118, 101, 99, 116, 111, 114] ∨ (tkA T i).text = [108, 105, 115, 116] then
    (wantT T (i + 1) 3 [60]).bind fun _ j => (exprT T f j exM (deep + 1)).bind fun N j => (wantT T j 3 [44]).bind fun _ j => (numT T j).bind fun n j => (wantT T j 3 [62]).bind fun _ j =>
     .ok ((atE i x).vec (decide ((tkA T i).text = [108, 105, 115, 116])) n :: N) j
   else if (tkA T i).text = [111, 112, 116, 105, 111, 110] then
    (wantT T (i + 1) 3 [60]).bind fun _ j => (exprT T f j exM (deep + 1)).bind fun N j => (wantT T j 3 [62]).bind fun _ j => .ok ((atE i x).opt :: N) j
   else if (tkA T i).text = [117, 110, 105, 111, 110] then
    ((wantT T (i + 1) 3 [123]).bind fun _ j => rowsT (fun i x => exprT T f i x (deep + 1)) T true f j 0).bind fun r j => .ok ((atE i x).br true (r.2 : Nat) :: r.1) j
   else if (tkA T i).text = [115, 116, 114, 117, 99, 116] then
    ((wantT T (i + 1) 3 [123]).bind fun _ j => rowsT (fun i x => exprT T f i x (deep + 1)) T false f j 0).bind fun r j => .ok ((atE i x).br false (r.2 : Nat) :: r.1) j
   else .ok [(atE i x).nm (tkA T i).text] (i + 1)) := rfl
theorem plE_lf {T : List Tk} {x : Ex} {k n : Int} : plE T (x.lf k n) = (plE T x).lf k n := by unfold plE; split <;> split <;> first | rfl | (rename_i h1 h2; exact absurd h1 h2) | (rename_i h1 h2; exact absurd h2 h1)
theorem plE_vec {T : List Tk} {x : Ex} {b : Bool} {n : Int} : plE T (x.vec b n) = (plE T x).vec b n := by unfold plE; split <;> split <;> first | rfl | (rename_i h1 h2; exact absurd h1 h2) | (rename_i h1 h2; exact absurd h2 h1)
theorem plE_opt {T : List Tk} {x : Ex} : plE T x.opt = (plE T x).opt := by unfold plE; split <;> split <;> first | rfl | (rename_i h1 h2; exact absurd h1 h2) | (rename_i h1 h2; exact absurd h2 h1)
theorem plE_br {T : List Tk} {x : Ex} {u : Bool} {n : Int} : plE T (x.br u n) = (plE T x).br u n := by unfold plE; split <;> split <;> first | rfl | (rename_i h1 h2; exact absurd h1 h2) | (rename_i h1 h2; exact absurd h2 h1)
theorem plE_nm {T : List Tk} {x : Ex} {s : List UInt8} : plE T (x.nm s) = (plE T x).nm s := by unfold plE; split <;> split <;> first | rfl | (rename_i h1 h2; exact absurd h1 h2) | (rename_i h1 h2; exact absurd h2 h1)
theorem plE_neg {T : List Tk} {x : Ex} (h : (plE T x).at_ < 0) : x.at_ < 0 := by
 unfold plE at h
 split at h
 ·assumption
 simp only at h; omega
theorem plE_atE {T : List Tk} {i : Nat} {x : Ex} : plE T (atE i x) = if (plE T x).at_ < 0 then { plE T x with at_ := ((tkA T i).at_ : Int) } else plE T x := by
 by_cases h : x.at_ < 0
 ·have h1 : plE T x = x := by unfold plE; rw [if_pos h]
  rw [h1, if_pos h]
  unfold atE
  rw [if_pos h]
  unfold plE
  rw [if_neg (by show ¬ (i : Int) < 0; omega)]
  simp
 rw [if_neg (fun h1 => h (plE_neg h1))]
 unfold atE
 rw [if_neg h]
theorem plE_kids {T : List Tk} {x : Ex} : (plE T x).kids = x.kids := by unfold plE; split <;> rfl
theorem atE_kids {i : Nat} {x : Ex} : (atE i x).kids = x.kids := by unfold atE; split <;> rfl
theorem plE_exM {T : List Tk} : plE T exM = exM := by unfold plE; rw [if_pos (by decide)]
theorem bgnT_lt {T : List Tk} {i : Nat} (h : bgnT (tkA T i) = true) : i < T.length := tkA_kind (k := 1) (by decide) (by simp only [bgnT, Bool.and_eq_true, decide_eq_true_eq] at h; exact h.1)
set_option maxHeartbeats 4000000 in
theorem expr_step (B0 p : Nat) (lv : Value) (T : List Tk) (fin f deep : Nat) (hln : ∀ i, (tkA T i).text.length ≤ 9223372036854775807) (hE : deep ≤ 16 → ∀ m, T.length + 2 ≤ f + m → ESpec B0 p lv T fin (fun i x => exprT T f i x (deep + 1)) (deep + 1) m) (hdp : deep ≤ 17) (m at_ : Nat) (hfm : T.length + 2 ≤ f + 1 + m) (x : Ex) (L : List Ex) (v : Value) (w0 : World) (hm : m ≤ at_) (hxk : x.kids = 0) (h : Psr w0 B0 p lv T fin at_) (hrow : RowE w0 B0 v L) (hl : L.length ≤ at_) : CaX Tryd.prog 28 #[.pointer (some ⟨p, 0, none⟩), v, .agg (exV (plE T x)).toArray, .int .i64 (deep : Int)] w0 (fun v' w' => ∃ N j, exprT T (f + 1) at_ x deep = .ok N j ∧ RowE w' B0 v' (L ++ N.map (plE T)) ∧ L.length + N.length ≤ j ∧ at_ < j ∧ (∀ k, v'.ownBlock = some k → v.ownBlock = some k ∨ w0.heap.size ≤ k) ∧ Psr w' B0 p lv T fin j ∧ Only (fun k => k = p ∨ v.ownBlock = some k) w0 w') (fun ch w' => ∃ e j, exprT T (f + 1) at_ x deep = .bad e j ∧ ch = [pan e (plc T fin j)] ∧ Only (fun k => k = p ∨ v.ownBlock = some k) w0 w') := by
 have hq : Only (fun k => k = p ∨ v.ownBlock = some k) w0 w0 := Only.refl _ _
 have hsm := h.small
 have hle := h.le
 have hpl := (Array.getElem?_eq_some_iff.1 h.cell).1
 have hvp : ¬ v.ownBlock = some p := own_off hrow h.cell (by decide)
 have hvl : ∀ k, v.ownBlock = some k → k < w0.heap.size := fun k hk => (hrow.lt k hk).2
 have hB0 := h.b0
 have hpB := h.hp
 refine CaX.of Tryd.func28 Tryd.ntmps28 rfl rfl (We (Wb (Wa rfl (o_boxB rfl ?_))))
 intro w4 hC4 hx4 hs4
 replace hC4 : w4.heap[w0.heap.size]? = some (.cells #[.pointer (some ⟨p, 0, none⟩)] 80 (0, 0)) := hC4
 replace h := h.ext hx4
 replace hrow := Wr hrow hx4
 replace hq := hq.ext hx4
 obtain ⟨c4, hc4⟩ : ∃ c, c = w0.heap.size := ⟨_, rfl⟩
 rw [← hc4] at hC4 hs4 ⊢
 refine Wa rfl (o_boxB rfl ?_)
 intro w6 hC6 hx6 hs6
 replace hC6 : w6.heap[w4.heap.size]? = some (.cells (exV (plE T x)).toArray 40 (0, 0)) := hC6
 replace h := h.ext hx6
 replace hrow := Wr hrow hx6
 replace hC4 := hx6.blk hC4 (fun h => h)
 replace hq := hq.ext hx6
 obtain ⟨c6, hc6⟩ : ∃ c, c = w4.heap.size := ⟨_, rfl⟩
 rw [← hc6] at hC6 hs6 ⊢
 refine Wa rfl (Wg (by first | exact vS | exact rfl) (Wc (We (Wb (Wa rfl (Wk TI80 rfl rfl (Wh hC4 rfl) (Wa rfl (o_call Tryd.call45 (lc rfl ln) ((peek_spec B0 p lv T fin at_ _ h).mono ?_)))))))))
 rintro v14 w14 ⟨rfl, hx14⟩
 replace h := h.ext hx14
 replace hrow := Wr hrow hx14
 replace hC4 := hx14.blk hC4 (fun h => h)
 replace hC6 := hx14.blk hC6 (fun h => h)
 replace hq := hq.ext hx14
 have h14s := hx14.size
 refine Wa rfl (o_alB TI112 ?_)
 intro wa hCa hxa hsa
 refine WL.u (o_stA TI112 rfl (show _ = Value.agg (tokV (tkA T at_)) from rfl) rfl rfl hCa rfl ?_)
 intro w9 hC9 hob hsb
 have hxb := Ext.own hxa (Nat.le_refl _) hob
 clear hCa hxa hob
 replace h := h.ext hxb
 replace hrow := Wr hrow hxb
 replace hC4 := hxb.blk hC4 (fun h => h)
 replace hC6 := hxb.blk hC6 (fun h => h)
 replace hq := hq.ext hxb
 obtain ⟨c9, hc9⟩ : ∃ c, c = w14.heap.size := ⟨_, rfl⟩
 rw [← hc9] at hC9 ⊢
 replace hC9 : w9.heap[c9]? = some (.cells (tokV (tkA T at_)) 112 (0, 0)) := hC9
 refine Wc (We (We (Wb (Wa rfl (o_ldA TI112 rfl rfl (cells_all hC9) rfl (Wa rfl (o_call Tryd.call47 (lc rfl ln) ((begins_spec (tkA T at_) _ (hln at_)).mono ?_))))))))
 rintro v16 w16 ⟨rfl, hx16⟩
 replace h := h.ext hx16
 replace hrow := Wr hrow hx16
 replace hC4 := hx16.blk hC4 (fun h => h)
 replace hC6 := hx16.blk hC6 (fun h => h)
 replace hC9 := hx16.blk hC9 (fun h => h)
 replace hq := hq.ext hx16
 refine Wa rfl (o_not' rfl (Wc (Wn rfl (fun c17 => ?_) (fun c17 => ?_))))
 ·try simp only [cs8] at c17
  have hbg : bgnT (tkA T at_) = false := by simp_all
  refine Wb (Wa rfl (Wk TI80 rfl rfl (Wh hC4 rfl) (WL.cx rfl (ox_call Tryd.call23 (lc rfl (lc rfl ln)) ((fails_spec B0 p lv T fin at_ _ h 60).mono ?_ (fun ch w' hh => by obtain ⟨h1, h2⟩ := hh; exact ⟨60, at_, by rw [exprT_s, if_pos hbg], h1, hq.ext h2⟩))))))
  exact fun _ _ hf => hf.elim
 try simp only [cs8] at c17
 have hbg : ¬ bgnT (tkA T at_) = false := by simp_all
 have hlt := bgnT_lt (T := T) (i := at_) (by simpa using hbg)
 refine Wp (We (We (Wb (Wa rfl (Wf vI (Wa rfl (o_gt rfl rfl (Wc (Wn rfl (fun c21 => ?_) (fun c21 => ?_))))))))))
 ·try simp only [cs8] at c21
  have hdd : 16 < deep := by omega
  refine Wb (Wa rfl (Wk TI80 rfl rfl (Wh hC4 rfl) (WL.cx rfl (ox_call Tryd.call23 (lc rfl (lc rfl ln)) ((fails_spec B0 p lv T fin at_ _ h 61).mono ?_ (fun ch w' hh => by obtain ⟨h1, h2⟩ := hh; exact ⟨61, at_, by rw [exprT_s, if_neg hbg, if_pos hdd], h1, hq.ext h2⟩))))))
  exact fun _ _ hf => hf.elim
 try simp only [cs8] at c21
 have hdd : ¬ 16 < deep := by omega
 refine Wp (We (We (Wb (Wa rfl (Wl 6 TI40 rfl TI3 rfl rfl (Wa rfl (Wk TI3 rfl rfl (Wh hC6 rfl) (Wa rfl (o_lt rfl rfl (Wc (W.cut (fun e1 w1 => c9 ≤ w1.heap.size ∧ Psr w1 B0 p lv T fin at_ ∧ RowE w1 B0 v L ∧ w1.heap[c4]? = some (.cells #[.pointer (some ⟨p, 0, none⟩)] 80 (0, 0)) ∧ w1.heap[c6]? = some (.cells (exV (plE T (atE at_ x))).toArray 40 (0, 0)) ∧ w1.heap[c9]? = some (.cells (tokV (tkA T at_)) 112 (0, 0)) ∧ Only (fun k => k = p ∨ v.ownBlock = some k) w0 w1 ∧ e1 1 = v ∧ e1 3 = .int .i64 (deep : Int) ∧ e1 4 = .pointer (some ⟨c4, 0, none⟩) ∧ e1 6 = .pointer (some ⟨c6, 0, none⟩) ∧ e1 9 = .pointer (some ⟨c9, 0, none⟩)) ?_ ?_)))))))))))
 ·-- both ways
  refine Wn rfl (fun c26 => ?_) (fun c26 => ?_)
  ·try simp only [cs8] at c26
   refine Wb (Wa rfl (Wl 3 TI112 rfl TI3 rfl rfl (Wa rfl (Wk TI3 rfl rfl (Wh hC9 rfl) (Wa rfl (Wl 6 TI40 rfl TI3 rfl rfl (WL.u (o_stB TI3 rfl vI rfl hC6 (show 6 < 7 by decide) ?_))))))))
   intro w29 hC6' ho29 hs29
   replace h := h.keep ho29 (fun k hk => by omega)
   replace hrow := own_only hrow ho29 (fun k hk he => by have := hvl k hk; omega)
   replace hC4 := ho29.blk hC4 (show ¬ c4 = c6 by omega)
   replace hC9 := ho29.blk hC9 (show ¬ c9 = c6 by omega)
   replace hq := hq.trans' ho29 (fun _ h => h) (fun k hk he => by omega)
   refine Wc ?_
   first | exact ⟨Nat.le_of_lt (Array.getElem?_eq_some_iff.1 hC9).1, h, hrow, hC4, (by rw [plE_atE, if_neg (by omega)]; exact hC6), hC9, hq, rfl, rfl, rfl, rfl, rfl⟩ | exact ⟨Nat.le_of_lt (Array.getElem?_eq_some_iff.1 hC9).1, h, hrow, hC4, (by rw [plE_atE, if_pos (by omega)]; exact hC6'), hC9, hq, rfl, rfl, rfl, rfl, rfl⟩
  try simp only [cs8] at c26
  refine Wp ?_
  first | exact ⟨Nat.le_of_lt (Array.getElem?_eq_some_iff.1 hC9).1, h, hrow, hC4, (by rw [plE_atE, if_neg (by omega)]; exact hC6), hC9, hq, rfl, rfl, rfl, rfl, rfl⟩ | exact ⟨Nat.le_of_lt (Array.getElem?_eq_some_iff.1 hC9).1, h, hrow, hC4, (by rw [plE_atE, if_pos (by omega)]; exact hC6'), hC9, hq, rfl, rfl, rfl, rfl, rfl⟩
 rintro e w ⟨hw9, h, hrow, hC4, hC6, hC9, hq, h1, h3, h4, h6, h9⟩
 obtain ⟨X, hX⟩ : ∃ X, X = plE T (atE at_ x) := ⟨_, rfl⟩
 rw [← hX] at hC6
 have hXk : X.kids = 0 := by rw [hX, plE_kids, atE_kids]; exact hxk
 refine We (Wb (Wa rfl (Wk TI80 rfl h4 (Wh hC4 rfl) (Wa rfl (o_nil rfl (Wa rfl (Wl 1 TI82 rfl TI3 rfl rfl (Wa rfl (Wk TI3 rfl rfl (Wh h.cell rfl) (Wa rfl (o_addi rfl rfl (by omega) (Wa rfl (o_nil rfl (Wa rfl (Wl 1 TI82 rfl TI3 rfl rfl (WL.u (o_stB TI3 rfl vI rfl h.cell (show 1 < 3 by decide) ?_)))))))))))))))))
 intro w36 hBp hop hsp
 replace h := h.move (a2 := at_ + 1) hBp hop (by omega)
 replace hrow := own_only hrow hop (fun k hk he => by subst he; exact hvp hk)
 replace hC4 := hop.blk hC4 (show ¬ c4 = p by omega)
 replace hC6 := hop.blk hC6 (show ¬ c6 = p by omega)
 replace hC9 := hop.blk hC9 (show ¬ c9 = p by omega)
 replace hq := hq.trans' hop (fun _ h => h) (fun _ _ h => .inl h)
 refine Wc (We (We (Wb (Wa rfl (Wl 1 TI112 rfl TI9 rfl h9 (Wa rfl (Wk TI9 rfl rfl (Wh hC9 rfl) (Wa rfl (o_call Tryd.call48 (lc rfl ln) ((leaf_spec (tkA T at_).text _).mono ?_))))))))))
 rintro v40 w40 ⟨rfl, hx40⟩
 have hC9o := hC9
 replace h := h.ext hx40
 replace hrow := Wr hrow hx40
 replace hC4 := hx40.blk hC4 (fun h => h)
 replace hC6 := hx40.blk hC6 (fun h => h)
 replace hC9 := hx40.blk hC9 (fun h => h)
 replace hq := hq.ext hx40
 refine Wa rfl (Wf (by first | exact (show _ = Value.tuple _ from rfl) | exact rfl) (Wa rfl (o_ext rfl rfl (Wa rfl (o_ext rfl rfl (Wa rfl (o_alB TI40 ?_)))))))
 intro wa hCa hxa hsa
 refine WL.u (o_stA TI40 rfl (show _ = Value.agg (exV { ex0 with kind := ((leafE (tkA T at_).text).getD (0, 0)).1, n := ((leafE (tkA T at_).text).getD (0, 0)).2 }).toArray from rfl) rfl rfl hCa rfl ?_)
 intro w10 hC10 hob hsb
 have hxb := Ext.own hxa (Nat.le_refl _) hob
 clear hCa hxa hob
 replace h := h.ext hxb
 replace hrow := Wr hrow hxb
 replace hC4 := hxb.blk hC4 (fun h => h)
 replace hC6 := hxb.blk hC6 (fun h => h)
 replace hC9 := hxb.blk hC9 (fun h => h)
 replace hq := hq.ext hxb
 obtain ⟨c10, hc10⟩ : ∃ c, c = w40.heap.size := ⟨_, rfl⟩
 rw [← hc10] at hC10 ⊢
 have h109 : c9 < c10 := by rw [hc10]; exact Nat.lt_of_lt_of_le (Array.getElem?_eq_some_iff.1 hC9o).1 hx40.size
 refine Wa rfl (Wg vB (Wc (We (Wb (Wa rfl (Wf vB (Wc (Wn rfl (fun c43 => ?_) (fun c43 => ?_)))))))))
 ·try simp only [cs8] at c43
  obtain ⟨kn, hkn⟩ := Option.isSome_iff_exists.1 (show (leafE (tkA T at_).text).isSome = true by simpa using c43)
  rw [hkn] at hC10
  replace hC10 : w10.heap[c10]? = some (.cells #[.int .i64 kn.1, .int .i64 kn.2, st [], st [], .int .i64 0, .int .i64 0, .int .i64 0] 40 (0, 0)) := hC10
  refine We (W.cut (fun e1 w1 => Psr w1 B0 p lv T fin (at_ + 1) ∧ RowE w1 B0 v L ∧ w1.heap[c4]? = some (.cells #[.pointer (some ⟨p, 0, none⟩)] 80 (0, 0)) ∧ w1.heap[c6]? = some (.cells (exV (X.lf kn.1 kn.2)).toArray 40 (0, 0)) ∧ w1.heap[c9]? = some (.cells (tokV (tkA T at_)) 112 (0, 0)) ∧ Only (fun k => k = p ∨ v.ownBlock = some k) w0 w1 ∧ e1 1 = v ∧ e1 3 = .int .i64 (deep : Int) ∧ e1 4 = .pointer (some ⟨c4, 0, none⟩) ∧ e1 6 = .pointer (some ⟨c6, 0, none⟩) ∧ e1 9 = .pointer (some ⟨c9, 0, none⟩)) ?_ ?_)
  ·-- region 11
   refine W.enum rfl ?_
   have hd := Only.drew w10
   replace h := h.ext hd
   replace hrow := Wr hrow hd
   replace hC4 := hd.blk hC4 (fun h => h)
   replace hC6 := hd.blk hC6 (fun h => h)
   replace hC9 := hd.blk hC9 (fun h => h)
   replace hC10 := hd.blk hC10 (fun h => h)
   replace hq := hq.ext hd
   clear hd
   generalize w10.drew = wd at *
   refine WA.step (r := [0, 2]) (by kernel_rfl) (by decide) (all2 ?_ ?_)
   ·skip
    refine WO.c rfl rfl (Wl 0 TI40 rfl TI3 rfl rfl (WA.step (r := [1, 2]) (by kernel_rfl) (by decide) (all2 ?_ ?_)))
    ·skip
     refine WO.c rfl rfl (Wk TI3 rfl rfl (Wh hC10 rfl) (WA.step (r := [2, 4]) (by kernel_rfl) (by decide) (all2 ?_ ?_)))
     ·skip
      refine WO.c rfl rfl (Wl 1 TI40 rfl TI3 rfl rfl (WA.step (r := [3, 4]) (by kernel_rfl) (by decide) (all2 ?_ ?_)))
      ·skip
       refine WO.c rfl rfl (Wk TI3 rfl rfl (Wh hC10 rfl) (WA.step (r := [4]) (by kernel_rfl) (by decide) (all1 (WO.c rfl rfl (Wl 0 TI40 rfl TI3 rfl h6 (WA.step (r := [5]) (by kernel_rfl) (by decide) (all1 (WO.u rfl (o_stB TI3 rfl (show _ = Value.int .i64 kn.1 from rfl) rfl hC6 (show 0 < 7 by decide) ?_)))))))))
       intro wk hC6' ho6 hs6
       replace h := h.keep ho6 (fun k hk => by omega)
       replace hrow := own_only hrow ho6 (fun k hk he => by have := hvl k hk; omega)
       replace hC4 := ho6.blk hC4 (show ¬ c4 = c6 by omega)
       replace hC9 := ho6.blk hC9 (show ¬ c9 = c6 by omega)
       replace hC10 := ho6.blk hC10 (show ¬ c10 = c6 by omega)
       replace hq := hq.trans' ho6 (fun _ h => h) (fun k hk he => by omega)
       replace hC6 : wk.heap[c6]? = some (.cells (exV { X with kind := kn.1 }).toArray 40 (0, 0)) := hC6'
       clear hC6' ho6 hs6
       refine WA.step (r := [6]) (by kernel_rfl) (by decide) (all1 (WO.c rfl rfl (Wl 1 TI40 rfl TI3 rfl h6 (WA.step (r := [7]) (by kernel_rfl) (by decide) (all1 (WO.u rfl (o_stB TI3 rfl (show _ = Value.int .i64 kn.2 from rfl) rfl hC6 (show 1 < 7 by decide) ?_)))))))
       intro wn hC6' ho6 hs6
       replace h := h.keep ho6 (fun k hk => by omega)
       replace hrow := own_only hrow ho6 (fun k hk he => by have := hvl k hk; omega)
       replace hC4 := ho6.blk hC4 (show ¬ c4 = c6 by omega)
       replace hC9 := ho6.blk hC9 (show ¬ c9 = c6 by omega)
       replace hC10 := ho6.blk hC10 (show ¬ c10 = c6 by omega)
       replace hq := hq.trans' ho6 (fun _ h => h) (fun k hk he => by omega)
       replace hC6 : wn.heap[c6]? = some (.cells (exV (X.lf kn.1 kn.2)).toArray 40 (0, 0)) := hC6'
       clear hC6' ho6 hs6
       refine WA.done (by kernel_rfl) ?_
       exact ⟨h, hrow, hC4, hC6, hC9, hq, h1, h3, h4, h6, h9⟩
      skip
      refine WO.c rfl rfl (Wl 0 TI40 rfl TI3 rfl h6 (WA.step (r := [3, 5]) (by kernel_rfl) (by decide) (all2 ?_ ?_)))
      ·skip
       refine WO.c rfl rfl (Wk TI3 rfl rfl (Wh hC10 rfl) (WA.step (r := [5]) (by kernel_rfl) (by decide) (all1 (WO.u rfl (o_stB TI3 rfl (show _ = Value.int .i64 kn.1 from rfl) rfl hC6 (show 0 < 7 by decide) ?_)))))
       intro wk hC6' ho6 hs6
       replace h := h.keep ho6 (fun k hk => by omega)
       replace hrow := own_only hrow ho6 (fun k hk he => by have := hvl k hk; omega)
       replace hC4 := ho6.blk hC4 (show ¬ c4 = c6 by omega)
       replace hC9 := ho6.blk hC9 (show ¬ c9 = c6 by omega)
       replace hC10 := ho6.blk hC10 (show ¬ c10 = c6 by omega)
       replace hq := hq.trans' ho6 (fun _ h => h) (fun k hk he => by omega)
       replace hC6 : wk.heap[c6]? = some (.cells (exV { X with kind := kn.1 }).toArray 40 (0, 0)) := hC6'
       clear hC6' ho6 hs6
       refine WA.step (r := [6]) (by kernel_rfl) (by decide) (all1 (WO.c rfl rfl (Wl 1 TI40 rfl TI3 rfl h6 (WA.step (r := [7]) (by kernel_rfl) (by decide) (all1 (WO.u rfl (o_stB TI3 rfl (show _ = Value.int .i64 kn.2 from rfl) rfl hC6 (show 1 < 7 by decide) ?_)))))))
       intro wn hC6' ho6 hs6
       replace h := h.keep ho6 (fun k hk => by omega)
       replace hrow := own_only hrow ho6 (fun k hk he => by have := hvl k hk; omega)
       replace hC4 := ho6.blk hC4 (show ¬ c4 = c6 by omega)
       replace hC9 := ho6.blk hC9 (show ¬ c9 = c6 by omega)
       replace hC10 := ho6.blk hC10 (show ¬ c10 = c6 by omega)
       replace hq := hq.trans' ho6 (fun _ h => h) (fun k hk he => by omega)
       replace hC6 : wn.heap[c6]? = some (.cells (exV (X.lf kn.1 kn.2)).toArray 40 (0, 0)) := hC6'
       clear hC6' ho6 hs6
       refine WA.done (by kernel_rfl) ?_
       exact ⟨h, hrow, hC4, hC6, hC9, hq, h1, h3, h4, h6, h9⟩
      skip
      refine WO.u rfl (o_stB TI3 rfl (show _ = Value.int .i64 kn.1 from rfl) rfl hC6 (show 0 < 7 by decide) ?_)
      intro wk hC6' ho6 hs6
      replace h := h.keep ho6 (fun k hk => by omega)
      replace hrow := own_only hrow ho6 (fun k hk he => by have := hvl k hk; omega)
      replace hC4 := ho6.blk hC4 (show ¬ c4 = c6 by omega)
      replace hC9 := ho6.blk hC9 (show ¬ c9 = c6 by omega)
      replace hC10 := ho6.blk hC10 (show ¬ c10 = c6 by omega)
      replace hq := hq.trans' ho6 (fun _ h => h) (fun k hk he => by omega)
      replace hC6 : wk.heap[c6]? = some (.cells (exV { X with kind := kn.1 }).toArray 40 (0, 0)) := hC6'
      clear hC6' ho6 hs6
      refine WA.step (r := [3]) (by kernel_rfl) (by decide) (all1 (WO.c rfl rfl (Wk TI3 rfl rfl (Wh hC10 rfl) (WA.step (r := [6]) (by kernel_rfl) (by decide) (all1 (WO.c rfl rfl (Wl 1 TI40 rfl TI3 rfl h6 (WA.step (r := [7]) (by kernel_rfl) (by decide) (all1 (WO.u rfl (o_stB TI3 rfl (show _ = Value.int .i64 kn.2 from rfl) rfl hC6 (show 1 < 7 by decide) ?_)))))))))))
      intro wn hC6' ho6 hs6
      replace h := h.keep ho6 (fun k hk => by omega)
      replace hrow := own_only hrow ho6 (fun k hk he => by have := hvl k hk; omega)
      replace hC4 := ho6.blk hC4 (show ¬ c4 = c6 by omega)
      replace hC9 := ho6.blk hC9 (show ¬ c9 = c6 by omega)
      replace hC10 := ho6.blk hC10 (show ¬ c10 = c6 by omega)
      replace hq := hq.trans' ho6 (fun _ h => h) (fun k hk he => by omega)
      replace hC6 : wn.heap[c6]? = some (.cells (exV (X.lf kn.1 kn.2)).toArray 40 (0, 0)) := hC6'
      clear hC6' ho6 hs6
      refine WA.done (by kernel_rfl) ?_
      exact ⟨h, hrow, hC4, hC6, hC9, hq, h1, h3, h4, h6, h9⟩
     skip
     refine WO.c rfl rfl (Wl 0 TI40 rfl TI3 rfl h6 (WA.step (r := [2, 5]) (by kernel_rfl) (by decide) (all2 ?_ ?_)))
     ·skip
      refine WO.c rfl rfl (Wl 1 TI40 rfl TI3 rfl rfl (WA.step (r := [3, 5]) (by kernel_rfl) (by decide) (all2 ?_ ?_)))
      ·skip
       refine WO.c rfl rfl (Wk TI3 rfl rfl (Wh hC10 rfl) (WA.step (r := [5]) (by kernel_rfl) (by decide) (all1 (WO.u rfl (o_stB TI3 rfl (show _ = Value.int .i64 kn.1 from rfl) rfl hC6 (show 0 < 7 by decide) ?_)))))
       intro wk hC6' ho6 hs6
       replace h := h.keep ho6 (fun k hk => by omega)
       replace hrow := own_only hrow ho6 (fun k hk he => by have := hvl k hk; omega)
       replace hC4 := ho6.blk hC4 (show ¬ c4 = c6 by omega)
       replace hC9 := ho6.blk hC9 (show ¬ c9 = c6 by omega)
       replace hC10 := ho6.blk hC10 (show ¬ c10 = c6 by omega)
       replace hq := hq.trans' ho6 (fun _ h => h) (fun k hk he => by omega)
       replace hC6 : wk.heap[c6]? = some (.cells (exV { X with kind := kn.1 }).toArray 40 (0, 0)) := hC6'
       clear hC6' ho6 hs6
       refine WA.step (r := [6]) (by kernel_rfl) (by decide) (all1 (WO.c rfl rfl (Wl 1 TI40 rfl TI3 rfl h6 (WA.step (r := [7]) (by kernel_rfl) (by decide) (all1 (WO.u rfl (o_stB TI3 rfl (show _ = Value.int .i64 kn.2 from rfl) rfl hC6 (show 1 < 7 by decide) ?_)))))))
       intro wn hC6' ho6 hs6
       replace h := h.keep ho6 (fun k hk => by omega)
       replace hrow := own_only hrow ho6 (fun k hk he => by have := hvl k hk; omega)
       replace hC4 := ho6.blk hC4 (show ¬ c4 = c6 by omega)
       replace hC9 := ho6.blk hC9 (show ¬ c9 = c6 by omega)
       replace hC10 := ho6.blk hC10 (show ¬ c10 = c6 by omega)
       replace hq := hq.trans' ho6 (fun _ h => h) (fun k hk he => by omega)
       replace hC6 : wn.heap[c6]? = some (.cells (exV (X.lf kn.1 kn.2)).toArray 40 (0, 0)) := hC6'
       clear hC6' ho6 hs6
       refine WA.done (by kernel_rfl) ?_
       exact ⟨h, hrow, hC4, hC6, hC9, hq, h1, h3, h4, h6, h9⟩
      skip
      refine WO.u rfl (o_stB TI3 rfl (show _ = Value.int .i64 kn.1 from rfl) rfl hC6 (show 0 < 7 by decide) ?_)
      intro wk hC6' ho6 hs6
      replace h := h.keep ho6 (fun k hk => by omega)
      replace hrow := own_only hrow ho6 (fun k hk he => by have := hvl k hk; omega)
      replace hC4 := ho6.blk hC4 (show ¬ c4 = c6 by omega)
      replace hC9 := ho6.blk hC9 (show ¬ c9 = c6 by omega)
      replace hC10 := ho6.blk hC10 (show ¬ c10 = c6 by omega)
      replace hq := hq.trans' ho6 (fun _ h => h) (fun k hk he => by omega)
      replace hC6 : wk.heap[c6]? = some (.cells (exV { X with kind := kn.1 }).toArray 40 (0, 0)) := hC6'
      clear hC6' ho6 hs6
      refine WA.step (r := [3]) (by kernel_rfl) (by decide) (all1 (WO.c rfl rfl (Wk TI3 rfl rfl (Wh hC10 rfl) (WA.step (r := [6]) (by kernel_rfl) (by decide) (all1 (WO.c rfl rfl (Wl 1 TI40 rfl TI3 rfl h6 (WA.step (r := [7]) (by kernel_rfl) (by decide) (all1 (WO.u rfl (o_stB TI3 rfl (show _ = Value.int .i64 kn.2 from rfl) rfl hC6 (show 1 < 7 by decide) ?_)))))))))))
      intro wn hC6' ho6 hs6
      replace h := h.keep ho6 (fun k hk => by omega)
      replace hrow := own_only hrow ho6 (fun k hk he => by have := hvl k hk; omega)
      replace hC4 := ho6.blk hC4 (show ¬ c4 = c6 by omega)
      replace hC9 := ho6.blk hC9 (show ¬ c9 = c6 by omega)
      replace hC10 := ho6.blk hC10 (show ¬ c10 = c6 by omega)
      replace hq := hq.trans' ho6 (fun _ h => h) (fun k hk he => by omega)
      replace hC6 : wn.heap[c6]? = some (.cells (exV (X.lf kn.1 kn.2)).toArray 40 (0, 0)) := hC6'
      clear hC6' ho6 hs6
      refine WA.done (by kernel_rfl) ?_
      exact ⟨h, hrow, hC4, hC6, hC9, hq, h1, h3, h4, h6, h9⟩
     skip
     refine WO.u rfl (o_stB TI3 rfl (show _ = Value.int .i64 kn.1 from rfl) rfl hC6 (show 0 < 7 by decide) ?_)
     intro wk hC6' ho6 hs6
     replace h := h.keep ho6 (fun k hk => by omega)
     replace hrow := own_only hrow ho6 (fun k hk he => by have := hvl k hk; omega)
     replace hC4 := ho6.blk hC4 (show ¬ c4 = c6 by omega)
     replace hC9 := ho6.blk hC9 (show ¬ c9 = c6 by omega)
     replace hC10 := ho6.blk hC10 (show ¬ c10 = c6 by omega)
     replace hq := hq.trans' ho6 (fun _ h => h) (fun k hk he => by omega)
     replace hC6 : wk.heap[c6]? = some (.cells (exV { X with kind := kn.1 }).toArray 40 (0, 0)) := hC6'
     clear hC6' ho6 hs6
     refine WA.step (r := [2]) (by kernel_rfl) (by decide) (all1 (WO.c rfl rfl (Wl 1 TI40 rfl TI3 rfl rfl (WA.step (r := [3]) (by kernel_rfl) (by decide) (all1 (WO.c rfl rfl (Wk TI3 rfl rfl (Wh hC10 rfl) (WA.step (r := [6]) (by kernel_rfl) (by decide) (all1 (WO.c rfl rfl (Wl 1 TI40 rfl TI3 rfl h6 (WA.step (r := [7]) (by kernel_rfl) (by decide) (all1 (WO.u rfl (o_stB TI3 rfl (show _ = Value.int .i64 kn.2 from rfl) rfl hC6 (show 1 < 7 by decide) ?_)))))))))))))))
     intro wn hC6' ho6 hs6
     replace h := h.keep ho6 (fun k hk => by omega)
     replace hrow := own_only hrow ho6 (fun k hk he => by have := hvl k hk; omega)
     replace hC4 := ho6.blk hC4 (show ¬ c4 = c6 by omega)
     replace hC9 := ho6.blk hC9 (show ¬ c9 = c6 by omega)
     replace hC10 := ho6.blk hC10 (show ¬ c10 = c6 by omega)
     replace hq := hq.trans' ho6 (fun _ h => h) (fun k hk he => by omega)
     replace hC6 : wn.heap[c6]? = some (.cells (exV (X.lf kn.1 kn.2)).toArray 40 (0, 0)) := hC6'
     clear hC6' ho6 hs6
     refine WA.done (by kernel_rfl) ?_
     exact ⟨h, hrow, hC4, hC6, hC9, hq, h1, h3, h4, h6, h9⟩
    skip
    refine WO.c rfl rfl (Wl 1 TI40 rfl TI3 rfl rfl (WA.step (r := [1, 3]) (by kernel_rfl) (by decide) (all2 ?_ ?_)))
    ·skip
     refine WO.c rfl rfl (Wk TI3 rfl rfl (Wh hC10 rfl) (WA.step (r := [3, 4]) (by kernel_rfl) (by decide) (all2 ?_ ?_)))
     ·skip
      refine WO.c rfl rfl (Wk TI3 rfl rfl (Wh hC10 rfl) (WA.step (r := [4]) (by kernel_rfl) (by decide) (all1 (WO.c rfl rfl (Wl 0 TI40 rfl TI3 rfl h6 (WA.step (r := [5]) (by kernel_rfl) (by decide) (all1 (WO.u rfl (o_stB TI3 rfl (show _ = Value.int .i64 kn.1 from rfl) rfl hC6 (show 0 < 7 by decide) ?_)))))))))
      intro wk hC6' ho6 hs6
      replace h := h.keep ho6 (fun k hk => by omega)
      replace hrow := own_only hrow ho6 (fun k hk he => by have := hvl k hk; omega)
      replace hC4 := ho6.blk hC4 (show ¬ c4 = c6 by omega)
      replace hC9 := ho6.blk hC9 (show ¬ c9 = c6 by omega)
      replace hC10 := ho6.blk hC10 (show ¬ c10 = c6 by omega)
      replace hq := hq.trans' ho6 (fun _ h => h) (fun k hk he => by omega)
      replace hC6 : wk.heap[c6]? = some (.cells (exV { X with kind := kn.1 }).toArray 40 (0, 0)) := hC6'
      clear hC6' ho6 hs6
      refine WA.step (r := [6]) (by kernel_rfl) (by decide) (all1 (WO.c rfl rfl (Wl 1 TI40 rfl TI3 rfl h6 (WA.step (r := [7]) (by kernel_rfl) (by decide) (all1 (WO.u rfl (o_stB TI3 rfl (show _ = Value.int .i64 kn.2 from rfl) rfl hC6 (show 1 < 7 by decide) ?_)))))))
      intro wn hC6' ho6 hs6
      replace h := h.keep ho6 (fun k hk => by omega)
      replace hrow := own_only hrow ho6 (fun k hk he => by have := hvl k hk; omega)
      replace hC4 := ho6.blk hC4 (show ¬ c4 = c6 by omega)
      replace hC9 := ho6.blk hC9 (show ¬ c9 = c6 by omega)
      replace hC10 := ho6.blk hC10 (show ¬ c10 = c6 by omega)
      replace hq := hq.trans' ho6 (fun _ h => h) (fun k hk he => by omega)
      replace hC6 : wn.heap[c6]? = some (.cells (exV (X.lf kn.1 kn.2)).toArray 40 (0, 0)) := hC6'
      clear hC6' ho6 hs6
      refine WA.done (by kernel_rfl) ?_
      exact ⟨h, hrow, hC4, hC6, hC9, hq, h1, h3, h4, h6, h9⟩
     skip
     refine WO.c rfl rfl (Wl 0 TI40 rfl TI3 rfl h6 (WA.step (r := [3, 5]) (by kernel_rfl) (by decide) (all2 ?_ ?_)))
     ·skip
      refine WO.c rfl rfl (Wk TI3 rfl rfl (Wh hC10 rfl) (WA.step (r := [5]) (by kernel_rfl) (by decide) (all1 (WO.u rfl (o_stB TI3 rfl (show _ = Value.int .i64 kn.1 from rfl) rfl hC6 (show 0 < 7 by decide) ?_)))))
      intro wk hC6' ho6 hs6
      replace h := h.keep ho6 (fun k hk => by omega)
      replace hrow := own_only hrow ho6 (fun k hk he => by have := hvl k hk; omega)
      replace hC4 := ho6.blk hC4 (show ¬ c4 = c6 by omega)
      replace hC9 := ho6.blk hC9 (show ¬ c9 = c6 by omega)
      replace hC10 := ho6.blk hC10 (show ¬ c10 = c6 by omega)
      replace hq := hq.trans' ho6 (fun _ h => h) (fun k hk he => by omega)
      replace hC6 : wk.heap[c6]? = some (.cells (exV { X with kind := kn.1 }).toArray 40 (0, 0)) := hC6'
      clear hC6' ho6 hs6
      refine WA.step (r := [6]) (by kernel_rfl) (by decide) (all1 (WO.c rfl rfl (Wl 1 TI40 rfl TI3 rfl h6 (WA.step (r := [7]) (by kernel_rfl) (by decide) (all1 (WO.u rfl (o_stB TI3 rfl (show _ = Value.int .i64 kn.2 from rfl) rfl hC6 (show 1 < 7 by decide) ?_)))))))
      intro wn hC6' ho6 hs6
      replace h := h.keep ho6 (fun k hk => by omega)
      replace hrow := own_only hrow ho6 (fun k hk he => by have := hvl k hk; omega)
      replace hC4 := ho6.blk hC4 (show ¬ c4 = c6 by omega)
      replace hC9 := ho6.blk hC9 (show ¬ c9 = c6 by omega)
      replace hC10 := ho6.blk hC10 (show ¬ c10 = c6 by omega)
      replace hq := hq.trans' ho6 (fun _ h => h) (fun k hk he => by omega)
      replace hC6 : wn.heap[c6]? = some (.cells (exV (X.lf kn.1 kn.2)).toArray 40 (0, 0)) := hC6'
      clear hC6' ho6 hs6
      refine WA.done (by kernel_rfl) ?_
      exact ⟨h, hrow, hC4, hC6, hC9, hq, h1, h3, h4, h6, h9⟩
     skip
     refine WO.u rfl (o_stB TI3 rfl (show _ = Value.int .i64 kn.1 from rfl) rfl hC6 (show 0 < 7 by decide) ?_)
     intro wk hC6' ho6 hs6
     replace h := h.keep ho6 (fun k hk => by omega)
     replace hrow := own_only hrow ho6 (fun k hk he => by have := hvl k hk; omega)
     replace hC4 := ho6.blk hC4 (show ¬ c4 = c6 by omega)
     replace hC9 := ho6.blk hC9 (show ¬ c9 = c6 by omega)
     replace hC10 := ho6.blk hC10 (show ¬ c10 = c6 by omega)
     replace hq := hq.trans' ho6 (fun _ h => h) (fun k hk he => by omega)
     replace hC6 : wk.heap[c6]? = some (.cells (exV { X with kind := kn.1 }).toArray 40 (0, 0)) := hC6'
     clear hC6' ho6 hs6
     refine WA.step (r := [3]) (by kernel_rfl) (by decide) (all1 (WO.c rfl rfl (Wk TI3 rfl rfl (Wh hC10 rfl) (WA.step (r := [6]) (by kernel_rfl) (by decide) (all1 (WO.c rfl rfl (Wl 1 TI40 rfl TI3 rfl h6 (WA.step (r := [7]) (by kernel_rfl) (by decide) (all1 (WO.u rfl (o_stB TI3 rfl (show _ = Value.int .i64 kn.2 from rfl) rfl hC6 (show 1 < 7 by decide) ?_)))))))))))
     intro wn hC6' ho6 hs6
     replace h := h.keep ho6 (fun k hk => by omega)
     replace hrow := own_only hrow ho6 (fun k hk he => by have := hvl k hk; omega)
     replace hC4 := ho6.blk hC4 (show ¬ c4 = c6 by omega)
     replace hC9 := ho6.blk hC9 (show ¬ c9 = c6 by omega)
     replace hC10 := ho6.blk hC10 (show ¬ c10 = c6 by omega)
     replace hq := hq.trans' ho6 (fun _ h => h) (fun k hk he => by omega)
     replace hC6 : wn.heap[c6]? = some (.cells (exV (X.lf kn.1 kn.2)).toArray 40 (0, 0)) := hC6'
     clear hC6' ho6 hs6
     refine WA.done (by kernel_rfl) ?_
     exact ⟨h, hrow, hC4, hC6, hC9, hq, h1, h3, h4, h6, h9⟩
    skip
    refine WO.c rfl rfl (Wk TI3 rfl rfl (Wh hC10 rfl) (WA.step (r := [1]) (by kernel_rfl) (by decide) (all1 (WO.c rfl rfl (Wk TI3 rfl rfl (Wh hC10 rfl) (WA.step (r := [4]) (by kernel_rfl) (by decide) (all1 (WO.c rfl rfl (Wl 0 TI40 rfl TI3 rfl h6 (WA.step (r := [5]) (by kernel_rfl) (by decide) (all1 (WO.u rfl (o_stB TI3 rfl (show _ = Value.int .i64 kn.1 from rfl) rfl hC6 (show 0 < 7 by decide) ?_)))))))))))))
    intro wk hC6' ho6 hs6
    replace h := h.keep ho6 (fun k hk => by omega)
    replace hrow := own_only hrow ho6 (fun k hk he => by have := hvl k hk; omega)
    replace hC4 := ho6.blk hC4 (show ¬ c4 = c6 by omega)
    replace hC9 := ho6.blk hC9 (show ¬ c9 = c6 by omega)
    replace hC10 := ho6.blk hC10 (show ¬ c10 = c6 by omega)
    replace hq := hq.trans' ho6 (fun _ h => h) (fun k hk he => by omega)
    replace hC6 : wk.heap[c6]? = some (.cells (exV { X with kind := kn.1 }).toArray 40 (0, 0)) := hC6'
    clear hC6' ho6 hs6
    refine WA.step (r := [6]) (by kernel_rfl) (by decide) (all1 (WO.c rfl rfl (Wl 1 TI40 rfl TI3 rfl h6 (WA.step (r := [7]) (by kernel_rfl) (by decide) (all1 (WO.u rfl (o_stB TI3 rfl (show _ = Value.int .i64 kn.2 from rfl) rfl hC6 (show 1 < 7 by decide) ?_)))))))
    intro wn hC6' ho6 hs6
    replace h := h.keep ho6 (fun k hk => by omega)
    replace hrow := own_only hrow ho6 (fun k hk he => by have := hvl k hk; omega)
    replace hC4 := ho6.blk hC4 (show ¬ c4 = c6 by omega)
    replace hC9 := ho6.blk hC9 (show ¬ c9 = c6 by omega)
    replace hC10 := ho6.blk hC10 (show ¬ c10 = c6 by omega)
    replace hq := hq.trans' ho6 (fun _ h => h) (fun k hk he => by omega)
    replace hC6 : wn.heap[c6]? = some (.cells (exV (X.lf kn.1 kn.2)).toArray 40 (0, 0)) := hC6'
    clear hC6' ho6 hs6
    refine WA.done (by kernel_rfl) ?_
    exact ⟨h, hrow, hC4, hC6, hC9, hq, h1, h3, h4, h6, h9⟩
   skip
   refine WO.c rfl rfl (Wl 1 TI40 rfl TI3 rfl rfl (WA.step (r := [0, 3]) (by kernel_rfl) (by decide) (all2 ?_ ?_)))
   ·skip
    refine WO.c rfl rfl (Wl 0 TI40 rfl TI3 rfl rfl (WA.step (r := [1, 3]) (by kernel_rfl) (by decide) (all2 ?_ ?_)))
    ·skip
     refine WO.c rfl rfl (Wk TI3 rfl rfl (Wh hC10 rfl) (WA.step (r := [3, 4]) (by kernel_rfl) (by decide) (all2 ?_ ?_)))
     ·skip
      refine WO.c rfl rfl (Wk TI3 rfl rfl (Wh hC10 rfl) (WA.step (r := [4]) (by kernel_rfl) (by decide) (all1 (WO.c rfl rfl (Wl 0 TI40 rfl TI3 rfl h6 (WA.step (r := [5]) (by kernel_rfl) (by decide) (all1 (WO.u rfl (o_stB TI3 rfl (show _ = Value.int .i64 kn.1 from rfl) rfl hC6 (show 0 < 7 by decide) ?_)))))))))
      intro wk hC6' ho6 hs6
      replace h := h.keep ho6 (fun k hk => by omega)
      replace hrow := own_only hrow ho6 (fun k hk he => by have := hvl k hk; omega)
      replace hC4 := ho6.blk hC4 (show ¬ c4 = c6 by omega)
      replace hC9 := ho6.blk hC9 (show ¬ c9 = c6 by omega)
      replace hC10 := ho6.blk hC10 (show ¬ c10 = c6 by omega)
      replace hq := hq.trans' ho6 (fun _ h => h) (fun k hk he => by omega)
      replace hC6 : wk.heap[c6]? = some (.cells (exV { X with kind := kn.1 }).toArray 40 (0, 0)) := hC6'
      clear hC6' ho6 hs6
      refine WA.step (r := [6]) (by kernel_rfl) (by decide) (all1 (WO.c rfl rfl (Wl 1 TI40 rfl TI3 rfl h6 (WA.step (r := [7]) (by kernel_rfl) (by decide) (all1 (WO.u rfl (o_stB TI3 rfl (show _ = Value.int .i64 kn.2 from rfl) rfl hC6 (show 1 < 7 by decide) ?_)))))))
      intro wn hC6' ho6 hs6
      replace h := h.keep ho6 (fun k hk => by omega)
      replace hrow := own_only hrow ho6 (fun k hk he => by have := hvl k hk; omega)
      replace hC4 := ho6.blk hC4 (show ¬ c4 = c6 by omega)
      replace hC9 := ho6.blk hC9 (show ¬ c9 = c6 by omega)
      replace hC10 := ho6.blk hC10 (show ¬ c10 = c6 by omega)
      replace hq := hq.trans' ho6 (fun _ h => h) (fun k hk he => by omega)
      replace hC6 : wn.heap[c6]? = some (.cells (exV (X.lf kn.1 kn.2)).toArray 40 (0, 0)) := hC6'
      clear hC6' ho6 hs6
      refine WA.done (by kernel_rfl) ?_
      exact ⟨h, hrow, hC4, hC6, hC9, hq, h1, h3, h4, h6, h9⟩
     skip
     refine WO.c rfl rfl (Wl 0 TI40 rfl TI3 rfl h6 (WA.step (r := [3, 5]) (by kernel_rfl) (by decide) (all2 ?_ ?_)))
     ·skip
      refine WO.c rfl rfl (Wk TI3 rfl rfl (Wh hC10 rfl) (WA.step (r := [5]) (by kernel_rfl) (by decide) (all1 (WO.u rfl (o_stB TI3 rfl (show _ = Value.int .i64 kn.1 from rfl) rfl hC6 (show 0 < 7 by decide) ?_)))))
      intro wk hC6' ho6 hs6
      replace h := h.keep ho6 (fun k hk => by omega)
      replace hrow := own_only hrow ho6 (fun k hk he => by have := hvl k hk; omega)
      replace hC4 := ho6.blk hC4 (show ¬ c4 = c6 by omega)
      replace hC9 := ho6.blk hC9 (show ¬ c9 = c6 by omega)
      replace hC10 := ho6.blk hC10 (show ¬ c10 = c6 by omega)
      replace hq := hq.trans' ho6 (fun _ h => h) (fun k hk he => by omega)
      replace hC6 : wk.heap[c6]? = some (.cells (exV { X with kind := kn.1 }).toArray 40 (0, 0)) := hC6'
      clear hC6' ho6 hs6
      refine WA.step (r := [6]) (by kernel_rfl) (by decide) (all1 (WO.c rfl rfl (Wl 1 TI40 rfl TI3 rfl h6 (WA.step (r := [7]) (by kernel_rfl) (by decide) (all1 (WO.u rfl (o_stB TI3 rfl (show _ = Value.int .i64 kn.2 from rfl) rfl hC6 (show 1 < 7 by decide) ?_)))))))
      intro wn hC6' ho6 hs6
      replace h := h.keep ho6 (fun k hk => by omega)
      replace hrow := own_only hrow ho6 (fun k hk he => by have := hvl k hk; omega)
      replace hC4 := ho6.blk hC4 (show ¬ c4 = c6 by omega)
      replace hC9 := ho6.blk hC9 (show ¬ c9 = c6 by omega)
      replace hC10 := ho6.blk hC10 (show ¬ c10 = c6 by omega)
      replace hq := hq.trans' ho6 (fun _ h => h) (fun k hk he => by omega)
      replace hC6 : wn.heap[c6]? = some (.cells (exV (X.lf kn.1 kn.2)).toArray 40 (0, 0)) := hC6'
      clear hC6' ho6 hs6
      refine WA.done (by kernel_rfl) ?_
      exact ⟨h, hrow, hC4, hC6, hC9, hq, h1, h3, h4, h6, h9⟩
     skip
     refine WO.u rfl (o_stB TI3 rfl (show _ = Value.int .i64 kn.1 from rfl) rfl hC6 (show 0 < 7 by decide) ?_)
     intro wk hC6' ho6 hs6
     replace h := h.keep ho6 (fun k hk => by omega)
     replace hrow := own_only hrow ho6 (fun k hk he => by have := hvl k hk; omega)
     replace hC4 := ho6.blk hC4 (show ¬ c4 = c6 by omega)
     replace hC9 := ho6.blk hC9 (show ¬ c9 = c6 by omega)
     replace hC10 := ho6.blk hC10 (show ¬ c10 = c6 by omega)
     replace hq := hq.trans' ho6 (fun _ h => h) (fun k hk he => by omega)
     replace hC6 : wk.heap[c6]? = some (.cells (exV { X with kind := kn.1 }).toArray 40 (0, 0)) := hC6'
     clear hC6' ho6 hs6
     refine WA.step (r := [3]) (by kernel_rfl) (by decide) (all1 (WO.c rfl rfl (Wk TI3 rfl rfl (Wh hC10 rfl) (WA.step (r := [6]) (by kernel_rfl) (by decide) (all1 (WO.c rfl rfl (Wl 1 TI40 rfl TI3 rfl h6 (WA.step (r := [7]) (by kernel_rfl) (by decide) (all1 (WO.u rfl (o_stB TI3 rfl (show _ = Value.int .i64 kn.2 from rfl) rfl hC6 (show 1 < 7 by decide) ?_)))))))))))
     intro wn hC6' ho6 hs6
     replace h := h.keep ho6 (fun k hk => by omega)
     replace hrow := own_only hrow ho6 (fun k hk he => by have := hvl k hk; omega)
     replace hC4 := ho6.blk hC4 (show ¬ c4 = c6 by omega)
     replace hC9 := ho6.blk hC9 (show ¬ c9 = c6 by omega)
     replace hC10 := ho6.blk hC10 (show ¬ c10 = c6 by omega)
     replace hq := hq.trans' ho6 (fun _ h => h) (fun k hk he => by omega)
     replace hC6 : wn.heap[c6]? = some (.cells (exV (X.lf kn.1 kn.2)).toArray 40 (0, 0)) := hC6'
     clear hC6' ho6 hs6
     refine WA.done (by kernel_rfl) ?_
     exact ⟨h, hrow, hC4, hC6, hC9, hq, h1, h3, h4, h6, h9⟩
    skip
    refine WO.c rfl rfl (Wk TI3 rfl rfl (Wh hC10 rfl) (WA.step (r := [1]) (by kernel_rfl) (by decide) (all1 (WO.c rfl rfl (Wk TI3 rfl rfl (Wh hC10 rfl) (WA.step (r := [4]) (by kernel_rfl) (by decide) (all1 (WO.c rfl rfl (Wl 0 TI40 rfl TI3 rfl h6 (WA.step (r := [5]) (by kernel_rfl) (by decide) (all1 (WO.u rfl (o_stB TI3 rfl (show _ = Value.int .i64 kn.1 from rfl) rfl hC6 (show 0 < 7 by decide) ?_)))))))))))))
    intro wk hC6' ho6 hs6
    replace h := h.keep ho6 (fun k hk => by omega)
    replace hrow := own_only hrow ho6 (fun k hk he => by have := hvl k hk; omega)
    replace hC4 := ho6.blk hC4 (show ¬ c4 = c6 by omega)
    replace hC9 := ho6.blk hC9 (show ¬ c9 = c6 by omega)
    replace hC10 := ho6.blk hC10 (show ¬ c10 = c6 by omega)
    replace hq := hq.trans' ho6 (fun _ h => h) (fun k hk he => by omega)
    replace hC6 : wk.heap[c6]? = some (.cells (exV { X with kind := kn.1 }).toArray 40 (0, 0)) := hC6'
    clear hC6' ho6 hs6
    refine WA.step (r := [6]) (by kernel_rfl) (by decide) (all1 (WO.c rfl rfl (Wl 1 TI40 rfl TI3 rfl h6 (WA.step (r := [7]) (by kernel_rfl) (by decide) (all1 (WO.u rfl (o_stB TI3 rfl (show _ = Value.int .i64 kn.2 from rfl) rfl hC6 (show 1 < 7 by decide) ?_)))))))
    intro wn hC6' ho6 hs6
    replace h := h.keep ho6 (fun k hk => by omega)
    replace hrow := own_only hrow ho6 (fun k hk he => by have := hvl k hk; omega)
    replace hC4 := ho6.blk hC4 (show ¬ c4 = c6 by omega)
    replace hC9 := ho6.blk hC9 (show ¬ c9 = c6 by omega)
    replace hC10 := ho6.blk hC10 (show ¬ c10 = c6 by omega)
    replace hq := hq.trans' ho6 (fun _ h => h) (fun k hk he => by omega)
    replace hC6 : wn.heap[c6]? = some (.cells (exV (X.lf kn.1 kn.2)).toArray 40 (0, 0)) := hC6'
    clear hC6' ho6 hs6
    refine WA.done (by kernel_rfl) ?_
    exact ⟨h, hrow, hC4, hC6, hC9, hq, h1, h3, h4, h6, h9⟩
   skip
   refine WO.c rfl rfl (Wk TI3 rfl rfl (Wh hC10 rfl) (WA.step (r := [0]) (by kernel_rfl) (by decide) (all1 (WO.c rfl rfl (Wl 0 TI40 rfl TI3 rfl rfl (WA.step (r := [1]) (by kernel_rfl) (by decide) (all1 (WO.c rfl rfl (Wk TI3 rfl rfl (Wh hC10 rfl) (WA.step (r := [4]) (by kernel_rfl) (by decide) (all1 (WO.c rfl rfl (Wl 0 TI40 rfl TI3 rfl h6 (WA.step (r := [5]) (by kernel_rfl) (by decide) (all1 (WO.u rfl (o_stB TI3 rfl (show _ = Value.int .i64 kn.1 from rfl) rfl hC6 (show 0 < 7 by decide) ?_)))))))))))))))))
   intro wk hC6' ho6 hs6
   replace h := h.keep ho6 (fun k hk => by omega)
   replace hrow := own_only hrow ho6 (fun k hk he => by have := hvl k hk; omega)
   replace hC4 := ho6.blk hC4 (show ¬ c4 = c6 by omega)
   replace hC9 := ho6.blk hC9 (show ¬ c9 = c6 by omega)
   replace hC10 := ho6.blk hC10 (show ¬ c10 = c6 by omega)
   replace hq := hq.trans' ho6 (fun _ h => h) (fun k hk he => by omega)
   replace hC6 : wk.heap[c6]? = some (.cells (exV { X with kind := kn.1 }).toArray 40 (0, 0)) := hC6'
   clear hC6' ho6 hs6
   refine WA.step (r := [6]) (by kernel_rfl) (by decide) (all1 (WO.c rfl rfl (Wl 1 TI40 rfl TI3 rfl h6 (WA.step (r := [7]) (by kernel_rfl) (by decide) (all1 (WO.u rfl (o_stB TI3 rfl (show _ = Value.int .i64 kn.2 from rfl) rfl hC6 (show 1 < 7 by decide) ?_)))))))
   intro wn hC6' ho6 hs6
   replace h := h.keep ho6 (fun k hk => by omega)
   replace hrow := own_only hrow ho6 (fun k hk he => by have := hvl k hk; omega)
   replace hC4 := ho6.blk hC4 (show ¬ c4 = c6 by omega)
   replace hC9 := ho6.blk hC9 (show ¬ c9 = c6 by omega)
   replace hC10 := ho6.blk hC10 (show ¬ c10 = c6 by omega)
   replace hq := hq.trans' ho6 (fun _ h => h) (fun k hk he => by omega)
   replace hC6 : wn.heap[c6]? = some (.cells (exV (X.lf kn.1 kn.2)).toArray 40 (0, 0)) := hC6'
   clear hC6' ho6 hs6
   refine WA.done (by kernel_rfl) ?_
   exact ⟨h, hrow, hC4, hC6, hC9, hq, h1, h3, h4, h6, h9⟩
  rintro e w ⟨h, hrow, hC4, hC6, hC9, hq, h1, h3, h4, h6, h9⟩
  refine We (Wb (Wa rfl (Wf h1 (Wa rfl (o_ldA TI40 rfl h6 (show Cells _ c6 0 (exV (X.lf kn.1 kn.2)) from Cells.of hC6 0 _ (by simp)) rfl (WL.apO (B0) rfl rfl TI36 TI40 (show _ = Value.agg (exV (X.lf kn.1 kn.2)).toArray from rfl) rfl hrow (by decide) (by decide) rfl exV_one rfl (by rw [maxLen_eq]; omega) (by omega) (by have := h.b0; omega) ?_))))))
  intro v2 w2 hown ho hob _
  replace hob : v2.ownBlock = v.ownBlock ∨ _ := hob
  replace ho : Only (fun k => v.ownBlock = some k) _ _ := ho
  replace hown := RowE.snoc hown
  have hvb : ∀ k, v2.ownBlock = some k → v.ownBlock = some k ∨ c4 ≤ k := fun k hk => by
   rcases hob with hb | hb
   ·exact .inl (by rw [← hb]; exact hk)
   rw [hb, Option.some.injEq] at hk; have := hq.size; omega
  replace h := h.keep ho (fun k hk => by have := (hrow.lt k hk).1; omega)
  replace hq := hq.trans' ho (fun _ h => h) (fun _ _ h => .inr h)
  refine Wa rfl (Wg (by first | exact vS | exact rfl) (Wc (Wm (Wu rfl (show _ = v2 from rfl) (⟨[(atE at_ x).lf kn.1 kn.2], at_ + 1, by rw [exprT_s, if_neg hbg, if_neg hdd, hkn], ?_, by simp; omega, by omega, hvb, h, hq⟩)))))
  rw [List.map_singleton, plE_lf, ← hX]
  exact hown
 try simp only [cs8] at c43
 have hkn : leafE (tkA T at_).text = none := by simpa using c43
 refine Wp (We (Wb (Wa rfl (Wf h1 (Wa rfl (Ws TI36 rfl (Sl.own hrow) (Wa rfl (Wg vI (Wc (We (We (Wb (Wa rfl (Wl 1 TI112 rfl TI9 rfl h9 (Wa rfl (Wk TI9 rfl rfl (Wh hC9 rfl) (Wc (W.block (We (We (Wb (Wa rfl (o_eqT rfl rfl (Wa rfl (Wg vB (Wc (W.cut (fun e1 w1 => Psr w1 B0 p lv T fin (at_ + 1) ∧ RowE w1 B0 v L ∧ w1.heap[c4]? = some (.cells #[.pointer (some ⟨p, 0, none⟩)] 80 (0, 0)) ∧ w1.heap[c6]? = some (.cells (exV X).toArray 40 (0, 0)) ∧ w1.heap[c9]? = some (.cells (tokV (tkA T at_)) 112 (0, 0)) ∧ Only (fun k => k = p ∨ v.ownBlock = some k) w0 w1 ∧ e1 1 = v ∧ e1 3 = .int .i64 (deep : Int) ∧ e1 4 = .pointer (some ⟨c4, 0, none⟩) ∧ e1 6 = .pointer (some ⟨c6, 0, none⟩) ∧ e1 9 = .pointer (some ⟨c9, 0, none⟩) ∧ e1 12 = .int .i64 (L.length : Int) ∧ e1 57 = st (tkA T at_).text ∧ e1 66 = .bool (decide ((tkA T at_).text = [118, 101, 99, 116, 111, 114] ∨ (tkA T at_).text = [108, 105, 115, 116]))) ?_ ?_)))))))))))))))))))))))))))
 ·-- both ways
  refine Wn rfl (fun c66 => ?_) (fun c66 => ?_)
  ·try simp only [cs8] at c66
   refine Wp ?_
   first | exact ⟨h, hrow, hC4, hC6, hC9, hq, h1, h3, h4, h6, h9, rfl, rfl, congrArg Value.bool (by simp [c66])⟩
  try simp only [cs8] at c66
  refine Wb (Wa rfl (o_eqT rfl rfl (Wa rfl (Wg vB (Wc ?_)))))
  first | exact ⟨h, hrow, hC4, hC6, hC9, hq, h1, h3, h4, h6, h9, rfl, rfl, congrArg Value.bool (by simp [c66])⟩
 rintro e w ⟨h, hrow, hC4, hC6, hC9, hq, h1, h3, h4, h6, h9, h12, h57, h66⟩
 refine W.cut (fun e1 w1 => ∃ (v2 : Value) (N : List Ex) (j : Nat), e1 1 = v2 ∧ exprT T (f + 1) at_ x deep = .ok N j ∧ RowE w1 B0 v2 (L ++ N.map (plE T)) ∧ L.length + N.length ≤ j ∧ at_ < j ∧ (∀ k, v2.ownBlock = some k → v.ownBlock = some k ∨ c4 ≤ k) ∧ Psr w1 B0 p lv T fin j ∧ Only (fun k => k = p ∨ v.ownBlock = some k) w0 w1) ?_ ?_
 ·-- both ways
  refine Wn h66 (fun c66 => ?_) (fun c66 => ?_)
  ·try simp only [cs8] at c66
   refine We ?_
   have hV : ((tkA T at_).text = [118, 101, 99, 116, 111, 114] ∨ (tkA T at_).text = [108, 105, 115, 116]) := by simpa using c66
   have hXV : exprT T (f + 1) at_ x deep = ((wantT T (at_ + 1) 3 [60]).bind fun _ j => (exprT T f j exM (deep + 1)).bind fun N j => (wantT T j 3 [44]).bind fun _ j => (numT T j).bind fun n j => (wantT T j 3 [62]).bind fun _ j => .ok ((atE at_ x).vec (decide ((tkA T at_).text = [108, 105, 115, 116])) n :: N) j) := by
    rw [exprT_s, if_neg hbg, if_neg hdd, hkn]
    exact if_pos hV
   refine Wb (Wa rfl (Wl 0 TI40 rfl TI3 rfl h6 (WL.u (o_stB TI3 rfl vI rfl hC6 (show 0 < 7 by decide) ?_))))
   intro wq hC6' ho6 hs6
   replace h := h.keep ho6 (fun k hk => by omega)
   replace hrow := own_only hrow ho6 (fun k hk he => by have := hvl k hk; omega)
   replace hC4 := ho6.blk hC4 (show ¬ c4 = c6 by omega)
   replace hC9 := ho6.blk hC9 (show ¬ c9 = c6 by omega)
   replace hq := hq.trans' ho6 (fun _ h => h) (fun k hk he => by omega)
   replace hC6 : wq.heap[c6]? = some (.cells (exV { X with kind := 4 }).toArray 40 (0, 0)) := hC6'
   clear hC6' ho6 hs6
   refine Wa rfl (Wl 5 TI40 rfl TI3 rfl h6 (WL.u (o_stB TI3 rfl vI rfl hC6 (show 5 < 7 by decide) ?_)))
   intro wr hC6' ho6 hs6
   replace h := h.keep ho6 (fun k hk => by omega)
   replace hrow := own_only hrow ho6 (fun k hk he => by have := hvl k hk; omega)
   replace hC4 := ho6.blk hC4 (show ¬ c4 = c6 by omega)
   replace hC9 := ho6.blk hC9 (show ¬ c9 = c6 by omega)
   replace hq := hq.trans' ho6 (fun _ h => h) (fun k hk he => by omega)
   replace hC6 : wr.heap[c6]? = some (.cells (exV { X with kind := 4, kids := 1 }).toArray 40 (0, 0)) := hC6'
   clear hC6' ho6 hs6
   refine Wc (We (We (Wb (Wa rfl (Wl 1 TI112 rfl TI9 rfl h9 (Wa rfl (Wk TI9 rfl rfl (Wh hC9 rfl) (Wa rfl (o_eqT rfl rfl (Wc (W.cut (fun e1 w1 => Psr w1 B0 p lv T fin (at_ + 1) ∧ RowE w1 B0 v L ∧ w1.heap[c4]? = some (.cells #[.pointer (some ⟨p, 0, none⟩)] 80 (0, 0)) ∧ w1.heap[c6]? = some (.cells (exV (X.vec (decide ((tkA T at_).text = [108, 105, 115, 116])) X.n)).toArray 40 (0, 0)) ∧ w1.heap[c9]? = some (.cells (tokV (tkA T at_)) 112 (0, 0)) ∧ Only (fun k => k = p ∨ v.ownBlock = some k) w0 w1 ∧ e1 1 = v ∧ e1 3 = .int .i64 (deep : Int) ∧ e1 4 = .pointer (some ⟨c4, 0, none⟩) ∧ e1 6 = .pointer (some ⟨c6, 0, none⟩) ∧ e1 9 = .pointer (some ⟨c9, 0, none⟩) ∧ e1 12 = .int .i64 (L.length : Int)) ?_ ?_)))))))))))
   ·-- both ways
    refine Wn rfl (fun c73 => ?_) (fun c73 => ?_)
    ·try simp only [cs8] at c73
     refine Wb (Wa rfl (Wl 0 TI40 rfl TI3 rfl h6 (WL.u (o_stB TI3 rfl vI rfl hC6 (show 0 < 7 by decide) ?_))))
     intro ws hC6' ho6 hs6
     replace h := h.keep ho6 (fun k hk => by omega)
     replace hrow := own_only hrow ho6 (fun k hk he => by have := hvl k hk; omega)
     replace hC4 := ho6.blk hC4 (show ¬ c4 = c6 by omega)
     replace hC9 := ho6.blk hC9 (show ¬ c9 = c6 by omega)
     replace hq := hq.trans' ho6 (fun _ h => h) (fun k hk he => by omega)
     replace hC6 : ws.heap[c6]? = some (.cells (exV { X with kind := 5, kids := 1 }).toArray 40 (0, 0)) := hC6'
     clear hC6' ho6 hs6
     refine Wc ?_
     first | exact ⟨h, hrow, hC4, (by rw [decide_eq_true c73]; exact hC6), hC9, hq, h1, h3, h4, h6, h9, h12⟩ | exact ⟨h, hrow, hC4, (by rw [decide_eq_false c73]; exact hC6), hC9, hq, h1, h3, h4, h6, h9, h12⟩
    try simp only [cs8] at c73
    refine Wp ?_
    first | exact ⟨h, hrow, hC4, (by rw [decide_eq_true c73]; exact hC6), hC9, hq, h1, h3, h4, h6, h9, h12⟩ | exact ⟨h, hrow, hC4, (by rw [decide_eq_false c73]; exact hC6), hC9, hq, h1, h3, h4, h6, h9, h12⟩
   rintro e w ⟨h, hrow, hC4, hC6, hC9, hq, h1, h3, h4, h6, h9, h12⟩
   refine We (Wb (Wa rfl (Wk TI80 rfl h4 (Wh hC4 rfl) (WL.cx rfl (ox_call Tryd.call27 (lc rfl (lc rfl ln)) ((mark_spec B0 p lv T fin (at_ + 1) _ h [60]).mono ?_ (fun ch w' hh => by obtain ⟨e, j, h1, h2, h3⟩ := hh; exact ⟨e, j, by rw [hXV, h1]; rfl, h2, hq.ext h3⟩)))))))
   rintro v76 w76 ⟨hw1, h', hop⟩
   replace h := h'
   replace hrow := own_only hrow hop (fun k hk he => by subst he; exact hvp hk)
   replace hC4 := hop.blk hC4 (show ¬ c4 = p by omega)
   replace hC6 := hop.blk hC6 (show ¬ c6 = p by omega)
   replace hC9 := hop.blk hC9 (show ¬ c9 = p by omega)
   replace hq := hq.trans' hop (fun _ h => h) (fun _ _ h => .inl h)
   refine Wc (We ?_)
   obtain ⟨wd, hwd⟩ : ∃ wd, wd = w76.drew := ⟨_, rfl⟩
   have hxd : Ext w76 wd := hwd ▸ Only.drew w76
   replace h := h.ext hxd
   replace hrow := Wr hrow hxd
   replace hC4 := hxd.blk hC4 (fun h => h)
   replace hC6 := hxd.blk hC6 (fun h => h)
   replace hC9 := hxd.blk hC9 (fun h => h)
   replace hq := hq.ext hxd
   obtain ⟨X2, hX2⟩ : ∃ X2, X2 = (X.vec (decide ((tkA T at_).text = [108, 105, 115, 116])) X.n) := ⟨_, rfl⟩
   rw [← hX2] at hC6
   have hvd : ∀ k, v.ownBlock = some k → k < wd.heap.size := fun k hk => (hrow.lt k hk).2
   have hwd0 := hq.size
   refine W.drawF 8 [4] [fun k => v.ownBlock = some k] [(1, fun v _ => v = _), (3, fun v _ => v = _), (4, fun v _ => v = _), (6, fun v _ => v = _), (12, fun v _ => v = _)] rfl (by kernel_rfl) (by kernel_rfl) ⟨Mono.eq, Mono.eq, Mono.eq, Mono.eq, Mono.eq, trivial⟩ ⟨h1, h3, h4, h6, h12, trivial⟩ (WDS.p rfl (by decide) (fun e w hR hh => by obtain ⟨h4, -⟩ := hh; rw [← hwd] at hR; have hc := hR.blk hC4 (fun hF => by rcases hF with hF | hF; have := hvl _ hF; omega; exact hF); exact SG.n (Wk TI80 rfl h4 (Wh hc rfl) ⟨rfl, Only.refl No _⟩)) (WDS.p rfl (by decide) (fun e w hR hh => by obtain ⟨h1, -⟩ := hh; exact SG.n (Wf h1 ⟨rfl, Only.refl No _⟩)) (WDS.p rfl (by decide) (fun e w hR hh => by obtain ⟨h6, -⟩ := hh; rw [← hwd] at hR; have hc := hR.blk hC6 (fun hF => by rcases hF with hF | hF; have := hvl _ hF; omega; exact hF); exact SG.n (o_ldA TI40 rfl h6 (show Cells _ c6 0 (exV X2) from Cells.of hc 0 _ (by simp)) rfl ⟨rfl, Only.refl No _⟩)) (WDS.q 0 (fun u w => w.ownsRow wd.heap.size 40 7 u 1 (exV X2)) (fun u w w2 hR hh => own_only hh hR (fun k hk hF => by rcases hF with hF | hF; have := hvd k hF; have := (hh.lt k hk).1; omega; exact hF)) (by kernel_rfl) rfl (by decide) (fun e w hR hh => by obtain ⟨h79, -⟩ := hh; rw [← hwd] at hR; exact SG.n (o_bs1 TI36 TI40 h79 (by decide) (by decide) rfl ⟨own_mono (own_new1 rfl) hR.size, Only.alloc w _⟩)) (WDS.mf 0 1 (fun u w => RowE w B0 u (L ++ [X2]) ∧ ∀ k, u.ownBlock = some k → v.ownBlock = some k ∨ wd.heap.size ≤ k) (fun u w w2 hR hh => ⟨Wr hh.1 hR, hh.2⟩) (by kernel_rfl) rfl rfl rfl (fun e w hR hW hh => by obtain ⟨h80, h78, -⟩ := hh; rw [← hwd] at hR hW; have hrow4 := own_only hrow hW (fun k hk hF => hF); have hb0 := h.b0; have hws := hW.size; exact SGX.n (OP.x (o_apO B0 TI36 TI40 h78 rfl hrow4 (Sl.own h80) rfl (by decide) (exV_one (y := X2)) (by rw [maxLen_eq]; omega) (by omega) (by omega) (fun v' w' h1 h2 h3 _ => ⟨⟨RowE.snoc h1, fun k hk => by rcases h3 with h3 | h3; exact .inl (by rw [← h3]; exact hk); rw [h3, Option.some.injEq] at hk; have := hW.size; omega⟩, h2⟩)))) (WDS.p rfl (by decide) (fun e w hR hh => by skip; exact SG.n (o_bldC (cs := [(.int .i64 0), (.int .i64 0), (.string ⟨#[]⟩), (.string ⟨#[]⟩), (.int .i64 0), (.int .i64 0), (.int .i64 (-1))]) TI40 (Sizes.cons TI3 (Sizes.cons TI3 (Sizes.cons TI9 (Sizes.cons TI9 (Sizes.cons TI3 (Sizes.cons TI3 (Sizes.cons TI3 Sizes.nil))))))) rfl (lcp vI lnp) rfl rfl ⟨rfl, Only.refl No _⟩)) (WDS.p rfl (by decide) (fun e w hR hh => by obtain ⟨h3, -⟩ := hh; exact SG.n (Wf h3 ⟨rfl, Only.refl No _⟩)) (WDS.p rfl (by decide) (fun e w hR hh => by obtain ⟨h83, -⟩ := hh; exact SG.n (o_addi h83 rfl (by omega) ⟨rfl, Only.refl No _⟩)) ?_))))))))
   rintro e w hR ⟨h84, h83, h82, h81, h80, h79, h78, h77, h1, h3, h4, h6, h12, -⟩
   rw [← hwd] at hR
   obtain ⟨hr81, hb81⟩ := h81
   replace h := h.keep hR (fun k hF => by rcases hF with hF | hF; have := (hrow.lt k hF).1; omega; exact hF.elim)
   replace hC4 := hR.blk hC4 (fun hF => by rcases hF with hF | hF; have := hvl _ hF; omega; exact hF)
   replace hC9 := hR.blk hC9 (fun hF => by rcases hF with hF | hF; have := hvl _ hF; omega; exact hF)
   replace hq := hq.trans' hR (fun _ h => h) (fun k hk hF => by rcases hF with hF | hF; exact .inr hF; exact hF.elim)
   have hsz8 := hR.size
   have hE2 := hE (by omega) (at_ + 2) (by omega) (at_ + 1 + 1) exM (L ++ [X2]) (e 81) _ (Nat.le_refl _) rfl h hr81 (by rw [List.length_append, List.length_singleton]; omega)
   rw [plE_exM, show ((deep + 1 : Nat) : Int) = (deep : Int) + 1 by omega] at hE2
   have hpr : ¬ (e 81).ownBlock = some p := own_off hr81 h.cell (by decide)
   have hcr : ¬ (e 81).ownBlock = some c4 := own_off hr81 hC4 (by decide)
   refine WL.cx rfl (ox_call Tryd.call28 (lc h77 (lc rfl (lc h82 (lc h84 ln)))) ((hE2).mono ?_ (fun ch w' hh => by obtain ⟨e, j, h1, h2, h3⟩ := hh; replace h1 : exprT T f (at_ + 1 + 1) exM (deep + 1) = .bad e j := h1; exact ⟨e, j, by rw [hXV, hw1, Pr.bind_ok, h1]; rfl, h2, hq.trans' h3 (fun _ h => h) (fun k hk hF => hF.imp id (fun he => (hb81 k he).resolve_right (by omega)))⟩)))
   rintro v85 w85 ⟨N, j, hN, hrow2, hNl, hij, hvb2, h', hop⟩
   replace hN : exprT T f (at_ + 1 + 1) exM (deep + 1) = .ok N j := hN
   have erow : (L ++ [X2]) ++ N.map (plE T) = L ++ X2 :: N.map (plE T) := by simp
   rw [erow] at hrow2
   rw [List.length_append, List.length_singleton] at hNl
   replace h := h'
   replace hC4 := hop.blk hC4 (fun hF => by rcases hF with hF | hF; omega; exact hcr hF)
   replace hq := hq.trans' hop (fun _ h => h) (fun k hk hF => hF.imp id (fun he => (hb81 k he).resolve_right (by omega)))
   have hvb : ∀ k, v85.ownBlock = some k → v.ownBlock = some k ∨ c4 ≤ k := fun k hk => by
    rcases hvb2 k hk with h8 | h8
    ·exact (hb81 k h8).imp id (fun h9 => by omega)
    exact .inr (by omega)
   obtain ⟨g2, cap2, rfl, hgb3⟩ := own_some hrow2 (by simp only [List.length_append, List.length_cons]; omega)
   have hg2p : ¬ g2 = p := fun he => own_off hrow2 h.cell (by decide) (by rw [he]; rfl)
   have hg2c : ¬ g2 = c4 := fun he => own_off hrow2 hC4 (by decide) (by rw [he]; rfl)
   have hg2r : p < g2 := by have := (hrow2.lt g2 rfl).1; have := h.hp; omega
   have hjl := h.le
   refine Wa rfl (Wg (by first | exact vS | exact rfl) (Wc (We (Wb (Wa rfl (Wk TI80 rfl h4 (Wh hC4 rfl) (WL.cx rfl (ox_call Tryd.call27 (lc rfl (lc rfl ln)) ((mark_spec B0 p lv T fin j _ h [44]).mono ?_ (fun ch w' hh => by obtain ⟨e, j, h1, h2, h3⟩ := hh; exact ⟨e, j, by rw [hXV, hw1, Pr.bind_ok, hN, Pr.bind_ok, h1]; rfl, h2, hq.ext h3⟩))))))))))
   rintro v87 w87 ⟨hw2, h', hop⟩
   replace h := h'
   replace hC4 := hop.blk hC4 (show ¬ c4 = p by omega)
   replace hrow2 := own_only hrow2 hop (fun k hk he => by obtain rfl := ob hk; exact hg2p he)
   replace hq := hq.trans' hop (fun _ h => h) (fun _ _ h => .inl h)
   refine Wc (We (Wb (Wa rfl (Wf (by first | exact vS | exact rfl) (Wa rfl (Wf h12 (Wa rfl (Wk TI80 rfl h4 (Wh hC4 rfl) (WL.cx rfl (ox_call Tryd.call49 (lc rfl ln) ((nump_spec B0 p lv T fin (j + 1) _ h).mono ?_ (fun ch w' hh => by obtain ⟨e, j, h1, h2, h3⟩ := hh; exact ⟨e, j, by rw [hXV, hw1, Pr.bind_ok, hN, Pr.bind_ok, hw2, Pr.bind_ok, h1]; rfl, h2, hq.ext h3⟩))))))))))))
   rintro v91 w91 ⟨nn, hw3, rfl, h', hop⟩
   replace h := h'
   replace hC4 := hop.blk hC4 (show ¬ c4 = p by omega)
   replace hrow2 := own_only hrow2 hop (fun k hk he => by obtain rfl := ob hk; exact hg2p he)
   replace hq := hq.trans' hop (fun _ h => h) (fun _ _ h => .inl h)
   refine Wa rfl (Wt (i := L.length) TI36 TI40 (show _ = Value.slice (some ⟨g2, 0, none⟩) (L ++ X2 :: N.map (plE T)).length cap2 from rfl) (by first | rfl | exact h12) (by simp only [List.length_append, List.length_cons]; omega) (Wa rfl (Wl 1 TI40 rfl TI3 rfl rfl (WL.u (o_stRj (i := L.length * 7 + 1) TI3 rfl (by omega) (show _ = Value.int .i64 (nn : Int) from rfl) rfl hrow2 rfl (by simp only [List.length_append, List.length_cons]; omega) ?_)))))
   intro w93 hrow3 ho93 hs93
   rw [exs_setN] at hrow3
   clear hrow2
   have hrow2 : RowE w93 B0 (.slice (some ⟨g2, 0, none⟩) (L ++ X2 :: N.map (plE T)).length cap2) (L ++ X2.wn (nn : Int) :: N.map (plE T)) := by
    show World.ownsRow _ _ _ _ _ (L ++ X2.wn (nn : Int) :: N.map (plE T)).length _
    rw [show (L ++ X2.wn (nn : Int) :: N.map (plE T)).length = (L ++ X2 :: N.map (plE T)).length by simp only [List.length_append, List.length_cons]]
    exact hrow3
   clear hrow3
   replace h := h.keep ho93 (fun k hk => by obtain rfl := ob hk; exact hg2r)
   replace hC4 := ho93.blk hC4 (fun hk => hg2c (ob hk))
   replace hq := hq.trans' ho93 (fun _ h => h) (fun k hk hF => .inr ((hvb k hF).resolve_right (by omega)))
   refine Wc (Wb (Wa rfl (Wk TI80 rfl h4 (Wh hC4 rfl) (WL.cx rfl (ox_call Tryd.call27 (lc rfl (lc rfl ln)) ((mark_spec B0 p lv T fin (j + 1 + 1) _ h [62]).mono ?_ (fun ch w' hh => by obtain ⟨e, j, h1, h2, h3⟩ := hh; exact ⟨e, j, by rw [hXV, hw1, Pr.bind_ok, hN, Pr.bind_ok, hw2, Pr.bind_ok, hw3, Pr.bind_ok, h1]; rfl, h2, hq.ext h3⟩)))))))
   rintro v95 w95 ⟨hw4, h', hop⟩
   replace h := h'
   replace hC4 := hop.blk hC4 (show ¬ c4 = p by omega)
   replace hrow2 := own_only hrow2 hop (fun k hk he => by obtain rfl := ob hk; exact hg2p he)
   replace hq := hq.trans' hop (fun _ h => h) (fun _ _ h => .inl h)
   refine Wc ?_
   have hfin : exprT T (f + 1) at_ x deep = .ok ((atE at_ x).vec (decide ((tkA T at_).text = [108, 105, 115, 116])) nn :: N) (j + 1 + 1 + 1) ∧ RowE w95 B0 (.slice (some ⟨g2, 0, none⟩) (L ++ X2 :: N.map (plE T)).length cap2) (L ++ ((atE at_ x).vec (decide ((tkA T at_).text = [108, 105, 115, 116])) nn :: N).map (plE T)) ∧ L.length + ((atE at_ x).vec (decide ((tkA T at_).text = [108, 105, 115, 116])) nn :: N).length ≤ j + 1 + 1 + 1 ∧ at_ < j + 1 + 1 + 1 ∧ (∀ k, (Value.slice (some ⟨g2, 0, none⟩) (L ++ X2 :: N.map (plE T)).length cap2).ownBlock = some k → v.ownBlock = some k ∨ c4 ≤ k) ∧ Psr w95 B0 p lv T fin (j + 1 + 1 + 1) ∧ Only (fun k => k = p ∨ v.ownBlock = some k) w0 w95 := by
    refine ⟨by rw [hXV, hw1, Pr.bind_ok, hN, Pr.bind_ok, hw2, Pr.bind_ok, hw3, Pr.bind_ok, hw4]; rfl, ?_, by rw [List.length_cons]; omega, by omega, hvb, h, hq⟩
    rw [List.map_cons, plE_vec, ← hX]
    rw [hX2] at hrow2 ⊢
    exact hrow2
   exact ⟨_, _, _, rfl, hfin⟩
  try simp only [cs8] at c66
  refine We ?_
  have hV : ¬ ((tkA T at_).text = [118, 101, 99, 116, 111, 114] ∨ (tkA T at_).text = [108, 105, 115, 116]) := by simpa using c66
  refine Wb (Wa rfl (o_eqT h57 rfl (Wa rfl (Wg vB (Wc (Wn rfl (fun c96 => ?_) (fun c96 => ?_)))))))
  ·try simp only [cs8] at c96
   refine We ?_
   have hO : (tkA T at_).text = [111, 112, 116, 105, 111, 110] := by simpa using c96
   have hXO : exprT T (f + 1) at_ x deep = ((wantT T (at_ + 1) 3 [60]).bind fun _ j => (exprT T f j exM (deep + 1)).bind fun N j => (wantT T j 3 [62]).bind fun _ j => .ok ((atE at_ x).opt :: N) j) := by
    rw [exprT_s, if_neg hbg, if_neg hdd, hkn]
    exact (if_neg hV).trans (if_pos hO)
   refine Wb (Wa rfl (Wl 0 TI40 rfl TI3 rfl h6 (WL.u (o_stB TI3 rfl vI rfl hC6 (show 0 < 7 by decide) ?_))))
   intro wq hC6' ho6 hs6
   replace h := h.keep ho6 (fun k hk => by omega)
   replace hrow := own_only hrow ho6 (fun k hk he => by have := hvl k hk; omega)
   replace hC4 := ho6.blk hC4 (show ¬ c4 = c6 by omega)
   replace hC9 := ho6.blk hC9 (show ¬ c9 = c6 by omega)
   replace hq := hq.trans' ho6 (fun _ h => h) (fun k hk he => by omega)
   replace hC6 : wq.heap[c6]? = some (.cells (exV { X with kind := 6 }).toArray 40 (0, 0)) := hC6'
   clear hC6' ho6 hs6
   refine Wa rfl (Wl 5 TI40 rfl TI3 rfl h6 (WL.u (o_stB TI3 rfl vI rfl hC6 (show 5 < 7 by decide) ?_)))
   intro wr hC6' ho6 hs6
   replace h := h.keep ho6 (fun k hk => by omega)
   replace hrow := own_only hrow ho6 (fun k hk he => by have := hvl k hk; omega)
   replace hC4 := ho6.blk hC4 (show ¬ c4 = c6 by omega)
   replace hC9 := ho6.blk hC9 (show ¬ c9 = c6 by omega)
   replace hq := hq.trans' ho6 (fun _ h => h) (fun k hk he => by omega)
   replace hC6 : wr.heap[c6]? = some (.cells (exV X.opt).toArray 40 (0, 0)) := hC6'
   clear hC6' ho6 hs6
   refine Wc (We (Wb (Wa rfl (Wk TI80 rfl h4 (Wh hC4 rfl) (WL.cx rfl (ox_call Tryd.call27 (lc rfl (lc rfl ln)) ((mark_spec B0 p lv T fin (at_ + 1) _ h [60]).mono ?_ (fun ch w' hh => by obtain ⟨e, j, h1, h2, h3⟩ := hh; exact ⟨e, j, by rw [hXO, h1]; rfl, h2, hq.ext h3⟩))))))))
   rintro v101 w101 ⟨hw1, h', hop⟩
   replace h := h'
   replace hrow := own_only hrow hop (fun k hk he => by subst he; exact hvp hk)
   replace hC4 := hop.blk hC4 (show ¬ c4 = p by omega)
   replace hC6 := hop.blk hC6 (show ¬ c6 = p by omega)
   replace hC9 := hop.blk hC9 (show ¬ c9 = p by omega)
   replace hq := hq.trans' hop (fun _ h => h) (fun _ _ h => .inl h)
   refine Wc (We ?_)
   obtain ⟨wd, hwd⟩ : ∃ wd, wd = w101.drew := ⟨_, rfl⟩
   have hxd : Ext w101 wd := hwd ▸ Only.drew w101
   replace h := h.ext hxd
   replace hrow := Wr hrow hxd
   replace hC4 := hxd.blk hC4 (fun h => h)
   replace hC6 := hxd.blk hC6 (fun h => h)
   replace hC9 := hxd.blk hC9 (fun h => h)
   replace hq := hq.ext hxd
   obtain ⟨X2, hX2⟩ : ∃ X2, X2 = X.opt := ⟨_, rfl⟩
   rw [← hX2] at hC6
   have hvd : ∀ k, v.ownBlock = some k → k < wd.heap.size := fun k hk => (hrow.lt k hk).2
   have hwd0 := hq.size
   refine W.drawF 8 [4] [fun k => v.ownBlock = some k] [(1, fun v _ => v = _), (3, fun v _ => v = _), (4, fun v _ => v = _), (6, fun v _ => v = _), (12, fun v _ => v = _)] rfl (by kernel_rfl) (by kernel_rfl) ⟨Mono.eq, Mono.eq, Mono.eq, Mono.eq, Mono.eq, trivial⟩ ⟨h1, h3, h4, h6, h12, trivial⟩ (WDS.p rfl (by decide) (fun e w hR hh => by obtain ⟨h4, -⟩ := hh; rw [← hwd] at hR; have hc := hR.blk hC4 (fun hF => by rcases hF with hF | hF; have := hvl _ hF; omega; exact hF); exact SG.n (Wk TI80 rfl h4 (Wh hc rfl) ⟨rfl, Only.refl No _⟩)) (WDS.p rfl (by decide) (fun e w hR hh => by obtain ⟨h1, -⟩ := hh; exact SG.n (Wf h1 ⟨rfl, Only.refl No _⟩)) (WDS.p rfl (by decide) (fun e w hR hh => by obtain ⟨h6, -⟩ := hh; rw [← hwd] at hR; have hc := hR.blk hC6 (fun hF => by rcases hF with hF | hF; have := hvl _ hF; omega; exact hF); exact SG.n (o_ldA TI40 rfl h6 (show Cells _ c6 0 (exV X2) from Cells.of hc 0 _ (by simp)) rfl ⟨rfl, Only.refl No _⟩)) (WDS.q 0 (fun u w => w.ownsRow wd.heap.size 40 7 u 1 (exV X2)) (fun u w w2 hR hh => own_only hh hR (fun k hk hF => by rcases hF with hF | hF; have := hvd k hF; have := (hh.lt k hk).1; omega; exact hF)) (by kernel_rfl) rfl (by decide) (fun e w hR hh => by obtain ⟨h104, -⟩ := hh; rw [← hwd] at hR; exact SG.n (o_bs1 TI36 TI40 h104 (by decide) (by decide) rfl ⟨own_mono (own_new1 rfl) hR.size, Only.alloc w _⟩)) (WDS.mf 0 1 (fun u w => RowE w B0 u (L ++ [X2]) ∧ ∀ k, u.ownBlock = some k → v.ownBlock = some k ∨ wd.heap.size ≤ k) (fun u w w2 hR hh => ⟨Wr hh.1 hR, hh.2⟩) (by kernel_rfl) rfl rfl rfl (fun e w hR hW hh => by obtain ⟨h105, h103, -⟩ := hh; rw [← hwd] at hR hW; have hrow4 := own_only hrow hW (fun k hk hF => hF); have hb0 := h.b0; have hws := hW.size; exact SGX.n (OP.x (o_apO B0 TI36 TI40 h103 rfl hrow4 (Sl.own h105) rfl (by decide) (exV_one (y := X2)) (by rw [maxLen_eq]; omega) (by omega) (by omega) (fun v' w' h1 h2 h3 _ => ⟨⟨RowE.snoc h1, fun k hk => by rcases h3 with h3 | h3; exact .inl (by rw [← h3]; exact hk); rw [h3, Option.some.injEq] at hk; have := hW.size; omega⟩, h2⟩)))) (WDS.p rfl (by decide) (fun e w hR hh => by skip; exact SG.n (o_bldC (cs := [(.int .i64 0), (.int .i64 0), (.string ⟨#[]⟩), (.string ⟨#[]⟩), (.int .i64 0), (.int .i64 0), (.int .i64 (-1))]) TI40 (Sizes.cons TI3 (Sizes.cons TI3 (Sizes.cons TI9 (Sizes.cons TI9 (Sizes.cons TI3 (Sizes.cons TI3 (Sizes.cons TI3 Sizes.nil))))))) rfl (lcp vI lnp) rfl rfl ⟨rfl, Only.refl No _⟩)) (WDS.p rfl (by decide) (fun e w hR hh => by obtain ⟨h3, -⟩ := hh; exact SG.n (Wf h3 ⟨rfl, Only.refl No _⟩)) (WDS.p rfl (by decide) (fun e w hR hh => by obtain ⟨h108, -⟩ := hh; exact SG.n (o_addi h108 rfl (by omega) ⟨rfl, Only.refl No _⟩)) ?_))))))))
   rintro e w hR ⟨h109, h108, h107, h106, h105, h104, h103, h102, h1, h3, h4, h6, h12, -⟩
   rw [← hwd] at hR
   obtain ⟨hr81, hb81⟩ := h106
   replace h := h.keep hR (fun k hF => by rcases hF with hF | hF; have := (hrow.lt k hF).1; omega; exact hF.elim)
   replace hC4 := hR.blk hC4 (fun hF => by rcases hF with hF | hF; have := hvl _ hF; omega; exact hF)
   replace hC9 := hR.blk hC9 (fun hF => by rcases hF with hF | hF; have := hvl _ hF; omega; exact hF)
   replace hq := hq.trans' hR (fun _ h => h) (fun k hk hF => by rcases hF with hF | hF; exact .inr hF; exact hF.elim)
   have hsz8 := hR.size
   have hE2 := hE (by omega) (at_ + 2) (by omega) (at_ + 1 + 1) exM (L ++ [X2]) (e 106) _ (Nat.le_refl _) rfl h hr81 (by rw [List.length_append, List.length_singleton]; omega)
   rw [plE_exM, show ((deep + 1 : Nat) : Int) = (deep : Int) + 1 by omega] at hE2
   have hpr : ¬ (e 106).ownBlock = some p := own_off hr81 h.cell (by decide)
   have hcr : ¬ (e 106).ownBlock = some c4 := own_off hr81 hC4 (by decide)
   refine WL.cx rfl (ox_call Tryd.call28 (lc h102 (lc rfl (lc h107 (lc h109 ln)))) ((hE2).mono ?_ (fun ch w' hh => by obtain ⟨e, j, h1, h2, h3⟩ := hh; replace h1 : exprT T f (at_ + 1 + 1) exM (deep + 1) = .bad e j := h1; exact ⟨e, j, by rw [hXO, hw1, Pr.bind_ok, h1]; rfl, h2, hq.trans' h3 (fun _ h => h) (fun k hk hF => hF.imp id (fun he => (hb81 k he).resolve_right (by omega)))⟩)))
   rintro v110 w110 ⟨N, j, hN, hrow2, hNl, hij, hvb2, h', hop⟩
   replace hN : exprT T f (at_ + 1 + 1) exM (deep + 1) = .ok N j := hN
   have erow : (L ++ [X2]) ++ N.map (plE T) = L ++ X2 :: N.map (plE T) := by simp
   rw [erow] at hrow2
   rw [List.length_append, List.length_singleton] at hNl
   replace h := h'
   replace hC4 := hop.blk hC4 (fun hF => by rcases hF with hF | hF; omega; exact hcr hF)
   replace hq := hq.trans' hop (fun _ h => h) (fun k hk hF => hF.imp id (fun he => (hb81 k he).resolve_right (by omega)))
   have hvb : ∀ k, v110.ownBlock = some k → v.ownBlock = some k ∨ c4 ≤ k := fun k hk => by
    rcases hvb2 k hk with h8 | h8
    ·exact (hb81 k h8).imp id (fun h9 => by omega)
    exact .inr (by omega)
   obtain ⟨g2, cap2, rfl, hgb3⟩ := own_some hrow2 (by simp only [List.length_append, List.length_cons]; omega)
   have hg2p : ¬ g2 = p := fun he => own_off hrow2 h.cell (by decide) (by rw [he]; rfl)
   have hg2c : ¬ g2 = c4 := fun he => own_off hrow2 hC4 (by decide) (by rw [he]; rfl)
   have hg2r : p < g2 := by have := (hrow2.lt g2 rfl).1; have := h.hp; omega
   have hjl := h.le
   refine Wa rfl (Wg (by first | exact vS | exact rfl) (Wc (Wb (Wa rfl (Wk TI80 rfl h4 (Wh hC4 rfl) (WL.cx rfl (ox_call Tryd.call27 (lc rfl (lc rfl ln)) ((mark_spec B0 p lv T fin j _ h [62]).mono ?_ (fun ch w' hh => by obtain ⟨e, j, h1, h2, h3⟩ := hh; exact ⟨e, j, by rw [hXO, hw1, Pr.bind_ok, hN, Pr.bind_ok, h1]; rfl, h2, hq.ext h3⟩)))))))))
   rintro v112 w112 ⟨hw2, h', hop⟩
   replace h := h'
   replace hC4 := hop.blk hC4 (show ¬ c4 = p by omega)
   replace hrow2 := own_only hrow2 hop (fun k hk he => by obtain rfl := ob hk; exact hg2p he)
   replace hq := hq.trans' hop (fun _ h => h) (fun _ _ h => .inl h)
   refine Wc ?_
   have hfin : exprT T (f + 1) at_ x deep = .ok ((atE at_ x).opt :: N) (j + 1) ∧ RowE w112 B0 (.slice (some ⟨g2, 0, none⟩) (L ++ X2 :: N.map (plE T)).length cap2) (L ++ ((atE at_ x).opt :: N).map (plE T)) ∧ L.length + ((atE at_ x).opt :: N).length ≤ j + 1 ∧ at_ < j + 1 ∧ (∀ k, (Value.slice (some ⟨g2, 0, none⟩) (L ++ X2 :: N.map (plE T)).length cap2).ownBlock = some k → v.ownBlock = some k ∨ c4 ≤ k) ∧ Psr w112 B0 p lv T fin (j + 1) ∧ Only (fun k => k = p ∨ v.ownBlock = some k) w0 w112 := by
    refine ⟨by rw [hXO, hw1, Pr.bind_ok, hN, Pr.bind_ok, hw2]; rfl, ?_, by rw [List.length_cons]; omega, by omega, hvb, h, hq⟩
    rw [List.map_cons, plE_opt, ← hX]
    rw [hX2] at hrow2 ⊢
    exact hrow2
   exact ⟨_, _, _, rfl, hfin⟩
  try simp only [cs8] at c96
  refine We ?_
  have hO : ¬ (tkA T at_).text = [111, 112, 116, 105, 111, 110] := by simpa using c96
  refine Wb (Wa rfl (o_eqT h57 rfl (Wa rfl (Wg vB (Wc (Wn rfl (fun c113 => ?_) (fun c113 => ?_)))))))
  ·try simp only [cs8] at c113
   refine We ?_
   have hU : (tkA T at_).text = [117, 110, 105, 111, 110] := by simpa using c113
   have hXR : exprT T (f + 1) at_ x deep = (((wantT T (at_ + 1) 3 [123]).bind fun _ j => rowsT (fun i x => exprT T f i x (deep + 1)) T true f j 0).bind fun r j => .ok ((atE at_ x).br true (r.2 : Nat) :: r.1) j) := by
    rw [exprT_s, if_neg hbg, if_neg hdd, hkn]
    exact (if_neg hV).trans ((if_neg hO).trans (if_pos hU))
   refine Wb (Wa rfl (Wl 0 TI40 rfl TI3 rfl h6 (WL.u (o_stB TI3 rfl vI rfl hC6 (show 0 < 7 by decide) ?_))))
   intro wq hC6' ho6 hs6
   replace h := h.keep ho6 (fun k hk => by omega)
   replace hrow := own_only hrow ho6 (fun k hk he => by have := hvl k hk; omega)
   replace hC4 := ho6.blk hC4 (show ¬ c4 = c6 by omega)
   replace hC9 := ho6.blk hC9 (show ¬ c9 = c6 by omega)
   replace hq := hq.trans' ho6 (fun _ h => h) (fun k hk he => by omega)
   replace hC6 : wq.heap[c6]? = some (.cells (exV { X with kind := 7 }).toArray 40 (0, 0)) := hC6'
   clear hC6' ho6 hs6
   have hX6 : ({ X with kind := 7 } : Ex) = X.br true 0 := by show _ = ({ X with kind := _, kids := 0 } : Ex); rw [← hXk]; rfl
   rw [hX6] at hC6
   refine Wc ?_
   obtain ⟨wd, hwd⟩ : ∃ wd, wd = wq.drew := ⟨_, rfl⟩
   have hxd : Ext wq wd := hwd ▸ Only.drew wq
   replace h := h.ext hxd
   replace hrow := Wr hrow hxd
   replace hC4 := hxd.blk hC4 (fun h => h)
   replace hC6 := hxd.blk hC6 (fun h => h)
   replace hC9 := hxd.blk hC9 (fun h => h)
   replace hq := hq.ext hxd
   obtain ⟨X2, hX2⟩ : ∃ X2, X2 = (X.br true 0) := ⟨_, rfl⟩
   rw [← hX2] at hC6
   have hvd : ∀ k, v.ownBlock = some k → k < wd.heap.size := fun k hk => (hrow.lt k hk).2
   have hwd0 := hq.size
   refine W.drawF 8 [4] [fun k => v.ownBlock = some k] [(1, fun v _ => v = _), (3, fun v _ => v = _), (4, fun v _ => v = _), (6, fun v _ => v = _), (12, fun v _ => v = _)] rfl (by kernel_rfl) (by kernel_rfl) ⟨Mono.eq, Mono.eq, Mono.eq, Mono.eq, Mono.eq, trivial⟩ ⟨h1, h3, h4, h6, h12, trivial⟩ (WDS.p rfl (by decide) (fun e w hR hh => by obtain ⟨h4, -⟩ := hh; rw [← hwd] at hR; have hc := hR.blk hC4 (fun hF => by rcases hF with hF | hF; have := hvl _ hF; omega; exact hF); exact SG.n (Wk TI80 rfl h4 (Wh hc rfl) ⟨rfl, Only.refl No _⟩)) (WDS.p rfl (by decide) (fun e w hR hh => by obtain ⟨h1, -⟩ := hh; exact SG.n (Wf h1 ⟨rfl, Only.refl No _⟩)) (WDS.p rfl (by decide) (fun e w hR hh => by obtain ⟨h6, -⟩ := hh; rw [← hwd] at hR; have hc := hR.blk hC6 (fun hF => by rcases hF with hF | hF; have := hvl _ hF; omega; exact hF); exact SG.n (o_ldA TI40 rfl h6 (show Cells _ c6 0 (exV X2) from Cells.of hc 0 _ (by simp)) rfl ⟨rfl, Only.refl No _⟩)) (WDS.q 0 (fun u w => w.ownsRow wd.heap.size 40 7 u 1 (exV X2)) (fun u w w2 hR hh => own_only hh hR (fun k hk hF => by rcases hF with hF | hF; have := hvd k hF; have := (hh.lt k hk).1; omega; exact hF)) (by kernel_rfl) rfl (by decide) (fun e w hR hh => by obtain ⟨h118, -⟩ := hh; rw [← hwd] at hR; exact SG.n (o_bs1 TI36 TI40 h118 (by decide) (by decide) rfl ⟨own_mono (own_new1 rfl) hR.size, Only.alloc w _⟩)) (WDS.mf 0 1 (fun u w => RowE w B0 u (L ++ [X2]) ∧ ∀ k, u.ownBlock = some k → v.ownBlock = some k ∨ wd.heap.size ≤ k) (fun u w w2 hR hh => ⟨Wr hh.1 hR, hh.2⟩) (by kernel_rfl) rfl rfl rfl (fun e w hR hW hh => by obtain ⟨h119, h117, -⟩ := hh; rw [← hwd] at hR hW; have hrow4 := own_only hrow hW (fun k hk hF => hF); have hb0 := h.b0; have hws := hW.size; exact SGX.n (OP.x (o_apO B0 TI36 TI40 h117 rfl hrow4 (Sl.own h119) rfl (by decide) (exV_one (y := X2)) (by rw [maxLen_eq]; omega) (by omega) (by omega) (fun v' w' h1 h2 h3 _ => ⟨⟨RowE.snoc h1, fun k hk => by rcases h3 with h3 | h3; exact .inl (by rw [← h3]; exact hk); rw [h3, Option.some.injEq] at hk; have := hW.size; omega⟩, h2⟩)))) (WDS.p rfl (by decide) (fun e w hR hh => by obtain ⟨h12, -⟩ := hh; exact SG.n (Wf h12 ⟨rfl, Only.refl No _⟩)) (WDS.p rfl (by decide) (fun e w hR hh => by obtain ⟨h3, -⟩ := hh; exact SG.n (Wf h3 ⟨rfl, Only.refl No _⟩)) (WDS.p rfl (by decide) (fun e w hR hh => by obtain ⟨h4, -⟩ := hh; exact SG.n (o_mkF (lc h4 ln) ⟨rfl, Only.refl No _⟩)) ?_))))))))
   rintro e w hR ⟨h123, h122, h121, h120, h119, h118, h117, h116, h1, h3, h4, h6, h12, -⟩
   rw [← hwd] at hR
   obtain ⟨hr81, hb81⟩ := h120
   replace h := h.keep hR (fun k hF => by rcases hF with hF | hF; have := (hrow.lt k hF).1; omega; exact hF.elim)
   replace hC4 := hR.blk hC4 (fun hF => by rcases hF with hF | hF; have := hvl _ hF; omega; exact hF)
   replace hC9 := hR.blk hC9 (fun hF => by rcases hF with hF | hF; have := hvl _ hF; omega; exact hF)
   replace hq := hq.trans' hR (fun _ h => h) (fun k hk hF => by rcases hF with hF | hF; exact .inr hF; exact hF.elim)
   have hsz8 := hR.size
   have hpx : plE T ((atE at_ x).br true 0) = X2 := by rw [plE_br, ← hX, hX2]
   have hR2 := rows_spec B0 p c4 lv T fin true 51 Tryd.call51 (fun bx i full y ww h1 h2 h3 h4 h5 h6 => headu_spec B0 p c4 bx lv T fin i full y ww h1 h2 h3 h4 h5 h6) (fun i x => exprT T f i x (deep + 1)) deep f (at_ + 2) (hE (by omega) (at_ + 2) (by omega)) (by omega) L ((atE at_ x).br true 0) rfl (e 120) (at_ + 1) _ h hC4 (by omega) (by rw [hpx]; exact hr81) (by omega) (by omega) (by omega)
   refine WL.cx rfl (ox_call Tryd.call50 (lc h116 (lc rfl (lc h121 (lc h122 (lc rfl (lc h123 ln)))))) ((hR2).mono ?_ (fun ch w' hh => by obtain ⟨e, j, h1, h2, h3⟩ := hh; exact ⟨e, j, by rw [hXR, h1]; rfl, h2, hq.trans' h3 (fun _ h => h) (fun k hk hF => hF.imp id (fun he => (hb81 k he).resolve_right (by omega)))⟩)))
   rintro v124 w124 ⟨N, kk, j, hN, hrow2, hNl, hij, hvb2, h', hop⟩
   replace h := h'
   replace hq := hq.trans' hop (fun _ h => h) (fun k hk hF => hF.imp id (fun he => (hb81 k he).resolve_right (by omega)))
   have hvb : ∀ k, v124.ownBlock = some k → v.ownBlock = some k ∨ c4 ≤ k := fun k hk => by
    rcases hvb2 k hk with h8 | h8
    ·exact (hb81 k h8).imp id (fun h9 => by omega)
    exact .inr (by omega)
   refine Wa rfl (Wg (by first | exact vS | exact rfl) (Wc ?_))
   have hfin : exprT T (f + 1) at_ x deep = .ok ((atE at_ x).br true (kk : Int) :: N) j ∧ RowE w124 B0 v124 (L ++ ((atE at_ x).br true (kk : Int) :: N).map (plE T)) ∧ L.length + ((atE at_ x).br true (kk : Int) :: N).length ≤ j ∧ at_ < j ∧ (∀ k, v124.ownBlock = some k → v.ownBlock = some k ∨ c4 ≤ k) ∧ Psr w124 B0 p lv T fin j ∧ Only (fun k => k = p ∨ v.ownBlock = some k) w0 w124 := by
    refine ⟨by rw [hXR, hN]; rfl, ?_, by rw [List.length_cons]; omega, by omega, hvb, h, hq⟩
    rw [plE_br, ← hX] at hrow2
    rw [List.map_cons, plE_br, ← hX]
    exact hrow2
   exact ⟨_, _, _, rfl, hfin⟩
  try simp only [cs8] at c113
  refine We ?_
  have hU1 : ¬ (tkA T at_).text = [117, 110, 105, 111, 110] := by simpa using c113
  refine Wb (Wa rfl (o_eqT h57 rfl (Wa rfl (Wg vB (Wc (Wn rfl (fun c125 => ?_) (fun c125 => ?_)))))))
  ·try simp only [cs8] at c125
   refine We ?_
   have hU : (tkA T at_).text = [115, 116, 114, 117, 99, 116] := by simpa using c125
   have hXR : exprT T (f + 1) at_ x deep = (((wantT T (at_ + 1) 3 [123]).bind fun _ j => rowsT (fun i x => exprT T f i x (deep + 1)) T false f j 0).bind fun r j => .ok ((atE at_ x).br false (r.2 : Nat) :: r.1) j) := by
    rw [exprT_s, if_neg hbg, if_neg hdd, hkn]
    exact (if_neg hV).trans ((if_neg hO).trans ((if_neg hU1).trans (if_pos hU)))
   refine Wb (Wa rfl (Wl 0 TI40 rfl TI3 rfl h6 (WL.u (o_stB TI3 rfl vI rfl hC6 (show 0 < 7 by decide) ?_))))
   intro wq hC6' ho6 hs6
   replace h := h.keep ho6 (fun k hk => by omega)
   replace hrow := own_only hrow ho6 (fun k hk he => by have := hvl k hk; omega)
   replace hC4 := ho6.blk hC4 (show ¬ c4 = c6 by omega)
   replace hC9 := ho6.blk hC9 (show ¬ c9 = c6 by omega)
   replace hq := hq.trans' ho6 (fun _ h => h) (fun k hk he => by omega)
   replace hC6 : wq.heap[c6]? = some (.cells (exV { X with kind := 8 }).toArray 40 (0, 0)) := hC6'
   clear hC6' ho6 hs6
   have hX6 : ({ X with kind := 8 } : Ex) = X.br false 0 := by show _ = ({ X with kind := _, kids := 0 } : Ex); rw [← hXk]; rfl
   rw [hX6] at hC6
   refine Wc ?_
   obtain ⟨wd, hwd⟩ : ∃ wd, wd = wq.drew := ⟨_, rfl⟩
   have hxd : Ext wq wd := hwd ▸ Only.drew wq
   replace h := h.ext hxd
   replace hrow := Wr hrow hxd
   replace hC4 := hxd.blk hC4 (fun h => h)
   replace hC6 := hxd.blk hC6 (fun h => h)
   replace hC9 := hxd.blk hC9 (fun h => h)
   replace hq := hq.ext hxd
   obtain ⟨X2, hX2⟩ : ∃ X2, X2 = (X.br false 0) := ⟨_, rfl⟩
   rw [← hX2] at hC6
   have hvd : ∀ k, v.ownBlock = some k → k < wd.heap.size := fun k hk => (hrow.lt k hk).2
   have hwd0 := hq.size
   refine W.drawF 8 [4] [fun k => v.ownBlock = some k] [(1, fun v _ => v = _), (3, fun v _ => v = _), (4, fun v _ => v = _), (6, fun v _ => v = _), (12, fun v _ => v = _)] rfl (by kernel_rfl) (by kernel_rfl) ⟨Mono.eq, Mono.eq, Mono.eq, Mono.eq, Mono.eq, trivial⟩ ⟨h1, h3, h4, h6, h12, trivial⟩ (WDS.p rfl (by decide) (fun e w hR hh => by obtain ⟨h4, -⟩ := hh; rw [← hwd] at hR; have hc := hR.blk hC4 (fun hF => by rcases hF with hF | hF; have := hvl _ hF; omega; exact hF); exact SG.n (Wk TI80 rfl h4 (Wh hc rfl) ⟨rfl, Only.refl No _⟩)) (WDS.p rfl (by decide) (fun e w hR hh => by obtain ⟨h1, -⟩ := hh; exact SG.n (Wf h1 ⟨rfl, Only.refl No _⟩)) (WDS.p rfl (by decide) (fun e w hR hh => by obtain ⟨h6, -⟩ := hh; rw [← hwd] at hR; have hc := hR.blk hC6 (fun hF => by rcases hF with hF | hF; have := hvl _ hF; omega; exact hF); exact SG.n (o_ldA TI40 rfl h6 (show Cells _ c6 0 (exV X2) from Cells.of hc 0 _ (by simp)) rfl ⟨rfl, Only.refl No _⟩)) (WDS.q 0 (fun u w => w.ownsRow wd.heap.size 40 7 u 1 (exV X2)) (fun u w w2 hR hh => own_only hh hR (fun k hk hF => by rcases hF with hF | hF; have := hvd k hF; have := (hh.lt k hk).1; omega; exact hF)) (by kernel_rfl) rfl (by decide) (fun e w hR hh => by obtain ⟨h130, -⟩ := hh; rw [← hwd] at hR; exact SG.n (o_bs1 TI36 TI40 h130 (by decide) (by decide) rfl ⟨own_mono (own_new1 rfl) hR.size, Only.alloc w _⟩)) (WDS.mf 0 1 (fun u w => RowE w B0 u (L ++ [X2]) ∧ ∀ k, u.ownBlock = some k → v.ownBlock = some k ∨ wd.heap.size ≤ k) (fun u w w2 hR hh => ⟨Wr hh.1 hR, hh.2⟩) (by kernel_rfl) rfl rfl rfl (fun e w hR hW hh => by obtain ⟨h131, h129, -⟩ := hh; rw [← hwd] at hR hW; have hrow4 := own_only hrow hW (fun k hk hF => hF); have hb0 := h.b0; have hws := hW.size; exact SGX.n (OP.x (o_apO B0 TI36 TI40 h129 rfl hrow4 (Sl.own h131) rfl (by decide) (exV_one (y := X2)) (by rw [maxLen_eq]; omega) (by omega) (by omega) (fun v' w' h1 h2 h3 _ => ⟨⟨RowE.snoc h1, fun k hk => by rcases h3 with h3 | h3; exact .inl (by rw [← h3]; exact hk); rw [h3, Option.some.injEq] at hk; have := hW.size; omega⟩, h2⟩)))) (WDS.p rfl (by decide) (fun e w hR hh => by obtain ⟨h12, -⟩ := hh; exact SG.n (Wf h12 ⟨rfl, Only.refl No _⟩)) (WDS.p rfl (by decide) (fun e w hR hh => by obtain ⟨h3, -⟩ := hh; exact SG.n (Wf h3 ⟨rfl, Only.refl No _⟩)) (WDS.p rfl (by decide) (fun e w hR hh => by obtain ⟨h4, -⟩ := hh; exact SG.n (o_mkF (lc h4 ln) ⟨rfl, Only.refl No _⟩)) ?_))))))))
   rintro e w hR ⟨h135, h134, h133, h132, h131, h130, h129, h128, h1, h3, h4, h6, h12, -⟩
   rw [← hwd] at hR
   obtain ⟨hr81, hb81⟩ := h132
   replace h := h.keep hR (fun k hF => by rcases hF with hF | hF; have := (hrow.lt k hF).1; omega; exact hF.elim)
   replace hC4 := hR.blk hC4 (fun hF => by rcases hF with hF | hF; have := hvl _ hF; omega; exact hF)
   replace hC9 := hR.blk hC9 (fun hF => by rcases hF with hF | hF; have := hvl _ hF; omega; exact hF)
   replace hq := hq.trans' hR (fun _ h => h) (fun k hk hF => by rcases hF with hF | hF; exact .inr hF; exact hF.elim)
   have hsz8 := hR.size
   have hpx : plE T ((atE at_ x).br false 0) = X2 := by rw [plE_br, ← hX, hX2]
   have hR2 := rows_spec B0 p c4 lv T fin false 52 Tryd.call52 (fun bx i full y ww h1 h2 h3 h4 h5 h6 => heads_spec B0 p c4 bx lv T fin i full y ww h1 h2 h3 h4 h5 h6 hln) (fun i x => exprT T f i x (deep + 1)) deep f (at_ + 2) (hE (by omega) (at_ + 2) (by omega)) (by omega) L ((atE at_ x).br false 0) rfl (e 132) (at_ + 1) _ h hC4 (by omega) (by rw [hpx]; exact hr81) (by omega) (by omega) (by omega)
   refine WL.cx rfl (ox_call Tryd.call50 (lc h128 (lc rfl (lc h133 (lc h134 (lc rfl (lc h135 ln)))))) ((hR2).mono ?_ (fun ch w' hh => by obtain ⟨e, j, h1, h2, h3⟩ := hh; exact ⟨e, j, by rw [hXR, h1]; rfl, h2, hq.trans' h3 (fun _ h => h) (fun k hk hF => hF.imp id (fun he => (hb81 k he).resolve_right (by omega)))⟩)))
   rintro v136 w136 ⟨N, kk, j, hN, hrow2, hNl, hij, hvb2, h', hop⟩
   replace h := h'
   replace hq := hq.trans' hop (fun _ h => h) (fun k hk hF => hF.imp id (fun he => (hb81 k he).resolve_right (by omega)))
   have hvb : ∀ k, v136.ownBlock = some k → v.ownBlock = some k ∨ c4 ≤ k := fun k hk => by
    rcases hvb2 k hk with h8 | h8
    ·exact (hb81 k h8).imp id (fun h9 => by omega)
    exact .inr (by omega)
   refine Wa rfl (Wg (by first | exact vS | exact rfl) (Wc ?_))
   have hfin : exprT T (f + 1) at_ x deep = .ok ((atE at_ x).br false (kk : Int) :: N) j ∧ RowE w136 B0 v136 (L ++ ((atE at_ x).br false (kk : Int) :: N).map (plE T)) ∧ L.length + ((atE at_ x).br false (kk : Int) :: N).length ≤ j ∧ at_ < j ∧ (∀ k, v136.ownBlock = some k → v.ownBlock = some k ∨ c4 ≤ k) ∧ Psr w136 B0 p lv T fin j ∧ Only (fun k => k = p ∨ v.ownBlock = some k) w0 w136 := by
    refine ⟨by rw [hXR, hN]; rfl, ?_, by rw [List.length_cons]; omega, by omega, hvb, h, hq⟩
    rw [plE_br, ← hX] at hrow2
    rw [List.map_cons, plE_br, ← hX]
    exact hrow2
   exact ⟨_, _, _, rfl, hfin⟩
  try simp only [cs8] at c125
  refine We (W.cut (fun e1 w1 => Psr w1 B0 p lv T fin (at_ + 1) ∧ RowE w1 B0 v L ∧ w1.heap[c4]? = some (.cells #[.pointer (some ⟨p, 0, none⟩)] 80 (0, 0)) ∧ w1.heap[c6]? = some (.cells (exV (X.nm (tkA T at_).text)).toArray 40 (0, 0)) ∧ w1.heap[c9]? = some (.cells (tokV (tkA T at_)) 112 (0, 0)) ∧ Only (fun k => k = p ∨ v.ownBlock = some k) w0 w1 ∧ e1 1 = v ∧ e1 3 = .int .i64 (deep : Int) ∧ e1 4 = .pointer (some ⟨c4, 0, none⟩) ∧ e1 6 = .pointer (some ⟨c6, 0, none⟩) ∧ e1 9 = .pointer (some ⟨c9, 0, none⟩)) ?_ ?_)
  ·-- region 15
   refine W.enum rfl ?_
   have hd := Only.drew w
   replace h := h.ext hd
   replace hrow := Wr hrow hd
   replace hC4 := hd.blk hC4 (fun h => h)
   replace hC6 := hd.blk hC6 (fun h => h)
   replace hC9 := hd.blk hC9 (fun h => h)
   replace hq := hq.ext hd
   clear hd
   generalize w.drew = wd at *
   have hU2 : ¬ (tkA T at_).text = [115, 116, 114, 117, 99, 116] := by simpa using c125
   refine WA.step (r := [0, 2]) (by kernel_rfl) (by decide) (all2 ?_ ?_)
   ·skip
    refine WO.c rfl rfl (Wl 1 TI112 rfl TI9 rfl h9 (WA.step (r := [1, 2]) (by kernel_rfl) (by decide) (all2 ?_ ?_)))
    ·skip
     refine WO.c rfl rfl (Wk TI9 rfl rfl (Wh hC9 rfl) (WA.step (r := [2]) (by kernel_rfl) (by decide) (all1 (WO.c rfl rfl (Wl 0 TI40 rfl TI3 rfl h6 (WA.step (r := [3]) (by kernel_rfl) (by decide) (all1 (WO.u rfl (o_stB TI3 rfl vI rfl hC6 (show 0 < 7 by decide) ?_)))))))))
     intro wk hC6' ho6 hs6
     replace h := h.keep ho6 (fun k hk => by omega)
     replace hrow := own_only hrow ho6 (fun k hk he => by have := hvl k hk; omega)
     replace hC4 := ho6.blk hC4 (show ¬ c4 = c6 by omega)
     replace hC9 := ho6.blk hC9 (show ¬ c9 = c6 by omega)
     replace hq := hq.trans' ho6 (fun _ h => h) (fun k hk he => by omega)
     replace hC6 : wk.heap[c6]? = some (.cells (exV { X with kind := 9 }).toArray 40 (0, 0)) := hC6'
     clear hC6' ho6 hs6
     refine WA.step (r := [4]) (by kernel_rfl) (by decide) (all1 (WO.c rfl rfl (Wl 2 TI40 rfl TI9 rfl h6 (WA.step (r := [5]) (by kernel_rfl) (by decide) (all1 (WO.u rfl (o_stB TI9 rfl (show _ = st (tkA T at_).text from rfl) rfl hC6 (show 2 < 7 by decide) ?_)))))))
     intro wn hC6' ho6 hs6
     replace h := h.keep ho6 (fun k hk => by omega)
     replace hrow := own_only hrow ho6 (fun k hk he => by have := hvl k hk; omega)
     replace hC4 := ho6.blk hC4 (show ¬ c4 = c6 by omega)
     replace hC9 := ho6.blk hC9 (show ¬ c9 = c6 by omega)
     replace hq := hq.trans' ho6 (fun _ h => h) (fun k hk he => by omega)
     replace hC6 : wn.heap[c6]? = some (.cells (exV (X.nm (tkA T at_).text)).toArray 40 (0, 0)) := hC6'
     clear hC6' ho6 hs6
     refine WA.done (by kernel_rfl) ?_
     exact ⟨h, hrow, hC4, hC6, hC9, hq, h1, h3, h4, h6, h9⟩
    skip
    refine WO.c rfl rfl (Wl 0 TI40 rfl TI3 rfl h6 (WA.step (r := [1, 3]) (by kernel_rfl) (by decide) (all2 ?_ ?_)))
    ·skip
     refine WO.c rfl rfl (Wk TI9 rfl rfl (Wh hC9 rfl) (WA.step (r := [3]) (by kernel_rfl) (by decide) (all1 (WO.u rfl (o_stB TI3 rfl vI rfl hC6 (show 0 < 7 by decide) ?_)))))
     intro wk hC6' ho6 hs6
     replace h := h.keep ho6 (fun k hk => by omega)
     replace hrow := own_only hrow ho6 (fun k hk he => by have := hvl k hk; omega)
     replace hC4 := ho6.blk hC4 (show ¬ c4 = c6 by omega)
     replace hC9 := ho6.blk hC9 (show ¬ c9 = c6 by omega)
     replace hq := hq.trans' ho6 (fun _ h => h) (fun k hk he => by omega)
     replace hC6 : wk.heap[c6]? = some (.cells (exV { X with kind := 9 }).toArray 40 (0, 0)) := hC6'
     clear hC6' ho6 hs6
     refine WA.step (r := [4]) (by kernel_rfl) (by decide) (all1 (WO.c rfl rfl (Wl 2 TI40 rfl TI9 rfl h6 (WA.step (r := [5]) (by kernel_rfl) (by decide) (all1 (WO.u rfl (o_stB TI9 rfl (show _ = st (tkA T at_).text from rfl) rfl hC6 (show 2 < 7 by decide) ?_)))))))
     intro wn hC6' ho6 hs6
     replace h := h.keep ho6 (fun k hk => by omega)
     replace hrow := own_only hrow ho6 (fun k hk he => by have := hvl k hk; omega)
     replace hC4 := ho6.blk hC4 (show ¬ c4 = c6 by omega)
     replace hC9 := ho6.blk hC9 (show ¬ c9 = c6 by omega)
     replace hq := hq.trans' ho6 (fun _ h => h) (fun k hk he => by omega)
     replace hC6 : wn.heap[c6]? = some (.cells (exV (X.nm (tkA T at_).text)).toArray 40 (0, 0)) := hC6'
     clear hC6' ho6 hs6
     refine WA.done (by kernel_rfl) ?_
     exact ⟨h, hrow, hC4, hC6, hC9, hq, h1, h3, h4, h6, h9⟩
    skip
    refine WO.u rfl (o_stB TI3 rfl vI rfl hC6 (show 0 < 7 by decide) ?_)
    intro wk hC6' ho6 hs6
    replace h := h.keep ho6 (fun k hk => by omega)
    replace hrow := own_only hrow ho6 (fun k hk he => by have := hvl k hk; omega)
    replace hC4 := ho6.blk hC4 (show ¬ c4 = c6 by omega)
    replace hC9 := ho6.blk hC9 (show ¬ c9 = c6 by omega)
    replace hq := hq.trans' ho6 (fun _ h => h) (fun k hk he => by omega)
    replace hC6 : wk.heap[c6]? = some (.cells (exV { X with kind := 9 }).toArray 40 (0, 0)) := hC6'
    clear hC6' ho6 hs6
    refine WA.step (r := [1]) (by kernel_rfl) (by decide) (all1 (WO.c rfl rfl (Wk TI9 rfl rfl (Wh hC9 rfl) (WA.step (r := [4]) (by kernel_rfl) (by decide) (all1 (WO.c rfl rfl (Wl 2 TI40 rfl TI9 rfl h6 (WA.step (r := [5]) (by kernel_rfl) (by decide) (all1 (WO.u rfl (o_stB TI9 rfl (show _ = st (tkA T at_).text from rfl) rfl hC6 (show 2 < 7 by decide) ?_)))))))))))
    intro wn hC6' ho6 hs6
    replace h := h.keep ho6 (fun k hk => by omega)
    replace hrow := own_only hrow ho6 (fun k hk he => by have := hvl k hk; omega)
    replace hC4 := ho6.blk hC4 (show ¬ c4 = c6 by omega)
    replace hC9 := ho6.blk hC9 (show ¬ c9 = c6 by omega)
    replace hq := hq.trans' ho6 (fun _ h => h) (fun k hk he => by omega)
    replace hC6 : wn.heap[c6]? = some (.cells (exV (X.nm (tkA T at_).text)).toArray 40 (0, 0)) := hC6'
    clear hC6' ho6 hs6
    refine WA.done (by kernel_rfl) ?_
    exact ⟨h, hrow, hC4, hC6, hC9, hq, h1, h3, h4, h6, h9⟩
   skip
   refine WO.c rfl rfl (Wl 0 TI40 rfl TI3 rfl h6 (WA.step (r := [0, 3]) (by kernel_rfl) (by decide) (all2 ?_ ?_)))
   ·skip
    refine WO.c rfl rfl (Wl 1 TI112 rfl TI9 rfl h9 (WA.step (r := [1, 3]) (by kernel_rfl) (by decide) (all2 ?_ ?_)))
    ·skip
     refine WO.c rfl rfl (Wk TI9 rfl rfl (Wh hC9 rfl) (WA.step (r := [3]) (by kernel_rfl) (by decide) (all1 (WO.u rfl (o_stB TI3 rfl vI rfl hC6 (show 0 < 7 by decide) ?_)))))
     intro wk hC6' ho6 hs6
     replace h := h.keep ho6 (fun k hk => by omega)
     replace hrow := own_only hrow ho6 (fun k hk he => by have := hvl k hk; omega)
     replace hC4 := ho6.blk hC4 (show ¬ c4 = c6 by omega)
     replace hC9 := ho6.blk hC9 (show ¬ c9 = c6 by omega)
     replace hq := hq.trans' ho6 (fun _ h => h) (fun k hk he => by omega)
     replace hC6 : wk.heap[c6]? = some (.cells (exV { X with kind := 9 }).toArray 40 (0, 0)) := hC6'
     clear hC6' ho6 hs6
     refine WA.step (r := [4]) (by kernel_rfl) (by decide) (all1 (WO.c rfl rfl (Wl 2 TI40 rfl TI9 rfl h6 (WA.step (r := [5]) (by kernel_rfl) (by decide) (all1 (WO.u rfl (o_stB TI9 rfl (show _ = st (tkA T at_).text from rfl) rfl hC6 (show 2 < 7 by decide) ?_)))))))
     intro wn hC6' ho6 hs6
     replace h := h.keep ho6 (fun k hk => by omega)
     replace hrow := own_only hrow ho6 (fun k hk he => by have := hvl k hk; omega)
     replace hC4 := ho6.blk hC4 (show ¬ c4 = c6 by omega)
     replace hC9 := ho6.blk hC9 (show ¬ c9 = c6 by omega)
     replace hq := hq.trans' ho6 (fun _ h => h) (fun k hk he => by omega)
     replace hC6 : wn.heap[c6]? = some (.cells (exV (X.nm (tkA T at_).text)).toArray 40 (0, 0)) := hC6'
     clear hC6' ho6 hs6
     refine WA.done (by kernel_rfl) ?_
     exact ⟨h, hrow, hC4, hC6, hC9, hq, h1, h3, h4, h6, h9⟩
    skip
    refine WO.u rfl (o_stB TI3 rfl vI rfl hC6 (show 0 < 7 by decide) ?_)
    intro wk hC6' ho6 hs6
    replace h := h.keep ho6 (fun k hk => by omega)
    replace hrow := own_only hrow ho6 (fun k hk he => by have := hvl k hk; omega)
    replace hC4 := ho6.blk hC4 (show ¬ c4 = c6 by omega)
    replace hC9 := ho6.blk hC9 (show ¬ c9 = c6 by omega)
    replace hq := hq.trans' ho6 (fun _ h => h) (fun k hk he => by omega)
    replace hC6 : wk.heap[c6]? = some (.cells (exV { X with kind := 9 }).toArray 40 (0, 0)) := hC6'
    clear hC6' ho6 hs6
    refine WA.step (r := [1]) (by kernel_rfl) (by decide) (all1 (WO.c rfl rfl (Wk TI9 rfl rfl (Wh hC9 rfl) (WA.step (r := [4]) (by kernel_rfl) (by decide) (all1 (WO.c rfl rfl (Wl 2 TI40 rfl TI9 rfl h6 (WA.step (r := [5]) (by kernel_rfl) (by decide) (all1 (WO.u rfl (o_stB TI9 rfl (show _ = st (tkA T at_).text from rfl) rfl hC6 (show 2 < 7 by decide) ?_)))))))))))
    intro wn hC6' ho6 hs6
    replace h := h.keep ho6 (fun k hk => by omega)
    replace hrow := own_only hrow ho6 (fun k hk he => by have := hvl k hk; omega)
    replace hC4 := ho6.blk hC4 (show ¬ c4 = c6 by omega)
    replace hC9 := ho6.blk hC9 (show ¬ c9 = c6 by omega)
    replace hq := hq.trans' ho6 (fun _ h => h) (fun k hk he => by omega)
    replace hC6 : wn.heap[c6]? = some (.cells (exV (X.nm (tkA T at_).text)).toArray 40 (0, 0)) := hC6'
    clear hC6' ho6 hs6
    refine WA.done (by kernel_rfl) ?_
    exact ⟨h, hrow, hC4, hC6, hC9, hq, h1, h3, h4, h6, h9⟩
   skip
   refine WO.u rfl (o_stB TI3 rfl vI rfl hC6 (show 0 < 7 by decide) ?_)
   intro wk hC6' ho6 hs6
   replace h := h.keep ho6 (fun k hk => by omega)
   replace hrow := own_only hrow ho6 (fun k hk he => by have := hvl k hk; omega)
   replace hC4 := ho6.blk hC4 (show ¬ c4 = c6 by omega)
   replace hC9 := ho6.blk hC9 (show ¬ c9 = c6 by omega)
   replace hq := hq.trans' ho6 (fun _ h => h) (fun k hk he => by omega)
   replace hC6 : wk.heap[c6]? = some (.cells (exV { X with kind := 9 }).toArray 40 (0, 0)) := hC6'
   clear hC6' ho6 hs6
   refine WA.step (r := [0]) (by kernel_rfl) (by decide) (all1 (WO.c rfl rfl (Wl 1 TI112 rfl TI9 rfl h9 (WA.step (r := [1]) (by kernel_rfl) (by decide) (all1 (WO.c rfl rfl (Wk TI9 rfl rfl (Wh hC9 rfl) (WA.step (r := [4]) (by kernel_rfl) (by decide) (all1 (WO.c rfl rfl (Wl 2 TI40 rfl TI9 rfl h6 (WA.step (r := [5]) (by kernel_rfl) (by decide) (all1 (WO.u rfl (o_stB TI9 rfl (show _ = st (tkA T at_).text from rfl) rfl hC6 (show 2 < 7 by decide) ?_)))))))))))))))
   intro wn hC6' ho6 hs6
   replace h := h.keep ho6 (fun k hk => by omega)
   replace hrow := own_only hrow ho6 (fun k hk he => by have := hvl k hk; omega)
   replace hC4 := ho6.blk hC4 (show ¬ c4 = c6 by omega)
   replace hC9 := ho6.blk hC9 (show ¬ c9 = c6 by omega)
   replace hq := hq.trans' ho6 (fun _ h => h) (fun k hk he => by omega)
   replace hC6 : wn.heap[c6]? = some (.cells (exV (X.nm (tkA T at_).text)).toArray 40 (0, 0)) := hC6'
   clear hC6' ho6 hs6
   refine WA.done (by kernel_rfl) ?_
   exact ⟨h, hrow, hC4, hC6, hC9, hq, h1, h3, h4, h6, h9⟩
  rintro e w ⟨h, hrow, hC4, hC6, hC9, hq, h1, h3, h4, h6, h9⟩
  refine Wb (Wa rfl (Wf h1 (Wa rfl (o_ldA TI40 rfl h6 (show Cells _ c6 0 (exV (X.nm (tkA T at_).text)) from Cells.of hC6 0 _ (by simp)) rfl (WL.apO (B0) rfl rfl TI36 TI40 (show _ = Value.agg (exV (X.nm (tkA T at_).text)).toArray from rfl) rfl hrow (by decide) (by decide) rfl exV_one rfl (by rw [maxLen_eq]; omega) (by omega) (by have := h.b0; omega) ?_)))))
  intro v2 w2 hown ho hob _
  replace hob : v2.ownBlock = v.ownBlock ∨ _ := hob
  replace ho : Only (fun k => v.ownBlock = some k) _ _ := ho
  replace hown := RowE.snoc hown
  have hvb : ∀ k, v2.ownBlock = some k → v.ownBlock = some k ∨ c4 ≤ k := fun k hk => by
   rcases hob with hb | hb
   ·exact .inl (by rw [← hb]; exact hk)
   rw [hb, Option.some.injEq] at hk; have := hq.size; omega
  replace h := h.keep ho (fun k hk => by have := (hrow.lt k hk).1; omega)
  replace hq := hq.trans' ho (fun _ h => h) (fun _ _ h => .inr h)
  refine Wa rfl (Wg (by first | exact vS | exact rfl) (Wc ?_))
  have hU2 : ¬ (tkA T at_).text = [115, 116, 114, 117, 99, 116] := by simpa using c125
  have hfin : exprT T (f + 1) at_ x deep = .ok [(atE at_ x).nm (tkA T at_).text] (at_ + 1) ∧ RowE w2 B0 v2 (L ++ [(atE at_ x).nm (tkA T at_).text].map (plE T)) ∧ L.length + [(atE at_ x).nm (tkA T at_).text].length ≤ at_ + 1 ∧ at_ < at_ + 1 ∧ (∀ k, v2.ownBlock = some k → v.ownBlock = some k ∨ c4 ≤ k) ∧ Psr w2 B0 p lv T fin (at_ + 1) ∧ Only (fun k => k = p ∨ v.ownBlock = some k) w0 w2 := by
   refine ⟨by rw [exprT_s, if_neg hbg, if_neg hdd, hkn]; exact (if_neg hV).trans ((if_neg hO).trans ((if_neg hU1).trans (if_neg hU2))), ?_, by rw [List.length_singleton]; omega, by omega, hvb, h, hq⟩
   rw [List.map_singleton, plE_nm, ← hX]
   exact hown
  exact ⟨_, _, _, rfl, hfin⟩
 rintro e w ⟨v2, N, j, h1, hfin⟩
 refine We (Wb (Wa rfl (Wf h1 (Wa rfl (Wg (by first | exact vS | exact rfl) (Wc (Wm (Wu rfl (show _ = v2 from rfl) ?_))))))))
 obtain ⟨g1, g2, g3, g4, g5, g6, g7⟩ := hfin
 exact ⟨N, j, g1, g2, g3, g4, g5, g6, g7⟩
end Go.Proofs.YtpbflfgigfdohaaDoor

namespace Go.Proofs.YtpbflfgigfdohaaDoor
open Go Go.Vc Go.RowKit Go.Proofs

theorem expr_spec {B0 p : Nat} {lv : Value} {T : List Tk} {fin : Nat} (hln : ∀ i, (tkA T i).text.length ≤ 9223372036854775807) : ∀ f deep m, deep ≤ 17 → T.length + 2 ≤ f + m → ESpec B0 p lv T fin (fun i x => exprT T f i x deep) deep m
 | 0, deep, m, hd, hf => fun at_ x L v w0 hm hk h hrow hl => by have := h.le; omega
 | f + 1, deep, m, hd, hf => fun at_ x L v w0 hm hk h hrow hl => expr_step B0 p lv T fin f deep hln (fun hd2 m' hf' => expr_spec hln f (deep + 1) m' (by omega) hf') hd m at_ (by omega) x L v w0 hm hk h hrow hl
theorem oneL_len {xs : List UInt8} {k : Nat} {h : k < xs.length} : (oneL xs k h).2.text.length ≤ xs.length := by
 unfold oneL
 split
 ·split
  ·exact Nat.zero_le _
  exact sub_len _ _ _
 split
 ·exact Nat.zero_le _
 split
 ·exact sub_len _ _ _
 exact Nat.zero_le _
theorem cutL_len : ∀ (xs : List UInt8) (k : Nat), (cutL xs k).1.length ≤ xs.length - k ∧ ∀ t ∈ (cutL xs k).1, t.text.length ≤ xs.length := by
 intro xs k
 induction hn : xs.length - k using Nat.strongRecOn generalizing k with
 | _ n ih =>
  rw [cutL_eq]
  split
  ·rename_i hk
   split
   ·have h1 := (runL_le (p := nnlB) (k := k + 1) (xs := xs) (by omega)).1
    have h2 := ih (xs.length - runL nnlB xs (k + 1)) (by omega) _ rfl
    exact ⟨by omega, h2.2⟩
   split
   ·have h2 := ih (xs.length - (k + 1)) (by omega) _ rfl
    exact ⟨by omega, h2.2⟩
   split
   ·rename_i he
    have h1 := oneL_fin xs k hk he
    have h2 := ih (xs.length - (oneL xs k hk).2.fin) (by omega) _ rfl
    refine ⟨by simp only [List.length_cons]; omega, fun t ht => ?_⟩
    rcases List.mem_cons.1 ht with rfl | ht
    ·exact oneL_len
    exact h2.2 t ht
   exact ⟨Nat.zero_le _, fun t ht => by cases ht⟩
  exact ⟨Nat.zero_le _, fun t ht => by cases ht⟩
theorem cutA_len (xs : List UInt8) : (cutA xs).1.length ≤ 65536 ∧ ∀ t ∈ (cutA xs).1, t.text.length ≤ 65536 := by
 unfold cutA
 split
 ·exact ⟨Nat.zero_le _, fun t ht => by cases ht⟩
 split
 ·have h := cutL_len xs 0
  exact ⟨by omega, fun t ht => by have := h.2 t ht; omega⟩
 exact ⟨Nat.zero_le _, fun t ht => by cases ht⟩
theorem cut_texts (xs : List UInt8) (i : Nat) : (tkA (cutA xs).1 i).text.length ≤ 9223372036854775807 := by
 by_cases h : i < (cutA xs).1.length
 ·rw [tkA_lt h]
  have := (cutA_len xs).2 _ (List.getElem_mem h)
  omega
 rw [tkA_ge (by omega)]; exact Nat.zero_le _
def df0 : Df := ⟨[], 0, []⟩
def dcell (d : Df) (v : Value) : List Value := [st d.name, .int .i64 d.at_, v]
def tyD (D : List Df) (j : Nat) : List Ex := (D.getD j df0).ty
def drows (D : List Df) (V : Nat → Value) : List Value := (List.range D.length).flatMap fun j => dcell (D.getD j df0) (V j)
theorem dfm_congr {α : Type} {f g : Nat → List α} {l : List Nat} (h : ∀ j ∈ l, f j = g j) : l.flatMap f = l.flatMap g := by
 induction l with
 | nil => rfl
 | cons a l ih => rw [List.flatMap_cons, List.flatMap_cons, h a (List.mem_cons_self ..), ih (fun j hj => h j (List.mem_cons_of_mem _ hj))]
theorem drows_snoc (D : List Df) (V : Nat → Value) (d : Df) (v : Value) : drows (D ++ [d]) (fun j => if j = D.length then v else V j) = drows D V ++ dcell d v := by
 rw [drows, List.length_append, List.length_singleton, List.range_succ, List.flatMap_append, List.flatMap_singleton, if_pos rfl]
 congr 1
 ·refine dfm_congr fun j hj => ?_
  have hj := List.mem_range.1 hj
  rw [if_neg (by omega)]
  congr 1
  simp [List.getD_eq_getElem?_getD, List.getElem?_append_left hj]
 congr 1
 simp [List.getD_eq_getElem?_getD]
/-- definitions in a row of our own, each type in a block of its own -/
structure Defs (w : World) (H : Nat) (D : List Df) (dv : Value) (V : Nat → Value) : Prop where
 row : w.ownsRow H 38 3 dv D.length (drows D V)
 tys : Many w H 40 7 D.length V (fun j => (tyD D j).length) (fun j => exs (tyD D j))
/-- the blocks that these lie in -/
def DF (dv : Value) (V : Nat → Value) (n : Nat) (k : Nat) : Prop := dv.ownBlock = some k ∨ ∃ j, j < n ∧ (V j).ownBlock = some k
theorem Defs.only {w w' : World} {H : Nat} {D : List Df} {dv : Value} {V : Nat → Value} {F : Nat → Prop} (h : Defs w H D dv V) (ho : Only F w w') (hn : ∀ k, DF dv V D.length k → ¬ F k) : Defs w' H D dv V :=
 ⟨own_only h.row ho (fun k hk => hn k (.inl hk)), h.tys.only ho (fun j hj k hk => hn k (.inr ⟨j, hj, hk⟩))⟩
theorem Defs.ext {w w' : World} {H : Nat} {D : List Df} {dv : Value} {V : Nat → Value} (h : Defs w H D dv V) (ho : Ext w w') : Defs w' H D dv V := h.only ho (fun _ _ h => h)
theorem Defs.lt {w : World} {H : Nat} {D : List Df} {dv : Value} {V : Nat → Value} (h : Defs w H D dv V) : ∀ k, DF dv V D.length k → H ≤ k ∧ k < w.heap.size := fun k hk => by
 rcases hk with hk | ⟨j, hj, hk⟩
 ·exact h.row.lt k hk
 exact h.tys.lt hj hk
theorem Defs.nil (w : World) (H : Nat) (V : Nat → Value) : Defs w H [] (.slice none 0 0) V := ⟨World.ownsRow_nil _ _ _ _, Many.zero⟩
theorem Defs.mono {w : World} {H H' : Nat} {D : List Df} {dv : Value} {V : Nat → Value} (h : Defs w H D dv V) (hH : H' ≤ H) : Defs w H' D dv V := ⟨own_mono h.row hH, fun j hj => own_mono (h.tys.row j hj) hH, h.tys.off⟩
theorem Defs.snoc {w : World} {H B : Nat} {D : List Df} {d : Df} {V : Nat → Value} {dv v : Value} (hr : w.ownsRow H 38 3 dv (D.length + 1) (drows D V ++ dcell d v)) (ht : Many w H 40 7 D.length V (fun j => (tyD D j).length) (fun j => exs (tyD D j)))
  (hf : RowE w B v d.ty) (hB : H ≤ B) (hlt : ∀ j, j < D.length → ∀ k, (V j).ownBlock = some k → k < B) : Defs w H (D ++ [d]) dv (fun j => if j = D.length then v else V j) := by
 have e1 : ∀ j, j < D.length → tyD (D ++ [d]) j = tyD D j := fun j hj => by simp [tyD, List.getD_eq_getElem?_getD, List.getElem?_append_left hj]
 have e2 : tyD (D ++ [d]) D.length = d.ty := by simp [tyD, List.getD_eq_getElem?_getD]
 refine ⟨by rw [List.length_append, List.length_singleton, drows_snoc]; exact hr, ?_⟩
 rw [List.length_append, List.length_singleton]
 exact Many.snocG (ht.congr (fun _ _ => rfl) (fun j hj => by rw [e1 j hj]) (fun j hj => by rw [e1 j hj])) hf hB hlt (by rw [e2]) (by rw [e2])
/-- what Parse answers -/
def parseA (xs : List UInt8) : List Df × Nat × Nat :=
 if (cutA xs).2.1 = 0 then
  match defsT (cutA xs).1 ((cutA xs).1.length + 2) 0 0 with
  | .ok D _ => (D.map (plD (cutA xs).1), 0, 0)
  | .bad e i => ([], e, plc (cutA xs).1 xs.length i)
 else ([], (cutA xs).2)
theorem retAA {fn : Func} {P : Program} {e : Env} {w : World} {R : Value → World → Prop} {a1 a2 : Tmp} {T1 T2 : TypeId} {d1 d2 : TypeDesc} {s1 bs1 s bs b1 b2 o1 o2 : Nat} {z1 z : Value} {ys xs : List Value} (hr : fn.results = #[.cell a1 T1, .cell a2 T2]) (ht1 : Ty P T1 d1 s1 bs1 z1) (hd1 : isAggD d1 = true) (ht : Ty P T2 d2 s bs z) (hd : isAggD d2 = true)
  (h1 : e a1 = .pointer (some ⟨b1, o1, none⟩)) (h2 : e a2 = .pointer (some ⟨b2, o2, none⟩)) (hc1 : Cells w b1 o1 ys) (hl1 : ys.length = s1) (hc : Cells w b2 o2 xs) (hl : xs.length = s) (h : R (.tuple #[.agg ys.toArray, .agg xs.toArray]) w) : Rt fn P R e w :=
 ⟨fun _ ac ha => ⟨.tuple #[.agg ys.toArray, .agg xs.toArray], by
  have g1 : ac.tmps.getD a1 undef = .pointer (some ⟨b1, o1, none⟩) := by rw [ha.get]; exact h1
  have g2 : ac.tmps.getD a2 undef = .pointer (some ⟨b2, o2, none⟩) := by rw [ha.get]; exact h2
  simp only [Array.getD_eq_getD_getElem?] at g1 g2
  simp [results, hr, asAddr, g1, g2, run_loadA ht1 hd1 hc1 hl1, run_loadA ht hd hc hl], h⟩⟩

theorem parse1_panic (b2 b3 : Nat) (e a : Nat) (x y1 y2 : Value) (w0 : World) (hC2 : w0.heap[b2]? = some (.cells #[x] 24 (0, 0))) (hC3 : w0.heap[b3]? = some (.cells #[y1, y2] 32 (0, 0))) : CallsD Tryd.prog 21 #[.pointer (some ⟨b2, 0, none⟩), .pointer (some ⟨b3, 0, none⟩)] (.panicking [pan e a]) w0 (fun en u2 w' => match en with | .returned _ => u2 = .panicking [{ pan e a with recovered := true }] ∧ (w'.heap[b2]? = some (.cells #[.slice none 0 0] 24 (0, 0)) ∧ w'.heap[b3]? = some (.cells #[.int .i64 (e : Int), .int .i64 (a : Int)] 32 (0, 0)) ∧ Only (fun k => k = b2 ∨ k = b3) w0 w') | _ => False) := by
 refine calls_recover (l := [.pointer (some ⟨b2, 0, none⟩), .pointer (some ⟨b3, 0, none⟩)]) Tryd.func21 Tryd.ntmps21 rfl rfl rfl (.inl ⟨[], rfl, rfl⟩) ?_
 have hne : ¬ b2 = b3 := fun he => by subst he; rw [hC2] at hC3; cases hC3
 have hb2 := (Array.getElem?_eq_some_iff.1 hC2).1
 have hb3 := (Array.getElem?_eq_some_iff.1 hC3).1
 have hq : Only (fun k => k = b2 ∨ k = b3) w0 w0 := Only.refl _ _
 refine W.block (We (Wb (Wa rfl (o_eqIN Tryd.underlying20 rfl rfl (Wc (W.condF' rfl (rfl) (We (Wb (Wa rfl (o_taT TI79 rfl (show _ = Value.iface 79 (.agg #[.int .i64 (e : Int), .int .i64 (a : Int)]) from rfl) (Wa rfl (o_ext rfl rfl (Wa rfl (o_ext rfl rfl (Wc (W.condT' rfl (rfl) (We (Wb (Wa rfl (o_alB TI79 ?_))))))))))))))))))))
 intro w3 hC hx3 hs3
 refine WL.u (o_stA TI79 rfl (show _ = Value.agg #[.int .i64 (e : Int), .int .i64 (a : Int)] from rfl) rfl rfl hC rfl ?_)
 intro w4 hC4 ho4 hs4
 have hxb := Ext.own hx3 (Nat.le_refl _) ho4
 obtain ⟨c4, hc4⟩ : ∃ c, c = w0.heap.size := ⟨_, rfl⟩
 rw [← hc4] at hC4 ⊢
 clear hC ho4
 replace hC2 := hxb.blk hC2 (fun h => h)
 replace hC3 := hxb.blk hC3 (fun h => h)
 replace hq := hq.ext hxb
 refine Wc (W.cut (fun e1 w1 => w1.heap[b2]? = some (.cells #[.slice none 0 0] 24 (0, 0)) ∧ w1.heap[b3]? = some (.cells #[.int .i64 (e : Int), .int .i64 (a : Int)] 32 (0, 0)) ∧ Only (fun k => k = b2 ∨ k = b3) w0 w1) ?_ ?_)
 ·-- region 7
  refine W.enum rfl ?_
  have hd := Only.drew w4
  replace hC2 := hd.blk hC2 (fun h => h)
  replace hC3 := hd.blk hC3 (fun h => h)
  replace hC4 := hd.blk hC4 (fun h => h)
  replace hq := hq.ext hd
  clear hd
  generalize w4.drew = wd at *
  refine WA.step (r := [0, 1]) (by kernel_rfl) (by decide) (all2 ?_ ?_)
  ·skip
   refine WO.c rfl rfl (o_bldC (cs := [(.slice none 0 0)]) TI24 (Sizes.cons TI22 Sizes.nil) rfl lnp rfl rfl (WA.step (r := [1, 3]) (by kernel_rfl) (by decide) (all2 ?_ ?_)))
   ·skip
    refine WO.c rfl rfl (Wl 0 TI79 rfl TI32 rfl rfl (WA.step (r := [2, 3]) (by kernel_rfl) (by decide) (all2 ?_ ?_)))
    ·skip
     refine WO.c rfl rfl (o_ldA TI32 rfl rfl (show Cells _ c4 0 [.int .i64 (e : Int), .int .i64 (a : Int)] from Cells.of hC4 0 _ (by simp)) rfl (WA.step (r := [3]) (by kernel_rfl) (by decide) (all1 (WO.u rfl (o_stA TI24 rfl (show _ = Value.agg #[.slice none 0 0] from rfl) rfl rfl hC2 rfl ?_)))))
     intro wx hB ho hs
     replace hC2 := hB
     replace hC3 := ho.blk hC3 (fun he => hne he.symm)
     replace hC4 := ho.blk hC4 (show ¬ c4 = b2 by omega)
     replace hq := hq.trans (ho.mono (fun _ _ h => .inl h))
     refine WA.step (r := [4]) (by kernel_rfl) (by decide) (all1 (WO.u rfl (o_stA TI32 rfl (show _ = Value.agg #[.int .i64 (e : Int), .int .i64 (a : Int)] from rfl) rfl rfl hC3 rfl ?_)))
     intro wy hB1 ho1 hs1
     replace hC3 := hB1
     replace hC2 := ho1.blk hC2 hne
     replace hq := hq.trans (ho1.mono (fun _ _ h => .inr h))
     refine WA.done (by kernel_rfl) ?_
     exact ⟨hC2, hC3, hq⟩
    skip
    refine WO.u rfl (o_stA TI24 rfl (show _ = Value.agg #[.slice none 0 0] from rfl) rfl rfl hC2 rfl ?_)
    intro wx hB ho hs
    replace hC2 := hB
    replace hC3 := ho.blk hC3 (fun he => hne he.symm)
    replace hC4 := ho.blk hC4 (show ¬ c4 = b2 by omega)
    replace hq := hq.trans (ho.mono (fun _ _ h => .inl h))
    refine WA.step (r := [2]) (by kernel_rfl) (by decide) (all1 (WO.c rfl rfl (o_ldA TI32 rfl rfl (show Cells _ c4 0 [.int .i64 (e : Int), .int .i64 (a : Int)] from Cells.of hC4 0 _ (by simp)) rfl (WA.step (r := [4]) (by kernel_rfl) (by decide) (all1 (WO.u rfl (o_stA TI32 rfl (show _ = Value.agg #[.int .i64 (e : Int), .int .i64 (a : Int)] from rfl) rfl rfl hC3 rfl ?_)))))))
    intro wy hB1 ho1 hs1
    replace hC3 := hB1
    replace hC2 := ho1.blk hC2 hne
    replace hq := hq.trans (ho1.mono (fun _ _ h => .inr h))
    refine WA.done (by kernel_rfl) ?_
    exact ⟨hC2, hC3, hq⟩
   skip
   refine WO.u rfl (o_stA TI24 rfl (show _ = Value.agg #[.slice none 0 0] from rfl) rfl rfl hC2 rfl ?_)
   intro wx hB ho hs
   replace hC2 := hB
   replace hC3 := ho.blk hC3 (fun he => hne he.symm)
   replace hC4 := ho.blk hC4 (show ¬ c4 = b2 by omega)
   replace hq := hq.trans (ho.mono (fun _ _ h => .inl h))
   refine WA.step (r := [1]) (by kernel_rfl) (by decide) (all1 (WO.c rfl rfl (Wl 0 TI79 rfl TI32 rfl rfl (WA.step (r := [2]) (by kernel_rfl) (by decide) (all1 (WO.c rfl rfl (o_ldA TI32 rfl rfl (show Cells _ c4 0 [.int .i64 (e : Int), .int .i64 (a : Int)] from Cells.of hC4 0 _ (by simp)) rfl (WA.step (r := [4]) (by kernel_rfl) (by decide) (all1 (WO.u rfl (o_stA TI32 rfl (show _ = Value.agg #[.int .i64 (e : Int), .int .i64 (a : Int)] from rfl) rfl rfl hC3 rfl ?_)))))))))))
   intro wy hB1 ho1 hs1
   replace hC3 := hB1
   replace hC2 := ho1.blk hC2 hne
   replace hq := hq.trans (ho1.mono (fun _ _ h => .inr h))
   refine WA.done (by kernel_rfl) ?_
   exact ⟨hC2, hC3, hq⟩
  skip
  refine WO.c rfl rfl (Wl 0 TI79 rfl TI32 rfl rfl (WA.step (r := [0, 2]) (by kernel_rfl) (by decide) (all2 ?_ ?_)))
  ·skip
   refine WO.c rfl rfl (o_bldC (cs := [(.slice none 0 0)]) TI24 (Sizes.cons TI22 Sizes.nil) rfl lnp rfl rfl (WA.step (r := [2, 3]) (by kernel_rfl) (by decide) (all2 ?_ ?_)))
   ·skip
    refine WO.c rfl rfl (o_ldA TI32 rfl rfl (show Cells _ c4 0 [.int .i64 (e : Int), .int .i64 (a : Int)] from Cells.of hC4 0 _ (by simp)) rfl (WA.step (r := [3]) (by kernel_rfl) (by decide) (all1 (WO.u rfl (o_stA TI24 rfl (show _ = Value.agg #[.slice none 0 0] from rfl) rfl rfl hC2 rfl ?_)))))
    intro wx hB ho hs
    replace hC2 := hB
    replace hC3 := ho.blk hC3 (fun he => hne he.symm)
    replace hC4 := ho.blk hC4 (show ¬ c4 = b2 by omega)
    replace hq := hq.trans (ho.mono (fun _ _ h => .inl h))
    refine WA.step (r := [4]) (by kernel_rfl) (by decide) (all1 (WO.u rfl (o_stA TI32 rfl (show _ = Value.agg #[.int .i64 (e : Int), .int .i64 (a : Int)] from rfl) rfl rfl hC3 rfl ?_)))
    intro wy hB1 ho1 hs1
    replace hC3 := hB1
    replace hC2 := ho1.blk hC2 hne
    replace hq := hq.trans (ho1.mono (fun _ _ h => .inr h))
    refine WA.done (by kernel_rfl) ?_
    exact ⟨hC2, hC3, hq⟩
   skip
   refine WO.u rfl (o_stA TI24 rfl (show _ = Value.agg #[.slice none 0 0] from rfl) rfl rfl hC2 rfl ?_)
   intro wx hB ho hs
   replace hC2 := hB
   replace hC3 := ho.blk hC3 (fun he => hne he.symm)
   replace hC4 := ho.blk hC4 (show ¬ c4 = b2 by omega)
   replace hq := hq.trans (ho.mono (fun _ _ h => .inl h))
   refine WA.step (r := [2]) (by kernel_rfl) (by decide) (all1 (WO.c rfl rfl (o_ldA TI32 rfl rfl (show Cells _ c4 0 [.int .i64 (e : Int), .int .i64 (a : Int)] from Cells.of hC4 0 _ (by simp)) rfl (WA.step (r := [4]) (by kernel_rfl) (by decide) (all1 (WO.u rfl (o_stA TI32 rfl (show _ = Value.agg #[.int .i64 (e : Int), .int .i64 (a : Int)] from rfl) rfl rfl hC3 rfl ?_)))))))
   intro wy hB1 ho1 hs1
   replace hC3 := hB1
   replace hC2 := ho1.blk hC2 hne
   replace hq := hq.trans (ho1.mono (fun _ _ h => .inr h))
   refine WA.done (by kernel_rfl) ?_
   exact ⟨hC2, hC3, hq⟩
  skip
  refine WO.c rfl rfl (o_ldA TI32 rfl rfl (show Cells _ c4 0 [.int .i64 (e : Int), .int .i64 (a : Int)] from Cells.of hC4 0 _ (by simp)) rfl (WA.step (r := [0]) (by kernel_rfl) (by decide) (all1 (WO.c rfl rfl (o_bldC (cs := [(.slice none 0 0)]) TI24 (Sizes.cons TI22 Sizes.nil) rfl lnp rfl rfl (WA.step (r := [3]) (by kernel_rfl) (by decide) (all1 (WO.u rfl (o_stA TI24 rfl (show _ = Value.agg #[.slice none 0 0] from rfl) rfl rfl hC2 rfl ?_)))))))))
  intro wx hB ho hs
  replace hC2 := hB
  replace hC3 := ho.blk hC3 (fun he => hne he.symm)
  replace hC4 := ho.blk hC4 (show ¬ c4 = b2 by omega)
  replace hq := hq.trans (ho.mono (fun _ _ h => .inl h))
  refine WA.step (r := [4]) (by kernel_rfl) (by decide) (all1 (WO.u rfl (o_stA TI32 rfl (show _ = Value.agg #[.int .i64 (e : Int), .int .i64 (a : Int)] from rfl) rfl rfl hC3 rfl ?_)))
  intro wy hB1 ho1 hs1
  replace hC3 := hB1
  replace hC2 := ho1.blk hC2 hne
  replace hq := hq.trans (ho1.mono (fun _ _ h => .inr h))
  refine WA.done (by kernel_rfl) ?_
  exact ⟨hC2, hC3, hq⟩
 rintro e w hfin
 exact ret0 rfl hfin
theorem parse1_ret (b2 b3 : Nat) (w0 : World) : CallsD Tryd.prog 21 #[.pointer (some ⟨b2, 0, none⟩), .pointer (some ⟨b3, 0, none⟩)] .returning w0 (fun en u2 w' => match en with | .returned _ => u2 = .returning ∧ w' = w0 | _ => False) := by
 refine calls_recover (R := fun w' => w' = w0) (l := [.pointer (some ⟨b2, 0, none⟩), .pointer (some ⟨b3, 0, none⟩)]) Tryd.func21 Tryd.ntmps21 rfl rfl rfl (.inr ⟨rfl, rfl, rfl⟩) (W.block (We (Wb (Wa rfl (o_eqNN Tryd.underlying20 rfl (Wc (W.condT' rfl (rfl) (Wb (Wa rfl (Wo (Wc ?_)))))))))))
 exact ret0 rfl rfl
end Go.Proofs.YtpbflfgigfdohaaDoor
