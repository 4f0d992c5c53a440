/-
  The walker's laws: things that came later.
-/
import Derived.Test.YtcljkkfpcomdcaaDrawc
import Derived.Test.YtcljkkfpcomdcaaDefer
import Derived.Test.YtcljkkfpcomdcaaBook
set_option linter.unusedSimpArgs false
set_option linter.unusedVariables false
namespace Go.Vc
open Go Go.RowKit
section
variable {P : Program} {all : List Oper} {e : Env} {w : World} {K : Value → World → Prop} {S : List PanicEntry → World → Prop} {op : Op} {ty : TypeId} {dst : Option Nat} {pos : String} {after : Array Edge}
theorem SGX.g {j : Nat} {b b' : Bool} (hg : gbool e all j = .bool b') (hb : b' = b) (h : OPX P e op ty w K S) : SGX P all e ⟨dst, op, ty, pos, after, some (j, b)⟩ w K S := fun D n a ha => by
  rw [if_pos (by simp [Region.wanted, yielded_of ha hg, hb])]; exact h
theorem SGX.s {j : Nat} {b b' : Bool} (hg : gbool e all j = .bool b') (hb : b' = !b) (h : K undef w) : SGX P all e ⟨dst, op, ty, pos, after, some (j, b)⟩ w K S := fun D n a ha => by
  rw [if_neg (by subst hb; simp [Region.wanted, yielded_of ha hg])]; exact h
end
section
variable {P : Program} {e : Env} {w : World} {K : Value → World → Prop} {ty : TypeId}
/-- a struct stored inside a block -/
theorem o_stAo {x y : Operand} {t T : TypeId} {d : TypeDesc} {s bs b o : Nat} {z : Value} {as cs : Array Value} (ht : Ty P t d s bs z) (hx : ev e x = .pointer (some ⟨b, o, none⟩)) (hy : ev e y = .agg as) (has : as.size = s) (h1 : as.toList.all (·.oneCell') = true)
    (hB : w.heap[b]? = some (.cells cs T (0, 0))) (hle : o + s ≤ cs.size) (k : ∀ w', w'.heap[b]? = some (.cells (cs.toList.take o ++ as.toList ++ cs.toList.drop (o + s)).toArray T (0, 0)) → Only (fun k => k = b) w w' → w'.heap.size = w.heap.size → K undef w') : OP P e (.store t x y) ty w K := by
  have hr := run_storeCells_at P b o T as.toList 0 cs w hB (by simp [has]; omega) (by intro v hv; exact List.all_eq_true.1 h1 v hv)
  simp only [Nat.add_zero, Array.length_toList, has] at hr
  refine OP.ofS (w' := w.setRow b (cs.toList.take o ++ as.toList ++ cs.toList.drop (o + s)).toArray) ?_ (k _ (setRow_heap w b cs _ T (0, 0) hB) ⟨rfl, rfl, rfl, by simp, fun k _ hn => setRow_other w b k _ hn⟩ (by simp))
  simp [execOp, Instr.storeAt, Instr.sureAddr, hx, hy, storeVar, Value.cells, has, ht.run_size, hr]
end
theorem least {p : Nat → Prop} (h : ∃ n, p n) : ∃ n, p n ∧ ∀ m, p m → n ≤ m := by
  obtain ⟨n, hn⟩ := h
  induction n using Nat.strongRecOn with
  | _ n ih =>
    by_cases e : ∃ m, m < n ∧ p m
    · obtain ⟨m, h1, h2⟩ := e; exact ih m h1 h2
    · exact ⟨n, hn, fun m hm => Nat.le_of_not_lt (fun h1 => e ⟨m, h1, hm⟩)⟩
/-- a loop with a count of rounds to come that no value tells -/
theorem W.loopN {P : Program} {Q : Exit → Env → World → Prop} {n : Nat} {e : Env} {w : World} {c : Code} (J : Nat → Env → World → Prop) (h0 : ∃ k, J k e w)
    (round : ∀ k e w, J k e w → W P c (thn (fun e' w' => ∃ k', k' < k ∧ J k' e' w') Q) n e w) : W P (.loop c) Q n e w := by
  classical
  refine W.loop (fun e w => ∃ k, J k e w) (fun e w => if h : ∃ k, J k e w then (least h).choose else 0) h0 fun e w hI => ?_
  refine (round _ e w (least hI).choose_spec.1).mono fun x e' w' hq => ?_
  cases x <;> first
    | exact hq
    | (obtain ⟨k', h1, h2⟩ := hq
       refine ⟨⟨k', h2⟩, ?_⟩
       show (if h : ∃ k, J k e' w' then (least h).choose else 0) < (if h : ∃ k, J k e w then (least h).choose else 0)
       rw [dif_pos ⟨k', h2⟩, dif_pos hI]
       exact Nat.lt_of_le_of_lt ((least ⟨k', h2⟩).choose_spec.2 _ h2) h1)
section
variable {P : Program} {e : Env} {w : World} {K : Value → World → Prop} {ty : TypeId}
/-- one cell of a row of our own, by its place -/
theorem own_cell {base : Nat} {el : TypeId} {s n cap g j : Nat} {u : Value} {xs : List Value} (h : w.ownsRow base el s (.slice (some ⟨g, 0, none⟩) n cap) n xs) (hj : xs[j]? = some u) : w.cell? ⟨g, j, none⟩ = some u := by
  obtain ⟨cap', cur, hv, -, hc, hnc, -, hcs, ht⟩ := own_blk h rfl
  refine cell_of hc ?_
  rw [← ht, List.getElem?_take] at hj
  split at hj
  · rw [← hj]; exact (Array.getElem?_toList ..).symm
  · cases hj
theorem o_stRj {x y : Operand} {t el : TypeId} {dd : TypeDesc} {bs g o i n s base : Nat} {z u v : Value} {xs : List Value} (ht : Ty P t dd 1 bs z) (hx : ev e x = .pointer (some ⟨g, o, none⟩)) (hoi : o = i) (hy : ev e y = u) (hu : u.oneCell' = true)
    (hown : w.ownsRow base el s v n xs) (hv : v.ownBlock = some g) (hi : i < n * s) (k : ∀ w', w'.ownsRow base el s v n (xs.set i u) → Only (fun k => v.ownBlock = some k) w w' → w'.heap.size = w.heap.size → K undef w') : OP P e (.store t x y) ty w K := by
  subst hoi
  obtain ⟨cap, cur, rfl, hb, hc, hnc, hcm, hcs, htk⟩ := own_blk hown hv
  have hm : n * s ≤ cap * s := Nat.mul_le_mul_right _ hnc
  refine o_stB ht hx hy hu hc (by omega) fun w' hC ho hs => k w' ⟨by simp [hown.1], .inr ⟨g, cap, _, rfl, hb, hC, hnc, hcm, by simp [hcs], ?_⟩⟩ (ho.mono (fun j _ h => by rw [hv, h])) hs
  rw [Array.toList_setIfInBounds, List.take_set, htk]
end
end Go.Vc
