/-
  The walker's laws: things that came later.
-/
import Derived.Test.YtdiaeafjjffjmaaDrawc
import Derived.Test.YtdiaeafjjffjmaaDefer
import Derived.Test.YtdiaeafjjffjmaaBook
set_option linter.unusedSimpArgs false
set_option linter.unusedVariables false
namespace Go.Vc
open Go Go.RowKit
section
variable {P : Program} {all : List Oper} {e : Env} {w : World} {K : Value → World → Prop} {S : List PanicEntry → World → Prop} {op : Op} {ty : TypeId} {dst : Option Nat} {pos : String} {after : Array Edge}
theorem SGX.g {j : Nat} {b b' : Bool} (hg : gbool e all j = .bool b') (hb : b' = b) (h : OPX P e op ty w K S) : SGX P all e ⟨dst, op, ty, pos, after, some (j, b)⟩ w K S := fun D n a ha => by
  rw [if_pos (by simp [Region.wanted, yielded_of ha hg, hb])]; exact h
theorem SGX.s {j : Nat} {b b' : Bool} (hg : gbool e all j = .bool b') (hb : b' = !b) (h : K undef w) : SGX P all e ⟨dst, op, ty, pos, after, some (j, b)⟩ w K S := fun D n a ha => by
  rw [if_neg (by subst hb; simp [Region.wanted, yielded_of ha hg])]; exact h
end
section
variable {P : Program} {e : Env} {w : World} {K : Value → World → Prop} {ty : TypeId}
/-- a struct stored inside a block -/
theorem o_stAo {x y : Operand} {t T : TypeId} {d : TypeDesc} {s bs b o : Nat} {z : Value} {as cs : Array Value} (ht : Ty P t d s bs z) (hx : ev e x = .pointer (some ⟨b, o, none⟩)) (hy : ev e y = .agg as) (has : as.size = s) (h1 : as.toList.all (·.oneCell') = true)
    (hB : w.heap[b]? = some (.cells cs T (0, 0))) (hle : o + s ≤ cs.size) (k : ∀ w', w'.heap[b]? = some (.cells (cs.toList.take o ++ as.toList ++ cs.toList.drop (o + s)).toArray T (0, 0)) → Only (fun k => k = b) w w' → w'.heap.size = w.heap.size → K undef w') : OP P e (.store t x y) ty w K := by
  have hr := run_storeCells_at P b o T as.toList 0 cs w hB (by simp [has]; omega) (by intro v hv; exact List.all_eq_true.1 h1 v hv)
  simp only [Nat.add_zero, Array.length_toList, has] at hr
  refine OP.ofS (w' := w.setRow b (cs.toList.take o ++ as.toList ++ cs.toList.drop (o + s)).toArray) ?_ (k _ (setRow_heap w b cs _ T (0, 0) hB) ⟨rfl, rfl, rfl, by simp, fun k _ hn => setRow_other w b k _ hn⟩ (by simp))
  simp [execOp, Instr.storeAt, Instr.sureAddr, hx, hy, storeVar, Value.cells, has, ht.run_size, hr]
end
end Go.Vc
