/-
  Regions that draw their order: reads and pure operations first, in whatever order, then a tail that waits for all of them (a store, say); and regions with calls that make memory, by a stable fact for each slot.
-/
import Derived.Test.YtcljkkfpcomdcaaRow
import Derived.StillTail
set_option linter.unusedSimpArgs false
set_option linter.unusedVariables false
namespace Go.Vc
open Go Go.RowKit
variable {D : List Deferred}

structure WS (P : Program) (all l : List Oper) (Q : Env → Prop) (n : Nat) (e : Env) (w : World) : Prop where
  out : ∀ D a, Rel D n a e → wpStill P all.toArray w (fun a' => ∃ e', Rel D n a' e' ∧ Q e') l a

section
variable {P : Program} {Q : Env → Prop} {n : Nat} {e : Env} {w : World} {all rest : List Oper} {op : Op} {ty : TypeId} {pos : String} {after : Array Edge} {d : Nat} {v : Value}

/-- What one operation that only reads comes to, in this very world. -/
def SO (P : Program) (e : Env) (op : Op) (ty : TypeId) (w : World) (v : Value) : Prop :=
  match (execOp (ev e) ⟨none, op, ty, "", #[], none⟩).run P w with
  | .ok (.value u) w' => w' = w ∧ u = v
  | .ok (.enter f args) w' => w' = w ∧ Calls P f args w (fun e w'' => e = .returned v ∧ w'' = w)
  | _ => False
theorem SO.r (h : RV P e op ty w v) : SO P e op ty w v := by unfold SO; rw [h]; exact ⟨rfl, rfl⟩
theorem SO.o (hn : notCall op = true) (h : OP P e op ty w (fun u w' => w' = w ∧ v = u)) : SO P e op ty w v := by
  have h2 := noEnter_exec (P := P) (ρ := ev e) (ty := ty) (w := w) hn
  unfold OP at h
  unfold SO
  generalize (execOp (ev e) ⟨none, op, ty, "", #[], none⟩).run P w = r at *
  cases r with
  | ok nx w' =>
    cases nx <;> simp only at h ⊢ <;> first
      | exact ⟨h.1, h.2.symm⟩
      | exact h
      | (simp [noEnter] at h2; done)
  | halt x w' => exact h
theorem SO.call {f : FuncId} {l : List Operand} {vs : List Value} {ats : Array TypeId} (hc : ∀ args w, (callFunc f args).run P w = .ok (.enter f args) w) (ha : l.map (ev e) = vs)
    (h : Ca P f vs.toArray w (fun u w' => u = v ∧ w' = w)) : SO P e (.call ⟨.value (.func f), l.toArray, ats⟩) ty w v := by
  subst ha
  have : (execOp (ev e) ⟨none, .call ⟨.value (.func f), l.toArray, ats⟩, ty, "", #[], none⟩).run P w = .ok (.enter f (l.map (ev e)).toArray) w := by
    simp [execOp, resolve, Deferred.ofValue, ev, invoke, hc]
  unfold SO
  rw [this]
  refine ⟨rfl, Calls.mono h fun e w' he => ?_⟩
  cases e <;> simp only at he
  · exact ⟨by rw [he.1], he.2⟩

theorem WS.nil (h : Q e) : WS P all [] Q n e w := ⟨fun D _ ha => ⟨e, ha, h⟩⟩
theorem WS.c (hd : Nat.blt d n = true) (hq : SO P e op ty w v) (h : WS P all rest Q n (upd e d v) w) : WS P all (⟨some d, op, ty, pos, after, none⟩ :: rest) Q n e w :=
  ⟨fun D a ha => by
    refine wpStill_step fun K hK => ?_
    rw [if_pos (by simp [Region.wanted])]
    have hK' := hK _ (h.out D _ (ha.put hd v))
    unfold Oper.still
    rw [exec_of, ha.ev]
    unfold SO at hq
    revert hq
    generalize (execOp (ev e) ⟨none, op, ty, "", #[], none⟩).run P w = r
    intro hq
    cases r with
    | ok nx w' =>
      cases nx <;> simp only [Oper.stillUpon] <;> simp only at hq <;> first
        | (obtain ⟨h1, h2⟩ := hq; subst h2; exact ⟨h1, hK'⟩)
        | exact hq.elim
        | exact ⟨hq.1, v, hq.2, hK'⟩
    | halt x w' => exact hq.elim⟩

theorem W.tail {id : Nat} {l : List Oper} {Q : Exit → Env → World → Prop} (m : Nat) (hm : P.follows .mixedOrders = true) (hB : Region.lexTailB .any l.toArray m = true)
    (h : WS P l (l.take m) (fun e' => WL P l (l.drop m) Q n e' w.drew) n e w.drew) : W P (.region id l.toArray true) Q n e w :=
  ⟨fun D a ha => wp_region_still_tail m hm hB (by
    have h1 := h.out D a ha
    have mono : ∀ (l' : List Oper) (a : Act), wpStill P l.toArray w.drew (fun a' => ∃ e', Rel D n a' e' ∧ WL P l (l.drop m) Q n e' w.drew) l' a → wpStill P l.toArray w.drew (fun a' => wpList P l.toArray (lift D n Q) (l.drop m) a' w.drew) l' a := by
      intro l'
      induction l' with
      | nil => intro a ⟨e', hr, hq⟩; exact hq.out D _ hr
      | cons o l' ih =>
        intro a h
        simp only [wpStill] at h ⊢
        split
        · rename_i hw; rw [if_pos hw] at h; exact Oper.still_mono ih h
        · rename_i hw; rw [if_neg hw] at h; exact ih _ h
    exact mono _ a h1)⟩

theorem o_ixB {x y : Operand} {t el : TypeId} {s bs s' bs' i n b o c : Nat} {z z' : Value} {d' : TypeDesc} {ik : IntKind} {K : Value → World → Prop} (ht : Ty P t (.slice el) s bs z) (hel : Ty P el d' s' bs' z') (hx : ev e x = .slice (some ⟨b, o, none⟩) n c) (hy : ev e y = .int ik (i : Int)) (hi : i < n)
    (k : K (.pointer (some ⟨b, o + i * s', none⟩)) w) : OP P e (.indexAddr t x y) ty w K :=
  OP.of (by simp [execOp, Instr.indexAt, ht.run_und, hx, hy, asIntOf, hi, hel.run_size, add_none]) k
/-- A store into a block that is known whole. -/
theorem o_stB {x y : Operand} {t T : TypeId} {dd : TypeDesc} {bs b o : Nat} {z v : Value} {cs : Array Value} {K : Value → World → Prop} (ht : Ty P t dd 1 bs z) (hx : ev e x = .pointer (some ⟨b, o, none⟩)) (hy : ev e y = v) (hv : v.oneCell' = true) (hB : w.heap[b]? = some (.cells cs T (0, 0))) (ho : o < cs.size)
    (k : ∀ w', w'.heap[b]? = some (.cells (cs.setIfInBounds o v) T (0, 0)) → Only (fun k => k = b) w w' → w'.heap.size = w.heap.size → K undef w') : OP P e (.store t x y) ty w K :=
  o_st ht hx hy hv (cell_of hB (Array.getElem?_eq_getElem ho)) (free_of hB) (k _ (heap_setCell_same w b o cs T v hB) (Only.setCell w ⟨b, o, none⟩ v) (by simp [World.setCell]))
end
end Go.Vc
