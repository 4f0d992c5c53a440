/-
  The walker: functions with deferred calls; a deferred function that recovers; regions of few operations, order by order; interface values.
-/
import Derived.Test.YtcljkkfpcomdcaaDrawc
import Derived.Test.YtcljkkfpcomdcaaBook
import Derived.Recover
set_option linter.unusedSimpArgs false
set_option linter.unusedVariables false
namespace Go.Vc
open Go Go.RowKit
variable {D : List Deferred}

/-! ### a region's orders, one by one -/
structure WA (P : Program) (l : List Oper) (Q : Exit → Env → World → Prop) (n : Nat) (fuel : Nat) (listed : List Bool) (e : Env) (w : World) : Prop where
  out : ∀ D a, Rel D n a e → wpAny P .any l.toArray (lift D n Q) fuel listed.toArray a w
/-- operation number i is done now -/
def WO (P : Program) (l : List Oper) (Q : Exit → Env → World → Prop) (n : Nat) (i : Nat) (K : Env → World → Prop) (e : Env) (w : World) : Prop :=
  ∀ D a, Rel D n a e → ∀ K' : Act → World → Prop, (∀ a' e' w', Rel D n a' e' → K e' w' → K' a' w') → wpOp P l.toArray (lift D n Q) i K' a w
section
variable {P : Program} {l : List Oper} {Q : Exit → Env → World → Prop} {n fuel : Nat} {listed : List Bool} {e : Env} {w : World}
theorem WO.c {i d : Nat} {op : Op} {ty : TypeId} {pos : String} {after : Array Edge} {K : Env → World → Prop} (ho : l[i]? = some ⟨some d, op, ty, pos, after, none⟩) (hd : Nat.blt d n = true) (h : OP P e op ty w (fun v w' => K (upd e d v) w')) : WO P l Q n i K e w := by
  intro D a ha K' hK
  unfold wpOp
  simp only [List.getElem?_toArray, ho]
  rw [if_pos (by simp [Region.wanted])]
  exact .inl (OP.wp ha.ev (h.mono fun v _ hw => hK _ _ _ (ha.put hd v) hw))
theorem WO.u {i : Nat} {op : Op} {ty : TypeId} {pos : String} {after : Array Edge} {K : Env → World → Prop} (ho : l[i]? = some ⟨none, op, ty, pos, after, none⟩) (h : OP P e op ty w (fun _ w' => K e w')) : WO P l Q n i K e w := by
  intro D a ha K' hK
  unfold wpOp
  simp only [List.getElem?_toArray, ho]
  rw [if_pos (by simp [Region.wanted])]
  exact .inl (OP.wp ha.ev (h.mono fun v _ hw => hK _ _ _ ha hw))
theorem WA.done (hr : Region.ready .any l.toArray listed.toArray = []) (h : Q .normal e w) : WA P l Q n fuel listed e w := ⟨fun D a ha => by
  cases fuel with
  | zero => exact ⟨hr, e, ha, h⟩
  | succ f => exact ⟨fun _ => ⟨e, ha, h⟩, fun i hi => by rw [hr] at hi; cases hi⟩⟩
theorem WA.step {r : List Nat} (hr : Region.ready .any l.toArray listed.toArray = r) (h0 : r ≠ []) (h : ∀ i ∈ r, WO P l Q n i (WA P l Q n fuel (listed.set i true)) e w) : WA P l Q n (fuel + 1) listed e w := ⟨fun D a ha => by
  subst hr
  refine ⟨fun h1 => absurd h1 h0, fun i hi => ?_⟩
  refine h i hi D a ha _ fun a' e' w' hr hw => ?_
  have := hw.out D a' hr
  simpa [List.setIfInBounds_toArray] using this⟩
theorem W.enum {id : Nat} (hm : P.follows .mixedOrders = true) (h : WA P l Q n l.length (List.replicate l.length false) e w.drew) : W P (.region id l.toArray true) Q n e w :=
  ⟨fun D a ha => wp_region_any hm (by
    have := h.out D a ha
    simpa using this)⟩
theorem all1 {p : Nat → Prop} {i : Nat} (h : p i) : ∀ j ∈ [i], p j := by simpa using h
theorem all2 {p : Nat → Prop} {i k : Nat} (h : p i) (h2 : p k) : ∀ j ∈ [i, k], p j := by simpa using ⟨h, h2⟩
theorem all3 {p : Nat → Prop} {i k m : Nat} (h : p i) (h2 : p k) (h3 : p m) : ∀ j ∈ [i, k, m], p j := by simpa using ⟨h, h2, h3⟩
end

/-! ### functions with deferred calls -/
def liftF (n : Nat) (Q : List Deferred → Exit → Env → World → Prop) : Exit → Act → World → Prop := fun x a w => ∃ D e', Rel D n a e' ∧ Q D x e' w
structure WF (P : Program) (c : Code) (Q : List Deferred → Exit → Env → World → Prop) (n : Nat) (D : List Deferred) (e : Env) (w : World) : Prop where
  out : ∀ a, Rel D n a e → c.wp P (liftF n Q) a w
structure WLF (P : Program) (all l : List Oper) (Q : List Deferred → Exit → Env → World → Prop) (n : Nat) (D : List Deferred) (e : Env) (w : World) : Prop where
  out : ∀ a, Rel D n a e → wpList P all.toArray (liftF n Q) l a w
def thnF (K : List Deferred → Env → World → Prop) (Q : List Deferred → Exit → Env → World → Prop) : List Deferred → Exit → Env → World → Prop
  | D, .normal, e, w => K D e w
  | D, x, e, w => Q D x e w
section
variable {P : Program} {Q : List Deferred → Exit → Env → World → Prop} {n : Nat} {e : Env} {w : World}
theorem WF.of {c : Code} (h : W P c (Q D) n e w) : WF P c Q n D e w := ⟨fun a ha => wp_mono (h.out D a ha) fun x a w ⟨e', hr, hq⟩ => ⟨D, e', hr, hq⟩⟩
theorem WF.seq {x y : Code} (h : WF P x (thnF (fun D e w => WF P y Q n D e w) Q) n D e w) : WF P (.seq x y) Q n D e w :=
  ⟨fun a ha => wp_seq (wp_mono (h.out a ha) fun x a w ⟨D', e', hr, hq⟩ => by
    cases x <;> first | exact hq.out a hr | exact ⟨D', e', hr, hq⟩)⟩
theorem WF.cond {c : Operand} {x y : Code} {b : Bool} (hc : ev e c = .bool b) (ht : b = true → WF P x Q n D e w) (hf : b = false → WF P y Q n D e w) : WF P (.cond c x y) Q n D e w :=
  ⟨fun a ha => wp_cond_split (by rw [ha.ev]; exact hc) (fun h => (ht h).out a ha) (fun h => (hf h).out a ha)⟩
theorem WF.region {id : Nat} {l : List Oper} (h : WLF P l l Q n D e w) : WF P (.region id l.toArray false) Q n D e w :=
  ⟨fun a ha => wp_region_lit (h.out a ha)⟩
theorem WLF.nil {all : List Oper} (h : Q D .normal e w) : WLF P all [] Q n D e w := ⟨fun a ha => ⟨D, e, ha, h⟩⟩
theorem WLF.c {all rest : List Oper} {d : Nat} {op : Op} {ty : TypeId} {pos : String} {after : Array Edge} (hd : Nat.blt d n = true)
    (h : OP P e op ty w (fun v w' => WLF P all rest Q n D (upd e d v) w')) : WLF P all (⟨some d, op, ty, pos, after, none⟩ :: rest) Q n D e w :=
  ⟨fun a ha => wpList_plain rfl fun _ hK => OP.wp ha.ev (h.mono fun v _ hw => hK _ _ (hw.out _ (ha.put hd v)))⟩
/-- a closure's call is deferred -/
theorem WLF.d {all rest : List Oper} {g : Operand} {f : FuncId} {caps : Array Value} {ty : TypeId} {pos : String} {after : Array Edge} (hg : ev e g = .func (.func f) #[] caps)
    (h : WLF P all rest Q n (⟨.fn (.func f) caps, #[]⟩ :: D) e w) : WLF P all (⟨none, .defer ⟨.value g, #[], #[]⟩, ty, pos, after, none⟩ :: rest) Q n D e w :=
  ⟨fun a ha => wpList_plain rfl fun K hK => by
    have hr : (execOp a.eval ⟨none, .defer ⟨.value g, #[], #[]⟩, ty, pos, after, none⟩).run P w = .ok (.defer ⟨.fn (.func f) caps, #[]⟩) w := by
      rw [ha.ev]
      simp [execOp, resolve, Deferred.ofValue, hg]
    unfold Oper.wp
    rw [hr]
    simp only [Oper.upon, Act.put]
    refine hK _ _ (h.out _ ⟨?_, ha.size, ha.get⟩)
    show (⟨.fn (.func f) caps, #[]⟩ :: a.defers : List Deferred) = _
    rw [ha.defers]⟩
/-- the end of a function with deferred calls -/
structure Lv (fn : Func) (P : Program) (R : Ending → World → Prop) (D : List Deferred) (u : FrameMode) (e : Env) (w : World) : Prop where
  out : ∀ a, Rel D fn.ntmps a e → Leaves P fn a.tmps R D u w
def postF (fn : Func) (P : Program) (R : Ending → World → Prop) : List Deferred → Exit → Env → World → Prop
  | D, .normal, e, w | D, .ret, e, w => Lv fn P R D .returning e w
  | D, .panic ch, e, w => Lv fn P R D (.panicking ch) e w
  | _, _, _, _ => False
theorem calls_ofF {f : FuncId} {fn : Func} {c : Code} {l : List Value} {R : Ending → World → Prop} (hf : P.funcs[f]? = some fn) (hm : fn.ntmps = n) (hb : fn.body = some c)
    (hn : Nat.ble l.length n = true) (h : WF P c (postF fn P R) n [] (envOf l) w) : Calls P f l.toArray w R := by
  subst hm
  have hn' : l.length ≤ fn.ntmps := by simpa using hn
  refine calls_of_wp_defers hf hb (wp_mono (h.out _ ?_) ?_)
  · have := Rel.mk' l (fn.ntmps - l.length)
    rw [Nat.add_sub_cancel' hn'] at this
    simpa using this
  · rintro x a w ⟨D, e', hr, hq⟩
    cases x <;> simp only [postF] at hq <;> first
      | exact hq.elim
      | (have := hq.out a hr; simp only [bodyPostD]; rw [hr.defers]; exact this)
/-- the one deferred call, in the mode u; it hands back u' -/
theorem Lv.one {fn : Func} {R : Ending → World → Prop} {f : FuncId} {caps : Array Value} {u : FrameMode} (hc : ∀ args w, (callFunc f args).run P w = .ok (.enter f args) w) (hu : u ≠ .run) {S : FrameMode → World → Prop} (h : CallsD P f caps u w (fun e u' w' => match e with | .returned _ => S u' w' | _ => False))
    (k : ∀ u' w', S u' w' → Lv fn P R [] (settle u') e w') : Lv fn P R [⟨.fn (.func f) caps, #[]⟩] u e w :=
  ⟨fun a ha => leaves_cons hu (by simp [invoke, hc]) (h.mono fun en u' w' he => by
    cases en <;> simp only at he ⊢ <;> first
      | exact (k _ _ he).out { a with defers := [] } ⟨rfl, ha.size, ha.get⟩
      | exact he.elim)⟩
theorem Lv.ret {fn : Func} {R : Value → World → Prop} {R' : Ending → World → Prop} (h : Rt fn P R e w) (hR : ∀ v w, R v w → R' (.returned v) w) : Lv fn P R' [] .returning e w :=
  ⟨fun a ha => by obtain ⟨v, h1, h2⟩ := h.out [] a ha; exact ⟨v, h1, hR _ _ h2⟩⟩
end

/-! ### a deferred function whose first region recovers -/
section
variable {P : Program} {w : World} {n : Nat}
theorem calls_recover {f : FuncId} {fn : Func} {c : Code} {id d : Nat} {ty : TypeId} {pos : String} {after : Array Edge} {l : List Value} {u u' : FrameMode} {v : Value} {R : World → Prop} (hf : P.funcs[f]? = some fn) (hm : fn.ntmps = n)
    (hb : fn.body = some (.seq (.region id #[⟨some d, .call ⟨.builtin .recover, #[], #[]⟩, ty, pos, after, none⟩] false) c)) (hn : Nat.ble l.length n = true) (hd : Nat.blt d n = true)
    (hu : (∃ older, u = .panicking ({ v, recovered := false, goexit := false } :: older) ∧ u' = .panicking ({ v, recovered := true } :: older)) ∨ (u = .returning ∧ u' = .returning ∧ v = .nilIface))
    (h : W P c (post fn P (fun _ w' => R w')) n (upd (envOf l) d v) w) : CallsD P f l.toArray u w (fun e u2 w' => match e with | .returned _ => u2 = u' ∧ R w' | _ => False) := by
  subst hm
  have hn' : l.length ≤ fn.ntmps := by simpa using hn
  refine callsD_of_wpS hf hb fun c₀ cs hu0 => wpS_seq (wpS_region ?_)
  have hrel := Rel.mk' l (fn.ntmps - l.length)
  rw [Nat.add_sub_cancel' hn'] at hrel
  have hsz : fn.ntmps - l.toArray.size = fn.ntmps - l.length := by simp
  rw [hsz]
  generalize hA : ({ tmps := l.toArray ++ Array.replicate (fn.ntmps - l.length) undef, defers := [] } : Act) = A at *
  have hx : (execOp A.eval ⟨some d, .call ⟨.builtin .recover, #[], #[]⟩, ty, pos, after, none⟩).run P w = .ok .recover w := by
    simp [execOp, resolve, invoke, builtin]
  have fin : ∀ cs', cs' = { c₀ with mode := u' } :: cs → (Code.wpS P c (bodyPostS P fn c₀ cs (fun e u2 w' => match e with | .returned _ => u2 = u' ∧ R w' | _ => False)) (A.put (some d) v) cs' w) := by
    rintro cs' rfl
    refine wpS_of_wp (wp_mono (h.out [] _ (hrel.put hd v)) ?_)
    rintro x a w2 ⟨e', hr, hq⟩
    cases x <;> simp only [post] at hq <;> first
      | exact hq.elim
      | (obtain ⟨v2, h1, h2⟩ := hq.out [] a hr
         exact ⟨hr.defers, u', rfl, v2, h1, rfl, h2⟩)
  have hc0 : ({ c₀ with mode := u } : Frame) = c₀ := by subst hu0; rfl
  show wpOpsS P _ _ [0] A (c₀ :: cs) w
  simp only [wpOpsS, List.getElem?_toArray, List.getElem?_cons_zero]
  rw [if_pos (by simp [Region.wanted]), hx]
  simp only []
  rcases hu with ⟨older, h1, h2⟩ | ⟨h1, h2, h3⟩
  · have hrec : recoverD (c₀ :: cs) = some (v, { c₀ with mode := u' } :: cs) := by
      simp only [recoverD, hu0, h1, h2]
    rw [hrec]
    simp only [Exit.thenS]
    exact fin _ rfl
  · have hrec : recoverD (c₀ :: cs) = none := by
      simp only [recoverD, hu0, h1]
    rw [hrec]
    simp only [Exit.thenS]
    rw [← h3]
    refine fin _ ?_
    rw [h2, ← h1, hc0]
end
end Go.Vc
