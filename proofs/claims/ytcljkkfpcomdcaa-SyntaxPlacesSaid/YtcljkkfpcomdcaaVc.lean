/-
  The walker's base: environments in place of frames, one law for each kind of operation. Nothing of the seat's program is named here.
-/
import Derived.WalkKit
import Derived.WalkSpells
import Derived.WalkLawsBesides
import Derived.Deep.Quiet
set_option linter.unusedSimpArgs false
set_option linter.unusedVariables false
namespace Go.Vc
open Go Go.RowKit
variable {D : List Deferred}

abbrev Env := Nat → Value
theorem beq_false {i d : Nat} (h : ¬ i = d) : Nat.beq i d = false := by
  cases hb : Nat.beq i d with
  | false => rfl
  | true => exact absurd (Nat.eq_of_beq_eq_true hb) h
def upd (e : Env) (d : Nat) (v : Value) : Env := fun i => match Nat.beq i d with | true => v | false => e i

structure Rel (D : List Deferred) (n : Nat) (a : Act) (e : Env) : Prop where
  defers : a.defers = D
  size : a.tmps.size = n
  get : ∀ i, a.tmps.getD i undef = e i

def ev (e : Env) : Operand → Value
  | .tmp t => e t
  | .const v => v
  | .global g => .pointer (some ⟨g, 0, none⟩)
  | .func f => .func (.func f) #[] #[]

theorem Rel.ev {n : Nat} {a : Act} {e : Env} (h : Rel D n a e) : a.eval = ev e := by
  funext x
  cases x <;> simp [Act.eval, Vc.ev, ← h.get]

theorem Rel.put {n : Nat} {a : Act} {e : Env} (h : Rel D n a e) {d : Nat} (hd : Nat.blt d n = true) (v : Value) : Rel D n (a.put (some d) v) (upd e d v) := by
  have hd' : d < n := by simpa using hd
  refine ⟨h.defers, by simp [Act.put, h.size], fun i => ?_⟩
  have hg := h.get i
  have hsz := h.size
  simp only [Act.put, upd, Array.getD_eq_getD_getElem?, Array.getElem?_setIfInBounds] at *
  by_cases hi : i = d
  · subst hi; rw [if_pos rfl, if_pos (by omega)]; simp
  · have : Nat.beq i d = false := beq_false hi
    rw [if_neg (by omega)]
    simp [this, hg]

def envOf : List Value → Env
  | [], _ => undef
  | v :: _, 0 => v
  | _ :: l, i + 1 => envOf l i
theorem envOf_eq (l : List Value) : ∀ i, envOf l i = l[i]?.getD undef := by
  induction l with
  | nil => intro i; rfl
  | cons v l ih => intro i; cases i with
    | zero => rfl
    | succ i => simpa [envOf] using ih i

theorem Rel.mk' (l : List Value) (m : Nat) : Rel [] (l.length + m) { tmps := l.toArray ++ Array.replicate m undef, defers := [] } (envOf l) := by
  refine ⟨rfl, by simp, fun i => ?_⟩
  rw [envOf_eq]
  simp only [Array.getD_eq_getD_getElem?, Array.getElem?_append, Array.getElem?_replicate]
  by_cases h : i < l.length
  · simp [h]
  · simp [h]; split <;> rfl

def lift (D : List Deferred) (n : Nat) (Q : Exit → Env → World → Prop) : Exit → Act → World → Prop := fun x a w => ∃ e', Rel D n a e' ∧ Q x e' w

structure W (P : Program) (c : Code) (Q : Exit → Env → World → Prop) (n : Nat) (e : Env) (w : World) : Prop where
  out : ∀ D a, Rel D n a e → c.wp P (lift D n Q) a w

structure WL (P : Program) (all l : List Oper) (Q : Exit → Env → World → Prop) (n : Nat) (e : Env) (w : World) : Prop where
  out : ∀ D a, Rel D n a e → wpList P all.toArray (lift D n Q) l a w

def thn (K : Env → World → Prop) (Q : Exit → Env → World → Prop) : Exit → Env → World → Prop
  | .normal, e, w => K e w
  | x, e, w => Q x e w

def blk (id : Nat) (Q : Exit → Env → World → Prop) : Exit → Env → World → Prop
  | .exit i, e, w => match Nat.beq i id with | true => Q .normal e w | false => Q (.exit i) e w
  | x, e, w => Q x e w

section
variable {P : Program} {Q : Exit → Env → World → Prop} {n : Nat} {e : Env} {w : World}

theorem W.seq {x y : Code} (h : W P x (thn (fun e w => W P y Q n e w) Q) n e w) : W P (.seq x y) Q n e w :=
  ⟨fun D a ha => wp_seq (wp_mono (h.out D a ha) fun x a w ⟨e', hr, hq⟩ => by
    cases x <;> first | exact hq.out D a hr | exact ⟨e', hr, hq⟩)⟩

theorem W.cond {c : Operand} {x y : Code} {b : Bool} (hc : ev e c = .bool b) (ht : b = true → W P x Q n e w) (hf : b = false → W P y Q n e w) : W P (.cond c x y) Q n e w :=
  ⟨fun D a ha => wp_cond_split (by rw [ha.ev]; exact hc) (fun h => (ht h).out D a ha) (fun h => (hf h).out D a ha)⟩
theorem W.condT {c : Operand} {x y : Code} (hc : ev e c = .bool true) (ht : W P x Q n e w) : W P (.cond c x y) Q n e w :=
  W.cond hc (fun _ => ht) (fun h => by cases h)
theorem W.condF {c : Operand} {x y : Code} (hc : ev e c = .bool false) (hf : W P y Q n e w) : W P (.cond c x y) Q n e w :=
  W.cond hc (fun h => by cases h) (fun _ => hf)

theorem W.condT' {c : Operand} {x y : Code} {b : Bool} (hc : ev e c = .bool b) (hb : b = true) (ht : W P x Q n e w) : W P (.cond c x y) Q n e w :=
  W.cond hc (fun _ => ht) (fun h => by rw [hb] at h; cases h)
theorem W.condF' {c : Operand} {x y : Code} {b : Bool} (hc : ev e c = .bool b) (hb : b = false) (hf : W P y Q n e w) : W P (.cond c x y) Q n e w :=
  W.cond hc (fun h => by rw [hb] at h; cases h) (fun _ => hf)
theorem W.block {id : Nat} {c : Code} (h : W P c (blk id Q) n e w) : W P (.block id c) Q n e w :=
  ⟨fun D a ha => wp_block (wp_mono (h.out D a ha) fun x a w ⟨e', hr, hq⟩ => by
    cases x with
    | exit i =>
      simp only [Exit.inBlock]
      simp only [blk] at hq
      by_cases hi : i = id
      · subst hi; simp at hq; simp; exact ⟨e', hr, hq⟩
      · have : Nat.beq i id = false := beq_false hi
        rw [if_neg hi]; rw [this] at hq; exact ⟨e', hr, hq⟩
    | _ => exact ⟨e', hr, hq⟩)⟩

theorem W.exit {id : Nat} (h : Q (.exit id) e w) : W P (.exit id) Q n e w := ⟨fun D _ ha => wp_exit ⟨e, ha, h⟩⟩
theorem W.ret (h : Q .ret e w) : W P .ret Q n e w := ⟨fun D _ ha => wp_ret ⟨e, ha, h⟩⟩
theorem W.skip (h : Q .normal e w) : W P .skip Q n e w := ⟨fun D _ ha => wp_skip ⟨e, ha, h⟩⟩
theorem W.mono {c : Code} {Q' : Exit → Env → World → Prop} (h : W P c Q' n e w) (hq : ∀ x e w, Q' x e w → Q x e w) : W P c Q n e w :=
  ⟨fun D a ha => wp_mono (h.out D a ha) fun x _ w ⟨e', hr, h'⟩ => ⟨e', hr, hq x e' w h'⟩⟩

theorem W.loop {c : Code} (I : Env → World → Prop) (m : Env → World → Nat) (h0 : I e w)
    (round : ∀ e w, I e w → W P c (thn (fun e' w' => I e' w' ∧ m e' w' < m e w) Q) n e w) : W P (.loop c) Q n e w := by
  refine ⟨fun D a ha => wp_loop (fun a' w' => ∃ e', Rel D n a' e' ∧ I e' w') (fun a' w' => m (fun i => a'.tmps.getD i undef) w') ⟨e, ha, h0⟩ ?_⟩
  rintro a' w' ⟨e', hr, hI⟩
  refine wp_mono ((round e' w' hI).out D a' hr) fun x a w ⟨e2, hr2, hq⟩ => ?_
  have h1 : (fun i => a'.tmps.getD i undef) = e' := funext hr.get
  have h2 : (fun i => a.tmps.getD i undef) = e2 := funext hr2.get
  cases x <;> first
    | exact ⟨e2, hr2, hq⟩
    | exact ⟨⟨e2, hr2, hq.1⟩, by rw [h1, h2]; exact hq.2⟩

theorem W.region {id : Nat} {l : List Oper} (h : WL P l l Q n e w) : W P (.region id l.toArray false) Q n e w :=
  ⟨fun D a ha => wp_region_lit (h.out D a ha)⟩

theorem WL.nil {all : List Oper} (h : Q .normal e w) : WL P all [] Q n e w := ⟨fun D a ha => ⟨e, ha, h⟩⟩

/-- What one operation does. -/
def OP (P : Program) (e : Env) (op : Op) (ty : TypeId) (w : World) (K : Value → World → Prop) : Prop :=
  match (execOp (ev e) ⟨none, op, ty, "", #[], none⟩).run P w with
  | .ok (.value v) w' => K v w'
  | .ok .skip w' => K undef w'
  | .ok (.enter f args) w' => Calls P f args w' (fun e w'' => match e with | .returned v => K v w'' | _ => False)
  | _ => False

theorem exec_of (ρ : Operand → Value) (o : Oper) : execOp ρ o = execOp ρ ⟨none, o.op, o.type, "", #[], none⟩ := by
  cases o with | mk d op t p a g => cases op <;> rfl

theorem OP.wp {o : Oper} {a : Act} {K : Act → World → Prop} {Q : Exit → Act → World → Prop} (ha : a.eval = ev e) (h : OP P e o.op o.type w (fun v w' => K (a.put o.dst v) w')) : o.wp P a w K Q := by
  unfold Oper.wp
  rw [exec_of, ha]
  unfold OP at h
  revert h
  generalize (execOp (ev e) ⟨none, o.op, o.type, "", #[], none⟩).run P w = r
  intro h
  cases r with
  | ok nx w' =>
    cases nx <;> simp only [Oper.upon] <;> simp only at h <;> first
      | exact h
      | exact h.elim
      | exact Calls.mono h (fun e w'' he => by cases e <;> simp only at he <;> first | exact he | exact he.elim)
  | halt x w' => exact h.elim

theorem OP.mono {op : Op} {ty : TypeId} {K K' : Value → World → Prop} (h : OP P e op ty w K) (hk : ∀ v w', K v w' → K' v w') : OP P e op ty w K' := by
  unfold OP at *
  revert h
  generalize (execOp (ev e) ⟨none, op, ty, "", #[], none⟩).run P w = r
  intro h
  cases r with
  | ok nx w' =>
    cases nx <;> simp only at h ⊢ <;> first
      | exact hk _ _ h
      | exact h
      | exact Calls.mono h (fun e w'' he => by cases e <;> simp only at he ⊢ <;> first | exact hk _ _ he | exact he)
  | halt x w' => exact h

/-- An operation that writes a slot. -/
theorem WL.c {all rest : List Oper} {d : Nat} {op : Op} {ty : TypeId} {pos : String} {after : Array Edge} (hd : Nat.blt d n = true)
    (h : OP P e op ty w (fun v w' => WL P all rest Q n (upd e d v) w')) : WL P all (⟨some d, op, ty, pos, after, none⟩ :: rest) Q n e w :=
  ⟨fun D a ha => wpList_plain rfl fun _ hK => OP.wp ha.ev (h.mono fun v _ hw => hK _ _ (hw.out D _ (ha.put hd v)))⟩
/-- .. that writes none. -/
theorem WL.u {all rest : List Oper} {op : Op} {ty : TypeId} {pos : String} {after : Array Edge}
    (h : OP P e op ty w (fun _ w' => WL P all rest Q n e w')) : WL P all (⟨none, op, ty, pos, after, none⟩ :: rest) Q n e w :=
  ⟨fun D a ha => wpList_plain rfl fun _ hK => OP.wp ha.ev (h.mono fun _ _ hw => hK _ _ (hw.out D _ ha))⟩

theorem wpList_mono' {ops : Array Oper} {Q Q' : Exit → Act → World → Prop} (hq : ∀ x a w, Q x a w → Q' x a w) : ∀ (l : List Oper) (a : Act) (w : World), wpList P ops Q l a w → wpList P ops Q' l a w := by
  intro l
  induction l with
  | nil => intro a w h; exact hq _ _ _ h
  | cons o l ih =>
    intro a w h
    simp only [wpList] at h ⊢
    split
    · rename_i hw
      rw [if_pos hw] at h
      refine h.imp (fun h => ?_) (fun ⟨h1, ⟨a, w, h2⟩⟩ => ⟨h1, a, w, hq _ _ _ h2⟩)
      unfold Oper.wp at *
      generalize (execOp a.eval o).run P w = r at *
      cases r with
      | ok nx w' =>
        cases nx <;> simp only [Oper.upon] at h ⊢ <;> first
          | exact ih _ _ h
          | exact Calls.mono h (fun e w'' he => by cases e <;> simp only at he ⊢ <;> first | exact ih _ _ he | exact hq _ _ _ he | (obtain ⟨a, w, h2⟩ := he; exact ⟨a, w, hq _ _ _ h2⟩))
          | exact Rows.mono h (fun _ _ he => ih _ _ he)
          | exact h
      | halt x w' => cases x <;> simp only [Oper.upon] at h ⊢ <;> first | exact hq _ _ _ h | exact h
    · rename_i hw
      rw [if_neg hw] at h
      exact ih _ _ h

/-- The slot of operation number j. -/
def slotOf (all : List Oper) (j : Nat) : Option Nat := (all[j]?).bind (·.dst)
def gbool (e : Env) (all : List Oper) (j : Nat) : Value := match slotOf all j with | some d => e d | none => undef

theorem yielded_of {all : List Oper} {j : Nat} {b : Bool} {a : Act} (ha : Rel D n a e) (h : gbool e all j = .bool b) : yielded all.toArray a.tmps j = some b := by
  unfold gbool slotOf at h
  unfold yielded
  simp only [List.getElem?_toArray]
  cases hs : (all[j]?).bind (·.dst) with
  | none => rw [hs] at h; simp [undef] at h
  | some d =>
    rw [hs] at h
    simp only at h
    have hg := ha.get d
    simp only [Option.bind_some]
    rw [Array.getD_eq_getD_getElem?] at hg
    cases ht : a.tmps[d]? with
    | none => rw [ht] at hg; simp at hg; rw [← hg] at h; simp [undef] at h
    | some v => rw [ht] at hg; simp at hg; subst hg; rw [h]

/-- A guarded operation that is wanted. -/
theorem WL.g {all rest : List Oper} {d j : Nat} {b b' : Bool} {op : Op} {ty : TypeId} {pos : String} {after : Array Edge} (hg : gbool e all j = .bool b') (hb : b' = b) (hd : Nat.blt d n = true)
    (h : OP P e op ty w (fun v w' => WL P all rest Q n (upd e d v) w')) : WL P all (⟨some d, op, ty, pos, after, some (j, b)⟩ :: rest) Q n e w :=
  ⟨fun D a ha => by
    refine wpList_step fun K hK => ?_
    rw [if_pos (by simp [Region.wanted, yielded_of ha hg, hb])]
    exact OP.wp ha.ev (h.mono fun v _ hw => hK _ _ (hw.out D _ (ha.put hd v)))⟩
/-- .. that is not. -/
theorem WL.s {all rest : List Oper} {d j : Nat} {b b' : Bool} {op : Op} {ty : TypeId} {pos : String} {after : Array Edge} (hg : gbool e all j = .bool b') (hb : b' = !b) (hd : Nat.blt d n = true)
    (h : WL P all rest Q n (upd e d undef) w) : WL P all (⟨some d, op, ty, pos, after, some (j, b)⟩ :: rest) Q n e w :=
  ⟨fun D a ha => by
    refine wpList_step fun K hK => ?_
    rw [if_neg (by subst hb; simp [Region.wanted, yielded_of ha hg])]
    exact hK _ _ (h.out D _ (ha.put hd undef))⟩
/-- .. whose guard has itself not come up. -/
theorem yielded_undef {all : List Oper} {j : Nat} {a : Act} (ha : Rel D n a e) (h : gbool e all j = undef) : yielded all.toArray a.tmps j = none := by
  unfold gbool slotOf at h
  unfold yielded
  simp only [List.getElem?_toArray]
  cases hs : (all[j]?).bind (·.dst) with
  | none => rfl
  | some d =>
    rw [hs] at h
    simp only at h
    have hg := ha.get d
    simp only [Option.bind_some]
    rw [Array.getD_eq_getD_getElem?, h] at hg
    cases ht : a.tmps[d]? with
    | none => rfl
    | some v => rw [ht] at hg; simp at hg; subst hg; rfl
theorem WL.z {all rest : List Oper} {d j : Nat} {b : Bool} {op : Op} {ty : TypeId} {pos : String} {after : Array Edge} (hg : gbool e all j = undef) (hd : Nat.blt d n = true)
    (h : WL P all rest Q n (upd e d undef) w) : WL P all (⟨some d, op, ty, pos, after, some (j, b)⟩ :: rest) Q n e w :=
  ⟨fun D a ha => by
    refine wpList_step fun K hK => ?_
    rw [if_neg (by simp [Region.wanted, yielded_undef ha hg])]
    exact hK _ _ (h.out D _ (ha.put hd undef))⟩
/-- Both ways of a guard. -/
theorem WL.sp {all l : List Oper} (j : Nat) {b : Bool} (_hg : gbool e all j = .bool b) (ht : b = true → WL P all l Q n e w) (hf : b = false → WL P all l Q n e w) : WL P all l Q n e w := by
  cases b
  · exact hf rfl
  · exact ht rfl
/-- A cut behind a region, or behind any piece: what is known of the frame there. -/
theorem WL.cut {all l : List Oper} (M : Env → World → Prop) (h : WL P all l (fun x e' w' => match x with | .normal => M e' w' | _ => False) n e w) (k : ∀ e' w', M e' w' → Q .normal e' w') : WL P all l Q n e w := by
  refine ⟨fun D a ha => ?_⟩
  have h1 := h.out D a ha
  refine wpList_mono' (fun x a w hx => ?_) l a w h1
  obtain ⟨e', hr, hq⟩ := hx
  cases x <;> first | exact ⟨e', hr, k _ _ hq⟩ | exact hq.elim
theorem W.cut {c : Code} (M : Env → World → Prop) (h : W P c (thn M Q) n e w) (k : ∀ e' w', M e' w' → Q .normal e' w') : W P c Q n e w :=
  h.mono fun x e' w' hx => by cases x <;> first | exact k _ _ hx | exact hx

end

/-- A call, from its body. -/
structure Rt (fn : Func) (P : Program) (R : Value → World → Prop) (e : Env) (w : World) : Prop where
  out : ∀ D a, Rel D fn.ntmps a e → ∃ v, (results fn a.tmps).run P w = .ok v w ∧ R v w
def post (fn : Func) (P : Program) (R : Value → World → Prop) : Exit → Env → World → Prop
  | .normal, e, w | .ret, e, w => Rt fn P R e w
  | _, _, _ => False

theorem calls_of {P : Program} {f : FuncId} {fn : Func} {c : Code} {l : List Value} {w : World} {R : Ending → World → Prop} {R' : Value → World → Prop} {n : Nat} (hf : P.funcs[f]? = some fn) (hb : fn.body = some c) (hm : fn.ntmps = n)
    (hn : Nat.ble l.length n = true) (hR : ∀ v w, R' v w → R (.returned v) w) (h : W P c (post fn P R') n (envOf l) w) : Calls P f l.toArray w R := by
  subst hm
  have hn' : l.length ≤ fn.ntmps := by simpa using hn
  refine calls_of_wp hf hb (wp_mono (h.out [] _ ?_) ?_)
  · have := Rel.mk' l (fn.ntmps - l.length)
    rw [Nat.add_sub_cancel' hn'] at this
    simpa using this
  · rintro x a w ⟨e', hr, hq⟩
    cases x <;> simp only [post] at hq <;> first
      | exact hq.elim
      | (obtain ⟨v, h1, h2⟩ := hq.out _ a hr; exact ⟨hr.defers, v, h1, hR _ _ h2⟩)

/-- What the function hands back: no result, one, two, three. -/
theorem ret0 {fn : Func} {P : Program} {R : Value → World → Prop} {e : Env} {w : World} (hr : fn.results = #[]) (h : R (.tuple #[]) w) : Rt fn P R e w :=
  ⟨fun _ _ _ => ⟨_, results_none hr _ _ _, h⟩⟩
theorem ret1 {fn : Func} {P : Program} {R : Value → World → Prop} {e : Env} {w : World} {t : Tmp} (hr : fn.results = #[.tmp t]) (h : R (e t) w) : Rt fn P R e w :=
  ⟨fun D a ha => ⟨_, results_tmp hr _ _ _, by rw [ha.get]; exact h⟩⟩
theorem ret1v {fn : Func} {P : Program} {R : Value → World → Prop} {e : Env} {w : World} {t : Tmp} {v : Value} (hr : fn.results = #[.tmp t]) (hv : e t = v) (h : R v w) : Rt fn P R e w := ret1 hr (by rw [hv]; exact h)
theorem ret2 {fn : Func} {P : Program} {R : Value → World → Prop} {e : Env} {w : World} {t u : Tmp} (hr : fn.results = #[.tmp t, .tmp u]) (h : R (.tuple #[e t, e u]) w) : Rt fn P R e w :=
  ⟨fun D a ha => ⟨_, results_tmp2 hr _ _ _, by rw [ha.get, ha.get]; exact h⟩⟩
theorem ret2v {fn : Func} {P : Program} {R : Value → World → Prop} {e : Env} {w : World} {t u : Tmp} {v1 v2 : Value} (hr : fn.results = #[.tmp t, .tmp u]) (h1 : e t = v1) (h2 : e u = v2) (h : R (.tuple #[v1, v2]) w) : Rt fn P R e w := ret2 hr (by rw [h1, h2]; exact h)
theorem ret3 {fn : Func} {P : Program} {R : Value → World → Prop} {e : Env} {w : World} {t u x : Tmp} (hr : fn.results = #[.tmp t, .tmp u, .tmp x]) (h : R (.tuple #[e t, e u, e x]) w) : Rt fn P R e w :=
  ⟨fun D a ha => ⟨_, results_tmp3 hr _ _ _, by rw [ha.get, ha.get, ha.get]; exact h⟩⟩
theorem ret3v {fn : Func} {P : Program} {R : Value → World → Prop} {e : Env} {w : World} {t u x : Tmp} {v1 v2 v3 : Value} (hr : fn.results = #[.tmp t, .tmp u, .tmp x]) (h1 : e t = v1) (h2 : e u = v2) (h3 : e x = v3) (h : R (.tuple #[v1, v2, v3]) w) : Rt fn P R e w := ret3 hr (by rw [h1, h2, h3]; exact h)

end Go.Vc
