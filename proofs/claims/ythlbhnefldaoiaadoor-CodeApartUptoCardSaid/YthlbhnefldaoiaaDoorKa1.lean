/-
  Walks and lemmas. Written by program out of specs of mine.
-/
import Derived.WalkKit
import Derived.WalkSpells
import Derived.WalkLawsBesides
import Derived.Deep.Quiet
import Derived.StillTail
import Derived.StringKeys
import Derived.Laws.StructEq
import Derived.Laws.Externs
import Derived.Laws.Tables
import Derived.Scope
import Derived.Laws.AppendOwn
import Derived.Maps.AppendAt
import Derived.Recover
import Derived.Test.YthlbhnefldaoiaaDoorProg
import Derived.Shelf.Strconv.Itoa0
import Derived.Shelf.Strconv.Itoa1
import Derived.Shelf.LaysM
import Derived.Shelf.Strconv.Itoa2
import Derived.Shelf.Strconv.Itoa3
import Derived.Shelf.Strings.Builder1
import Derived.Shelf.Strings.OnBuilder
import Derived.Lib.Builder
import Derived.Lib.UnsafeStr
import Derived.Lib.ItoaLen
import Derived.SizedLaws
import Derived.ChangeArms
import Derived.ChangeSlices
import Derived.Lib.ConvBytes
import Derived.Test.YthlbhnefldaoiaaDoorRows
import Derived.ProofKit
import Derived.OpenShut
import Derived.ShutString
import Derived.ChangeOld
import Derived.Below
import Derived.JoinedCond
import Derived.SliceStrings
import Derived.Test.YthlbhnefldaoiaaDoorCards
import Derived.Test.YthlbhnefldaoiaaDoorTie
import Derived.Deep.DeepHandedRow
import Derived.Lib.LaidTab
set_option linter.unusedSimpArgs false
set_option linter.unusedVariables false
set_option maxRecDepth 100000
set_option linter.unusedSimpArgs false
set_option linter.unusedVariables false
namespace Go.Vc
open Go Go.RowKit
variable {D : List Deferred}

abbrev Env := Nat → Value
theorem beq_false {i d : Nat} (h : ¬ i = d) : Nat.beq i d = false := by
  cases hb : Nat.beq i d with
  | false => rfl
  | true => exact absurd (Nat.eq_of_beq_eq_true hb) h
def upd (e : Env) (d : Nat) (v : Value) : Env := fun i => match Nat.beq i d with | true => v | false => e i

structure Rel (D : List Deferred) (n : Nat) (a : Act) (e : Env) : Prop where
  defers : a.defers = D
  size : a.tmps.size = n
  get : ∀ i, a.tmps.getD i undef = e i

def ev (e : Env) : Operand → Value
  | .tmp t => e t
  | .const v => v
  | .global g => .pointer (some ⟨g, 0, none⟩)
  | .func f => .func (.func f) #[] #[]

theorem Rel.ev {n : Nat} {a : Act} {e : Env} (h : Rel D n a e) : a.eval = ev e := by
  funext x
  cases x <;> simp [Act.eval, Vc.ev, ← h.get]

theorem Rel.put {n : Nat} {a : Act} {e : Env} (h : Rel D n a e) {d : Nat} (hd : Nat.blt d n = true) (v : Value) : Rel D n (a.put (some d) v) (upd e d v) := by
  have hd' : d < n := by simpa using hd
  refine ⟨h.defers, by simp [Act.put, h.size], fun i => ?_⟩
  have hg := h.get i
  have hsz := h.size
  simp only [Act.put, upd, Array.getD_eq_getD_getElem?, Array.getElem?_setIfInBounds] at *
  by_cases hi : i = d
  · subst hi; rw [if_pos rfl, if_pos (by omega)]; simp
  · have : Nat.beq i d = false := beq_false hi
    rw [if_neg (by omega)]
    simp [this, hg]

def envOf : List Value → Env
  | [], _ => undef
  | v :: _, 0 => v
  | _ :: l, i + 1 => envOf l i
theorem envOf_eq (l : List Value) : ∀ i, envOf l i = l[i]?.getD undef := by
  induction l with
  | nil => intro i; rfl
  | cons v l ih => intro i; cases i with
    | zero => rfl
    | succ i => simpa [envOf] using ih i

theorem Rel.mk' (l : List Value) (m : Nat) : Rel [] (l.length + m) { tmps := l.toArray ++ Array.replicate m undef, defers := [] } (envOf l) := by
  refine ⟨rfl, by simp, fun i => ?_⟩
  rw [envOf_eq]
  simp only [Array.getD_eq_getD_getElem?, Array.getElem?_append, Array.getElem?_replicate]
  by_cases h : i < l.length
  · simp [h]
  · simp [h]; split <;> rfl

def lift (D : List Deferred) (n : Nat) (Q : Exit → Env → World → Prop) : Exit → Act → World → Prop := fun x a w => ∃ e', Rel D n a e' ∧ Q x e' w

structure W (P : Program) (c : Code) (Q : Exit → Env → World → Prop) (n : Nat) (e : Env) (w : World) : Prop where
  out : ∀ D a, Rel D n a e → c.wp P (lift D n Q) a w

structure WL (P : Program) (all l : List Oper) (Q : Exit → Env → World → Prop) (n : Nat) (e : Env) (w : World) : Prop where
  out : ∀ D a, Rel D n a e → wpList P all.toArray (lift D n Q) l a w

def thn (K : Env → World → Prop) (Q : Exit → Env → World → Prop) : Exit → Env → World → Prop
  | .normal, e, w => K e w
  | x, e, w => Q x e w

def blk (id : Nat) (Q : Exit → Env → World → Prop) : Exit → Env → World → Prop
  | .exit i, e, w => match Nat.beq i id with | true => Q .normal e w | false => Q (.exit i) e w
  | x, e, w => Q x e w

section
variable {P : Program} {Q : Exit → Env → World → Prop} {n : Nat} {e : Env} {w : World}

theorem W.seq {x y : Code} (h : W P x (thn (fun e w => W P y Q n e w) Q) n e w) : W P (.seq x y) Q n e w :=
  ⟨fun D a ha => wp_seq (wp_mono (h.out D a ha) fun x a w ⟨e', hr, hq⟩ => by
    cases x <;> first | exact hq.out D a hr | exact ⟨e', hr, hq⟩)⟩

theorem W.cond {c : Operand} {x y : Code} {b : Bool} (hc : ev e c = .bool b) (ht : b = true → W P x Q n e w) (hf : b = false → W P y Q n e w) : W P (.cond c x y) Q n e w :=
  ⟨fun D a ha => wp_cond_split (by rw [ha.ev]; exact hc) (fun h => (ht h).out D a ha) (fun h => (hf h).out D a ha)⟩
theorem W.condT' {c : Operand} {x y : Code} {b : Bool} (hc : ev e c = .bool b) (hb : b = true) (ht : W P x Q n e w) : W P (.cond c x y) Q n e w :=
  W.cond hc (fun _ => ht) (fun h => by rw [hb] at h; cases h)
theorem W.condF' {c : Operand} {x y : Code} {b : Bool} (hc : ev e c = .bool b) (hb : b = false) (hf : W P y Q n e w) : W P (.cond c x y) Q n e w :=
  W.cond hc (fun h => by rw [hb] at h; cases h) (fun _ => hf)
theorem W.block {id : Nat} {c : Code} (h : W P c (blk id Q) n e w) : W P (.block id c) Q n e w :=
  ⟨fun D a ha => wp_block (wp_mono (h.out D a ha) fun x a w ⟨e', hr, hq⟩ => by
    cases x with
    | exit i =>
      simp only [Exit.inBlock]
      simp only [blk] at hq
      by_cases hi : i = id
      · subst hi; simp at hq; simp; exact ⟨e', hr, hq⟩
      · have : Nat.beq i id = false := beq_false hi
        rw [if_neg hi]; rw [this] at hq; exact ⟨e', hr, hq⟩
    | _ => exact ⟨e', hr, hq⟩)⟩

theorem W.exit {id : Nat} (h : Q (.exit id) e w) : W P (.exit id) Q n e w := ⟨fun D _ ha => wp_exit ⟨e, ha, h⟩⟩
theorem W.ret (h : Q .ret e w) : W P .ret Q n e w := ⟨fun D _ ha => wp_ret ⟨e, ha, h⟩⟩
theorem W.skip (h : Q .normal e w) : W P .skip Q n e w := ⟨fun D _ ha => wp_skip ⟨e, ha, h⟩⟩
theorem W.mono {c : Code} {Q' : Exit → Env → World → Prop} (h : W P c Q' n e w) (hq : ∀ x e w, Q' x e w → Q x e w) : W P c Q n e w :=
  ⟨fun D a ha => wp_mono (h.out D a ha) fun x _ w ⟨e', hr, h'⟩ => ⟨e', hr, hq x e' w h'⟩⟩

theorem W.loop {c : Code} (I : Env → World → Prop) (m : Env → World → Nat) (h0 : I e w)
    (round : ∀ e w, I e w → W P c (thn (fun e' w' => I e' w' ∧ m e' w' < m e w) Q) n e w) : W P (.loop c) Q n e w := by
  refine ⟨fun D a ha => wp_loop (fun a' w' => ∃ e', Rel D n a' e' ∧ I e' w') (fun a' w' => m (fun i => a'.tmps.getD i undef) w') ⟨e, ha, h0⟩ ?_⟩
  rintro a' w' ⟨e', hr, hI⟩
  refine wp_mono ((round e' w' hI).out D a' hr) fun x a w ⟨e2, hr2, hq⟩ => ?_
  have h1 : (fun i => a'.tmps.getD i undef) = e' := funext hr.get
  have h2 : (fun i => a.tmps.getD i undef) = e2 := funext hr2.get
  cases x <;> first
    | exact ⟨e2, hr2, hq⟩
    | exact ⟨⟨e2, hr2, hq.1⟩, by rw [h1, h2]; exact hq.2⟩

theorem W.region {id : Nat} {l : List Oper} (h : WL P l l Q n e w) : W P (.region id l.toArray false) Q n e w :=
  ⟨fun D a ha => wp_region_lit (h.out D a ha)⟩

theorem WL.nil {all : List Oper} (h : Q .normal e w) : WL P all [] Q n e w := ⟨fun D a ha => ⟨e, ha, h⟩⟩

/-- What one operation does. -/
def OP (P : Program) (e : Env) (op : Op) (ty : TypeId) (w : World) (K : Value → World → Prop) : Prop :=
  match (execOp (ev e) ⟨none, op, ty, "", #[], none⟩).run P w with
  | .ok (.value v) w' => K v w'
  | .ok .skip w' => K undef w'
  | .ok (.enter f args) w' => Calls P f args w' (fun e w'' => match e with | .returned v => K v w'' | _ => False)
  | _ => False

theorem exec_of (ρ : Operand → Value) (o : Oper) : execOp ρ o = execOp ρ ⟨none, o.op, o.type, "", #[], none⟩ := by
  cases o with | mk d op t p a g => cases op <;> rfl

theorem OP.wp {o : Oper} {a : Act} {K : Act → World → Prop} {Q : Exit → Act → World → Prop} (ha : a.eval = ev e) (h : OP P e o.op o.type w (fun v w' => K (a.put o.dst v) w')) : o.wp P a w K Q := by
  unfold Oper.wp
  rw [exec_of, ha]
  unfold OP at h
  revert h
  generalize (execOp (ev e) ⟨none, o.op, o.type, "", #[], none⟩).run P w = r
  intro h
  cases r with
  | ok nx w' =>
    cases nx <;> simp only [Oper.upon] <;> simp only at h <;> first
      | exact h
      | exact h.elim
      | exact Calls.mono h (fun e w'' he => by cases e <;> simp only at he <;> first | exact he | exact he.elim)
  | halt x w' => exact h.elim

theorem OP.mono {op : Op} {ty : TypeId} {K K' : Value → World → Prop} (h : OP P e op ty w K) (hk : ∀ v w', K v w' → K' v w') : OP P e op ty w K' := by
  unfold OP at *
  revert h
  generalize (execOp (ev e) ⟨none, op, ty, "", #[], none⟩).run P w = r
  intro h
  cases r with
  | ok nx w' =>
    cases nx <;> simp only at h ⊢ <;> first
      | exact hk _ _ h
      | exact h
      | exact Calls.mono h (fun e w'' he => by cases e <;> simp only at he ⊢ <;> first | exact hk _ _ he | exact he)
  | halt x w' => exact h

/-- An operation that writes a slot. -/
theorem WL.c {all rest : List Oper} {d : Nat} {op : Op} {ty : TypeId} {pos : String} {after : Array Edge} (hd : Nat.blt d n = true)
    (h : OP P e op ty w (fun v w' => WL P all rest Q n (upd e d v) w')) : WL P all (⟨some d, op, ty, pos, after, none⟩ :: rest) Q n e w :=
  ⟨fun D a ha => wpList_plain rfl fun _ hK => OP.wp ha.ev (h.mono fun v _ hw => hK _ _ (hw.out D _ (ha.put hd v)))⟩
/-- .. that writes none. -/
theorem WL.u {all rest : List Oper} {op : Op} {ty : TypeId} {pos : String} {after : Array Edge}
    (h : OP P e op ty w (fun _ w' => WL P all rest Q n e w')) : WL P all (⟨none, op, ty, pos, after, none⟩ :: rest) Q n e w :=
  ⟨fun D a ha => wpList_plain rfl fun _ hK => OP.wp ha.ev (h.mono fun _ _ hw => hK _ _ (hw.out D _ ha))⟩

theorem wpList_mono' {ops : Array Oper} {Q Q' : Exit → Act → World → Prop} (hq : ∀ x a w, Q x a w → Q' x a w) : ∀ (l : List Oper) (a : Act) (w : World), wpList P ops Q l a w → wpList P ops Q' l a w := by
  intro l
  induction l with
  | nil => intro a w h; exact hq _ _ _ h
  | cons o l ih =>
    intro a w h
    simp only [wpList] at h ⊢
    split
    · rename_i hw
      rw [if_pos hw] at h
      refine h.imp (fun h => ?_) (fun ⟨h1, ⟨a, w, h2⟩⟩ => ⟨h1, a, w, hq _ _ _ h2⟩)
      unfold Oper.wp at *
      generalize (execOp a.eval o).run P w = r at *
      cases r with
      | ok nx w' =>
        cases nx <;> simp only [Oper.upon] at h ⊢ <;> first
          | exact ih _ _ h
          | exact Calls.mono h (fun e w'' he => by cases e <;> simp only at he ⊢ <;> first | exact ih _ _ he | exact hq _ _ _ he | (obtain ⟨a, w, h2⟩ := he; exact ⟨a, w, hq _ _ _ h2⟩))
          | exact Rows.mono h (fun _ _ he => ih _ _ he)
          | exact h
      | halt x w' => cases x <;> simp only [Oper.upon] at h ⊢ <;> first | exact hq _ _ _ h | exact h
    · rename_i hw
      rw [if_neg hw] at h
      exact ih _ _ h

/-- The slot of operation number j. -/
def slotOf (all : List Oper) (j : Nat) : Option Nat := (all[j]?).bind (·.dst)
def gbool (e : Env) (all : List Oper) (j : Nat) : Value := match slotOf all j with | some d => e d | none => undef

theorem yielded_of {all : List Oper} {j : Nat} {b : Bool} {a : Act} (ha : Rel D n a e) (h : gbool e all j = .bool b) : yielded all.toArray a.tmps j = some b := by
  unfold gbool slotOf at h
  unfold yielded
  simp only [List.getElem?_toArray]
  cases hs : (all[j]?).bind (·.dst) with
  | none => rw [hs] at h; simp [undef] at h
  | some d =>
    rw [hs] at h
    simp only at h
    have hg := ha.get d
    simp only [Option.bind_some]
    rw [Array.getD_eq_getD_getElem?] at hg
    cases ht : a.tmps[d]? with
    | none => rw [ht] at hg; simp at hg; rw [← hg] at h; simp [undef] at h
    | some v => rw [ht] at hg; simp at hg; subst hg; rw [h]

/-- A guarded operation that is wanted. -/
theorem WL.g {all rest : List Oper} {d j : Nat} {b b' : Bool} {op : Op} {ty : TypeId} {pos : String} {after : Array Edge} (hg : gbool e all j = .bool b') (hb : b' = b) (hd : Nat.blt d n = true)
    (h : OP P e op ty w (fun v w' => WL P all rest Q n (upd e d v) w')) : WL P all (⟨some d, op, ty, pos, after, some (j, b)⟩ :: rest) Q n e w :=
  ⟨fun D a ha => by
    refine wpList_step fun K hK => ?_
    rw [if_pos (by simp [Region.wanted, yielded_of ha hg, hb])]
    exact OP.wp ha.ev (h.mono fun v _ hw => hK _ _ (hw.out D _ (ha.put hd v)))⟩
/-- .. that is not. -/
theorem WL.s {all rest : List Oper} {d j : Nat} {b b' : Bool} {op : Op} {ty : TypeId} {pos : String} {after : Array Edge} (hg : gbool e all j = .bool b') (hb : b' = !b) (hd : Nat.blt d n = true)
    (h : WL P all rest Q n (upd e d undef) w) : WL P all (⟨some d, op, ty, pos, after, some (j, b)⟩ :: rest) Q n e w :=
  ⟨fun D a ha => by
    refine wpList_step fun K hK => ?_
    rw [if_neg (by subst hb; simp [Region.wanted, yielded_of ha hg])]
    exact hK _ _ (h.out D _ (ha.put hd undef))⟩
/-- .. whose guard has itself not come up. -/
theorem yielded_undef {all : List Oper} {j : Nat} {a : Act} (ha : Rel D n a e) (h : gbool e all j = undef) : yielded all.toArray a.tmps j = none := by
  unfold gbool slotOf at h
  unfold yielded
  simp only [List.getElem?_toArray]
  cases hs : (all[j]?).bind (·.dst) with
  | none => rfl
  | some d =>
    rw [hs] at h
    simp only at h
    have hg := ha.get d
    simp only [Option.bind_some]
    rw [Array.getD_eq_getD_getElem?, h] at hg
    cases ht : a.tmps[d]? with
    | none => rfl
    | some v => rw [ht] at hg; simp at hg; subst hg; rfl
theorem WL.z {all rest : List Oper} {d j : Nat} {b : Bool} {op : Op} {ty : TypeId} {pos : String} {after : Array Edge} (hg : gbool e all j = undef) (hd : Nat.blt d n = true)
    (h : WL P all rest Q n (upd e d undef) w) : WL P all (⟨some d, op, ty, pos, after, some (j, b)⟩ :: rest) Q n e w :=
  ⟨fun D a ha => by
    refine wpList_step fun K hK => ?_
    rw [if_neg (by simp [Region.wanted, yielded_undef ha hg])]
    exact hK _ _ (h.out D _ (ha.put hd undef))⟩
/-- Both ways of a guard. -/
theorem WL.sp {all l : List Oper} (j : Nat) {b : Bool} (_hg : gbool e all j = .bool b) (ht : b = true → WL P all l Q n e w) (hf : b = false → WL P all l Q n e w) : WL P all l Q n e w := by
  cases b
  · exact hf rfl
  · exact ht rfl
/-- A cut behind a region, or behind any piece: what is known of the frame there. -/
theorem WL.cut {all l : List Oper} (M : Env → World → Prop) (h : WL P all l (fun x e' w' => match x with | .normal => M e' w' | _ => False) n e w) (k : ∀ e' w', M e' w' → Q .normal e' w') : WL P all l Q n e w := by
  refine ⟨fun D a ha => ?_⟩
  have h1 := h.out D a ha
  refine wpList_mono' (fun x a w hx => ?_) l a w h1
  obtain ⟨e', hr, hq⟩ := hx
  cases x <;> first | exact ⟨e', hr, k _ _ hq⟩ | exact hq.elim
theorem W.cut {c : Code} (M : Env → World → Prop) (h : W P c (thn M Q) n e w) (k : ∀ e' w', M e' w' → Q .normal e' w') : W P c Q n e w :=
  h.mono fun x e' w' hx => by cases x <;> first | exact k _ _ hx | exact hx

end

/-- A call, from its body. -/
structure Rt (fn : Func) (P : Program) (R : Value → World → Prop) (e : Env) (w : World) : Prop where
  out : ∀ D a, Rel D fn.ntmps a e → ∃ v, (results fn a.tmps).run P w = .ok v w ∧ R v w
def post (fn : Func) (P : Program) (R : Value → World → Prop) : Exit → Env → World → Prop
  | .normal, e, w | .ret, e, w => Rt fn P R e w
  | _, _, _ => False

theorem calls_of {P : Program} {f : FuncId} {fn : Func} {c : Code} {l : List Value} {w : World} {R : Ending → World → Prop} {R' : Value → World → Prop} {n : Nat} (hf : P.funcs[f]? = some fn) (hb : fn.body = some c) (hm : fn.ntmps = n)
    (hn : Nat.ble l.length n = true) (hR : ∀ v w, R' v w → R (.returned v) w) (h : W P c (post fn P R') n (envOf l) w) : Calls P f l.toArray w R := by
  subst hm
  have hn' : l.length ≤ fn.ntmps := by simpa using hn
  refine calls_of_wp hf hb (wp_mono (h.out [] _ ?_) ?_)
  · have := Rel.mk' l (fn.ntmps - l.length)
    rw [Nat.add_sub_cancel' hn'] at this
    simpa using this
  · rintro x a w ⟨e', hr, hq⟩
    cases x <;> simp only [post] at hq <;> first
      | exact hq.elim
      | (obtain ⟨v, h1, h2⟩ := hq.out _ a hr; exact ⟨hr.defers, v, h1, hR _ _ h2⟩)

/-- What the function hands back: no result, one, two, three. -/
theorem ret0 {fn : Func} {P : Program} {R : Value → World → Prop} {e : Env} {w : World} (hr : fn.results = #[]) (h : R (.tuple #[]) w) : Rt fn P R e w :=
  ⟨fun _ _ _ => ⟨_, results_none hr _ _ _, h⟩⟩
theorem ret1 {fn : Func} {P : Program} {R : Value → World → Prop} {e : Env} {w : World} {t : Tmp} (hr : fn.results = #[.tmp t]) (h : R (e t) w) : Rt fn P R e w :=
  ⟨fun D a ha => ⟨_, results_tmp hr _ _ _, by rw [ha.get]; exact h⟩⟩
theorem ret1v {fn : Func} {P : Program} {R : Value → World → Prop} {e : Env} {w : World} {t : Tmp} {v : Value} (hr : fn.results = #[.tmp t]) (hv : e t = v) (h : R v w) : Rt fn P R e w := ret1 hr (by rw [hv]; exact h)
theorem ret2 {fn : Func} {P : Program} {R : Value → World → Prop} {e : Env} {w : World} {t u : Tmp} (hr : fn.results = #[.tmp t, .tmp u]) (h : R (.tuple #[e t, e u]) w) : Rt fn P R e w :=
  ⟨fun D a ha => ⟨_, results_tmp2 hr _ _ _, by rw [ha.get, ha.get]; exact h⟩⟩
theorem ret2v {fn : Func} {P : Program} {R : Value → World → Prop} {e : Env} {w : World} {t u : Tmp} {v1 v2 : Value} (hr : fn.results = #[.tmp t, .tmp u]) (h1 : e t = v1) (h2 : e u = v2) (h : R (.tuple #[v1, v2]) w) : Rt fn P R e w := ret2 hr (by rw [h1, h2]; exact h)
theorem ret3 {fn : Func} {P : Program} {R : Value → World → Prop} {e : Env} {w : World} {t u x : Tmp} (hr : fn.results = #[.tmp t, .tmp u, .tmp x]) (h : R (.tuple #[e t, e u, e x]) w) : Rt fn P R e w :=
  ⟨fun D a ha => ⟨_, results_tmp3 hr _ _ _, by rw [ha.get, ha.get, ha.get]; exact h⟩⟩
theorem ret3v {fn : Func} {P : Program} {R : Value → World → Prop} {e : Env} {w : World} {t u x : Tmp} {v1 v2 v3 : Value} (hr : fn.results = #[.tmp t, .tmp u, .tmp x]) (h1 : e t = v1) (h2 : e u = v2) (h3 : e x = v3) (h : R (.tuple #[v1, v2, v3]) w) : Rt fn P R e w := ret3 hr (by rw [h1, h2, h3]; exact h)

end Go.Vc

set_option linter.unusedSimpArgs false
set_option linter.unusedVariables false
namespace Go.Vc
open Go Go.RowKit

structure Ty (P : Program) (t : TypeId) (d : TypeDesc) (size bytes : Nat) (zero : Value) : Prop where
  und : P.underlying t = some d
  info : ∃ i, P.info? t = some i ∧ i.size = size ∧ i.bytes = bytes ∧ i.zero = some zero

def isAggD : TypeDesc → Bool
  | .struct _ | .array _ _ => true
  | _ => false

section
variable {P : Program} {e : Env} {w : World} {K : Value → World → Prop} {ty : TypeId}

theorem Ty.run_und {t d s b z} (h : Ty P t d s b z) (w : World) : (underlying t).run P w = .ok d w := by simp [underlying, program, Sem.run, h.und]
theorem Ty.run_size {t d s b z} (h : Ty P t d s b z) (w : World) : (sizeOf t).run P w = .ok s w := by
  obtain ⟨i, h1, h2, h3, h4⟩ := h.info
  simp [sizeOf, typeInfo, program, Sem.run, h1, h2]
theorem Ty.run_zero {t d s b z} (h : Ty P t d s b z) (w : World) : (zeroValue t).run P w = .ok z w := by
  obtain ⟨i, h1, h2, h3, h4⟩ := h.info
  simp [zeroValue, typeInfo, program, Sem.run, h1, h4]
theorem Ty.run_agg {t d s b z} (h : Ty P t d s b z) (w : World) : (isAgg t).run P w = .ok (isAggD d) w := by
  simp only [isAgg, Sem.run_bind, h.run_und, Result.andThen_ok]
  cases d <;> rfl

theorem OP.of {op : Op} {v : Value} {w' : World} (h : (execOp (ev e) ⟨none, op, ty, "", #[], none⟩).run P w = .ok (.value v) w') (k : K v w') : OP P e op ty w K := by
  unfold OP; rw [h]; exact k
theorem OP.ofS {op : Op} {w' : World} (h : (execOp (ev e) ⟨none, op, ty, "", #[], none⟩).run P w = .ok .skip w') (k : K undef w') : OP P e op ty w K := by
  unfold OP; rw [h]; exact k

theorem o_mv {x : Operand} (k : K (ev e x) w) : OP P e (.move x) ty w K := OP.of rfl k
theorem o_as {x : Operand} (k : K (ev e x) w) : OP P e (.assign x) ty w K := OP.of rfl k
theorem o_mvh {x : Operand} {v : Value} (hx : ev e x = v) (k : K v w) : OP P e (.move x) ty w K := OP.of rfl (by rw [hx]; exact k)
theorem o_ash {x : Operand} {v : Value} (hx : ev e x = v) (k : K v w) : OP P e (.assign x) ty w K := OP.of rfl (by rw [hx]; exact k)
theorem o_pick {c a b : Operand} {t : Bool} (hc : ev e c = .bool t) (k : K (if t then ev e a else ev e b) w) : OP P e (.pick c a b) ty w K :=
  OP.of (by simp [execOp, hc, asBool]) k
/-- Both sides are bools: 'a && b', 'a || b'. -/
theorem o_pickA {c a : Operand} {t u : Bool} (hc : ev e c = .bool t) (ha : ev e a = .bool u) (k : K (.bool (t && u)) w) : OP P e (.pick c a (.const (.bool false))) ty w K :=
  o_pick hc (by cases t <;> simp_all [ev])
theorem o_pickO {c b : Operand} {t u : Bool} (hc : ev e c = .bool t) (hb : ev e b = .bool u) (k : K (.bool (t || u)) w) : OP P e (.pick c (.const (.bool true)) b) ty w K :=
  o_pick hc (by cases t <;> simp_all [ev])
theorem o_pickF {c a : Operand} {t : Bool} (hc : ev e c = .bool t) (ht : t = false) (k : K (.bool false) w) : OP P e (.pick c a (.const (.bool false))) ty w K :=
  o_pick hc (by subst ht; simpa [ev] using k)
theorem o_pickT {c b : Operand} {t : Bool} (hc : ev e c = .bool t) (ht : t = true) (k : K (.bool true) w) : OP P e (.pick c (.const (.bool true)) b) ty w K :=
  o_pick hc (by subst ht; simpa [ev] using k)
theorem o_nil {x : Operand} {a : Addr} (hx : ev e x = .pointer (some a)) (k : K (.pointer (some a)) w) : OP P e (.nilCheck x) ty w K :=
  OP.of (by simp [execOp, hx]) k

section ints
variable {x y : Operand} {t u : TypeId} {k : IntKind} {a b : Int}
theorem o_bin {op : BinOp} {v : Value} (hx : ev e x = .int k a) (hy : ev e y = .int k b) (hop : op ≠ .shl ∧ op ≠ .shr)
    (hv : ∀ w, (match op with | .add | .sub | .mul => Op.intArith op k a b | .quo | .rem => Op.intDiv op k a b | .and | .or | .xor | .andNot => Op.intBits op k a b | _ => Op.intCmp op a b : Sem Value).run P w = .ok v w) (kk : K v w) : OP P e (.binOp op t x y u) ty w K := by
  refine OP.of (v := v) ?_ kk
  have := hv w
  cases op <;> simp_all [execOp, eqGuard, binOp] <;> simp_all
theorem o_add (hx : ev e x = .int k a) (hy : ev e y = .int k b) (kk : K (.int k (k.wrap (a + b))) w) : OP P e (.binOp .add t x y u) ty w K :=
  o_bin hx hy (by simp) (fun _ => rfl) kk
theorem o_sub (hx : ev e x = .int k a) (hy : ev e y = .int k b) (kk : K (.int k (k.wrap (a - b))) w) : OP P e (.binOp .sub t x y u) ty w K :=
  o_bin hx hy (by simp) (fun _ => rfl) kk
theorem o_mul (hx : ev e x = .int k a) (hy : ev e y = .int k b) (kk : K (.int k (k.wrap (a * b))) w) : OP P e (.binOp .mul t x y u) ty w K :=
  o_bin hx hy (by simp) (fun _ => rfl) kk
theorem wrap64' (n : Int) (h : -9223372036854775808 ≤ n ∧ n ≤ 9223372036854775807) : IntKind.i64.wrap n = n := IntWalk.i64_in n h
theorem o_addi (hx : ev e x = .int .i64 a) (hy : ev e y = .int .i64 b) (h : -9223372036854775808 ≤ a + b ∧ a + b ≤ 9223372036854775807) (kk : K (.int .i64 (a + b)) w) : OP P e (.binOp .add t x y u) ty w K :=
  o_add hx hy (by rw [wrap64' _ h]; exact kk)
theorem o_subi (hx : ev e x = .int .i64 a) (hy : ev e y = .int .i64 b) (h : -9223372036854775808 ≤ a - b ∧ a - b ≤ 9223372036854775807) (kk : K (.int .i64 (a - b)) w) : OP P e (.binOp .sub t x y u) ty w K :=
  o_sub hx hy (by rw [wrap64' _ h]; exact kk)
theorem o_muli (hx : ev e x = .int .i64 a) (hy : ev e y = .int .i64 b) (h : -9223372036854775808 ≤ a * b ∧ a * b ≤ 9223372036854775807) (kk : K (.int .i64 (a * b)) w) : OP P e (.binOp .mul t x y u) ty w K :=
  o_mul hx hy (by rw [wrap64' _ h]; exact kk)
theorem o_eq (hx : ev e x = .int k a) (hy : ev e y = .int k b) (kk : K (.bool (decide (a = b))) w) : OP P e (.binOp .eql t x y u) ty w K :=
  o_bin hx hy (by simp) (fun _ => rfl) (by rw [show (a == b) = decide (a = b) from rfl]; exact kk)
theorem o_ne (hx : ev e x = .int k a) (hy : ev e y = .int k b) (kk : K (.bool (!decide (a = b))) w) : OP P e (.binOp .neq t x y u) ty w K :=
  o_bin hx hy (by simp) (fun _ => rfl) (by rw [show (a != b) = !decide (a = b) from rfl]; exact kk)
theorem o_lt (hx : ev e x = .int k a) (hy : ev e y = .int k b) (kk : K (.bool (decide (a < b))) w) : OP P e (.binOp .lss t x y u) ty w K :=
  o_bin hx hy (by simp) (fun _ => rfl) kk
theorem o_le (hx : ev e x = .int k a) (hy : ev e y = .int k b) (kk : K (.bool (decide (a ≤ b))) w) : OP P e (.binOp .leq t x y u) ty w K :=
  o_bin hx hy (by simp) (fun _ => rfl) kk
theorem o_gt (hx : ev e x = .int k a) (hy : ev e y = .int k b) (kk : K (.bool (decide (b < a))) w) : OP P e (.binOp .gtr t x y u) ty w K :=
  o_bin hx hy (by simp) (fun _ => rfl) kk
theorem o_ge (hx : ev e x = .int k a) (hy : ev e y = .int k b) (kk : K (.bool (decide (b ≤ a))) w) : OP P e (.binOp .geq t x y u) ty w K :=
  o_bin hx hy (by simp) (fun _ => rfl) kk
theorem o_rem (hx : ev e x = .int k a) (hy : ev e y = .int k b) (hb : b ≠ 0) (kk : K (.int k (a.tmod b)) w) : OP P e (.binOp .rem t x y u) ty w K :=
  o_bin hx hy (by simp) (fun _ => by simp [Op.intDiv, hb]) kk
theorem o_and (hx : ev e x = .int k a) (hy : ev e y = .int k b) (kk : K (.int k (k.wrap (BitVec.ofInt k.bits a &&& BitVec.ofInt k.bits b).toNat)) w) : OP P e (.binOp .and t x y u) ty w K :=
  o_bin hx hy (by simp) (fun _ => rfl) kk
theorem o_or (hx : ev e x = .int k a) (hy : ev e y = .int k b) (kk : K (.int k (k.wrap (BitVec.ofInt k.bits a ||| BitVec.ofInt k.bits b).toNat)) w) : OP P e (.binOp .or t x y u) ty w K :=
  o_bin hx hy (by simp) (fun _ => rfl) kk
theorem o_shl {k' : IntKind} (hx : ev e x = .int k a) (hy : ev e y = .int k' b) (hb : 0 ≤ b) (kk : K (.int k (k.wrap (a * 2 ^ (min b.toNat k.bits)))) w) : OP P e (.binOp .shl t x y u) ty w K :=
  OP.of (by simp [execOp, eqGuard, binOp, hx, hy, Op.shift, show ¬ b < 0 by omega]) kk
theorem o_shr {k' : IntKind} (hx : ev e x = .int k a) (hy : ev e y = .int k' b) (hb : 0 ≤ b) (kk : K (.int k (a.fdiv (2 ^ (min b.toNat k.bits)))) w) : OP P e (.binOp .shr t x y u) ty w K :=
  OP.of (by simp [execOp, eqGuard, binOp, hx, hy, Op.shift, show ¬ b < 0 by omega]) kk
end ints

/-- unsigned numbers, asx natural numbers -/
abbrev ubits : IntKind → Nat
  | .u8 => 8 | .u16 => 16 | .u32 => 32 | .u64 => 64 | _ => 0
theorem wrapU {k : IntKind} (hk : 0 < ubits k) (a : Nat) : k.wrap (a : Int) = ((a % 2 ^ ubits k : Nat) : Int) := by
  cases k <;> simp [ubits] at hk ⊢ <;> simp [IntKind.wrap, IntKind.signed, IntKind.bits] <;> omega
theorem bits_of {k : IntKind} (hk : 0 < ubits k) : k.bits = ubits k := by cases k <;> first | rfl | (simp [ubits] at hk)
section nats
variable {x y : Operand} {t u : TypeId} {k : IntKind} {a b : Nat}
theorem m_and (hk : 0 < ubits k) (hx : ev e x = .int k (a : Int)) (hy : ev e y = .int k (b : Int)) (ha : a < 2 ^ ubits k) (hb : b < 2 ^ ubits k) (kk : K (.int k ((a &&& b : Nat) : Int)) w) : OP P e (.binOp .and t x y u) ty w K := by
  refine o_and hx hy ?_
  rw [bits_of hk, wrapU hk]
  simp only [BitVec.toNat_and, BitVec.toNat_ofInt]
  have h1 : ((a : Int) % ((2 ^ ubits k : Nat) : Int)).toNat = a := by rw [← Int.natCast_emod]; simp [Nat.mod_eq_of_lt ha]
  have h2 : ((b : Int) % ((2 ^ ubits k : Nat) : Int)).toNat = b := by rw [← Int.natCast_emod]; simp [Nat.mod_eq_of_lt hb]
  rw [h1, h2, Nat.mod_eq_of_lt (Nat.and_lt_two_pow _ hb)]
  exact kk
theorem m_or (hk : 0 < ubits k) (hx : ev e x = .int k (a : Int)) (hy : ev e y = .int k (b : Int)) (ha : a < 2 ^ ubits k) (hb : b < 2 ^ ubits k) (kk : K (.int k ((a ||| b : Nat) : Int)) w) : OP P e (.binOp .or t x y u) ty w K := by
  refine o_or hx hy ?_
  rw [bits_of hk, wrapU hk]
  simp only [BitVec.toNat_or, BitVec.toNat_ofInt]
  have h1 : ((a : Int) % ((2 ^ ubits k : Nat) : Int)).toNat = a := by rw [← Int.natCast_emod]; simp [Nat.mod_eq_of_lt ha]
  have h2 : ((b : Int) % ((2 ^ ubits k : Nat) : Int)).toNat = b := by rw [← Int.natCast_emod]; simp [Nat.mod_eq_of_lt hb]
  rw [h1, h2, Nat.mod_eq_of_lt (Nat.or_lt_two_pow ha hb)]
  exact kk
theorem m_shl {k' : IntKind} (hk : 0 < ubits k) (hx : ev e x = .int k (a : Int)) (hy : ev e y = .int k' (b : Int)) (kk : K (.int k (((a * 2 ^ b) % 2 ^ ubits k : Nat) : Int)) w) : OP P e (.binOp .shl t x y u) ty w K := by
  refine o_shl hx hy (by simp) ?_
  rw [bits_of hk, show (a : Int) * 2 ^ (min (b : Int).toNat (ubits k)) = ((a * 2 ^ (min b (ubits k)) : Nat) : Int) by simp, wrapU hk]
  rcases Nat.le_total b (ubits k) with h | h
  · rw [Nat.min_eq_left h]; exact kk
  · rw [Nat.min_eq_right h, Nat.mul_mod_left]
    obtain ⟨c, rfl⟩ := Nat.exists_eq_add_of_le h
    rwa [Nat.pow_add, ← Nat.mul_assoc, Nat.mul_right_comm, Nat.mul_mod_left] at kk
theorem m_shr {k' : IntKind} (hk : 0 < ubits k) (hx : ev e x = .int k (a : Int)) (hy : ev e y = .int k' (b : Int)) (ha : a < 2 ^ ubits k) (kk : K (.int k ((a / 2 ^ b : Nat) : Int)) w) : OP P e (.binOp .shr t x y u) ty w K := by
  refine o_shr hx hy (by simp) ?_
  rw [bits_of hk, Int.fdiv_eq_ediv_of_nonneg _ (by exact Int.le_of_lt (Int.pow_pos (by decide))), show (a : Int) / 2 ^ (min (b : Int).toNat (ubits k)) = ((a / 2 ^ (min b (ubits k)) : Nat) : Int) by simp]
  rcases Nat.le_total b (ubits k) with h | h
  · rw [Nat.min_eq_left h]; exact kk
  · rw [Nat.min_eq_right h, Nat.div_eq_of_lt ha]
    rwa [Nat.div_eq_of_lt (Nat.lt_of_lt_of_le ha (Nat.pow_le_pow_right (by decide) h))] at kk

theorem n_and (M : Nat) (hM : M = 2 ^ ubits k) (hk : 0 < ubits k) (hx : ev e x = .int k (a : Int)) (hy : ev e y = .int k (b : Int)) (ha : a < M) (hb : b < M) (kk : K (.int k ((a &&& b : Nat) : Int)) w) : OP P e (.binOp .and t x y u) ty w K := m_and hk hx hy (hM ▸ ha) (hM ▸ hb) kk
theorem n_or (M : Nat) (hM : M = 2 ^ ubits k) (hk : 0 < ubits k) (hx : ev e x = .int k (a : Int)) (hy : ev e y = .int k (b : Int)) (ha : a < M) (hb : b < M) (kk : K (.int k ((a ||| b : Nat) : Int)) w) : OP P e (.binOp .or t x y u) ty w K := m_or hk hx hy (hM ▸ ha) (hM ▸ hb) kk
theorem n_shl {k' : IntKind} (M : Nat) (hM : M = 2 ^ ubits k) (hk : 0 < ubits k) (hx : ev e x = .int k (a : Int)) (hy : ev e y = .int k' (b : Int)) (kk : K (.int k (((a * 2 ^ b) % M : Nat) : Int)) w) : OP P e (.binOp .shl t x y u) ty w K := m_shl hk hx hy (hM ▸ kk)
theorem n_shr {k' : IntKind} (M : Nat) (hM : M = 2 ^ ubits k) (hk : 0 < ubits k) (hx : ev e x = .int k (a : Int)) (hy : ev e y = .int k' (b : Int)) (ha : a < M) (kk : K (.int k ((a / 2 ^ b : Nat) : Int)) w) : OP P e (.binOp .shr t x y u) ty w K := m_shr hk hx hy (hM ▸ ha) kk
end nats

theorem o_not' {x : Operand} {t : TypeId} {b : Bool} (hx : ev e x = .bool b) (k : K (.bool !b) w) : OP P e (.unOp .not t x) ty w K :=
  OP.of (by simp [execOp, Op.unary, hx]) k

section eqs
variable {x y : Operand} {t u : TypeId} {s b : Nat} {z : Value}
theorem equal_d (t : TypeId) (x y : Value) : ∃ d, Op.equal t x y = Op.equalIn (d + 1) t x y := ⟨9999, rfl⟩
theorem run_eqB {a c : Bool} (ht : Ty P t .bool s b z) (w : World) : (Op.equal t (.bool a) (.bool c)).run P w = .ok (a == c) w := by
  obtain ⟨d, hd⟩ := equal_d t (.bool a) (.bool c)
  rw [hd]; simp [Op.equalIn, ht.run_und]
theorem run_eqN {el : TypeId} {p : Option Addr} (ht : Ty P t (.pointer el) s b z) (w : World) : (Op.equal t (.pointer p) (.pointer none)).run P w = .ok p.isNone w := by
  obtain ⟨d, hd⟩ := equal_d t (.pointer p) (.pointer none)
  rw [hd]; cases p <;> simp [Op.equalIn, ht.run_und]
theorem o_eqB {a c : Bool} (ht : Ty P t .bool s b z) (hx : ev e x = .bool a) (hy : ev e y = .bool c) (k : K (.bool (a == c)) w) : OP P e (.binOp .eql t x y u) ty w K :=
  OP.of (by simp [execOp, eqGuard, binOp, hx, hy, run_eqB ht]) k
theorem o_neB {a c : Bool} (ht : Ty P t .bool s b z) (hx : ev e x = .bool a) (hy : ev e y = .bool c) (k : K (.bool (!(a == c))) w) : OP P e (.binOp .neq t x y u) ty w K :=
  OP.of (by simp [execOp, eqGuard, binOp, hx, hy, run_eqB ht]) k
theorem o_eqS {a c : ByteArray} (hx : ev e x = .string a) (hy : ev e y = .string c) (k : K (.bool (a.toList == c.toList)) w) : OP P e (.binOp .eql t x y u) ty w K :=
  OP.of (by simp [execOp, eqGuard, binOp, hx, hy, Op.stringOp]) k
theorem o_neS {a c : ByteArray} (hx : ev e x = .string a) (hy : ev e y = .string c) (k : K (.bool (!(a.toList == c.toList))) w) : OP P e (.binOp .neq t x y u) ty w K :=
  OP.of (by simp [execOp, eqGuard, binOp, hx, hy, Op.stringOp]) k
/-- a pointer against nil -/
theorem o_eqN {el : TypeId} {p : Option Addr} (ht : Ty P t (.pointer el) s b z) (hx : ev e x = .pointer p) (hy : ev e y = .pointer none) (k : K (.bool p.isNone) w) : OP P e (.binOp .eql t x y u) ty w K :=
  OP.of (by simp [execOp, eqGuard, binOp, hx, hy, run_eqN ht]) k
end eqs

theorem o_ext {x : Operand} {i : Nat} {vs : Array Value} {v : Value} (hx : ev e x = .tuple vs) (hv : vs[i]? = some v) (k : K v w) : OP P e (.extract x i) ty w K :=
  OP.of (by simp [execOp, Instr.extract, hx, hv]) k

theorem o_cvI {x : Operand} {t u : TypeId} {k k' : IntKind} {n : Int} {s b s' b' : Nat} {z z' : Value} (ht : Ty P t (.int k) s b z) (hu : Ty P u (.int k') s' b' z') (hx : ev e x = .int k n) (kk : K (.int k' (k'.wrap n)) w) : OP P e (.convert t u x) ty w K :=
  OP.of (by simp [execOp, convert, hx, ht.run_und, hu.run_und, Conv.intToInt]) kk
theorem n_cvI {x : Operand} {t u : TypeId} {k k' : IntKind} {n : Nat} {s b s' b' : Nat} {z z' : Value} (M : Nat) (hM : M = 2 ^ ubits k') (ht : Ty P t (.int k) s b z) (hu : Ty P u (.int k') s' b' z') (hk : 0 < ubits k') (hx : ev e x = .int k (n : Int)) (kk : K (.int k' ((n % M : Nat) : Int)) w) : OP P e (.convert t u x) ty w K :=
  o_cvI ht hu hx (by rw [wrapU hk]; exact hM ▸ kk)

end
end Go.Vc

set_option linter.unusedSimpArgs false
set_option linter.unusedVariables false
namespace Go.Vc
open Go Go.RowKit

structure Only (F : Nat → Prop) (w w' : World) : Prop where
  os : w'.os = w.os
  tape : w'.tape = w.tape
  output : w'.output = w.output
  size : w.heap.size ≤ w'.heap.size
  block : ∀ k, k < w.heap.size → ¬ F k → w'.heap[k]? = w.heap[k]?
def No : Nat → Prop := fun _ => False
abbrev Ext (w w' : World) : Prop := Only No w w'

theorem Only.refl (F : Nat → Prop) (w : World) : Only F w w := ⟨rfl, rfl, rfl, Nat.le_refl _, fun _ _ _ => rfl⟩
theorem Only.trans' {F G H : Nat → Prop} {a b c : World} (h : Only F a b) (k : Only G b c) (hF : ∀ k, F k → H k) (hG : ∀ k, k < a.heap.size → G k → H k) : Only H a c :=
  ⟨k.os.trans h.os, k.tape.trans h.tape, k.output.trans h.output, Nat.le_trans h.size k.size, fun i hi hn =>
    (k.block i (Nat.lt_of_lt_of_le hi h.size) fun hg => hn (hG i hi hg)).trans (h.block i hi fun hf => hn (hF i hf))⟩
theorem Only.trans {F : Nat → Prop} {a b c : World} (h : Only F a b) (k : Only F b c) : Only F a c := h.trans' k (fun _ h => h) (fun _ _ h => h)
theorem Only.mono {F G : Nat → Prop} {a b : World} (h : Only F a b) (hF : ∀ k, k < a.heap.size → F k → G k) : Only G a b :=
  ⟨h.os, h.tape, h.output, h.size, fun k hk hn => h.block k hk fun hf => hn (hF k hk hf)⟩
theorem Only.ext {F : Nat → Prop} {a b c : World} (h : Only F a b) (k : Ext b c) : Only F a c := h.trans' k (fun _ h => h) (fun _ _ h => h.elim)
theorem Only.grown {a b : World} {row : Option Nat} (h : a.grownBy b row) : Only (fun k => some k = row) a b :=
  ⟨h.os, h.tape, h.output, h.size, fun k hk hn => h.block k hk hn⟩
theorem Only.alloc (w : World) (o : Obj) : Ext w (w.alloc o) := ⟨rfl, rfl, rfl, by simp, fun k hk _ => heap_alloc_old w o hk⟩
theorem Only.setCell (w : World) (a : Addr) (v : Value) : Only (fun k => k = a.block) w (w.setCell a v) :=
  ⟨rfl, rfl, rfl, by simp [World.setCell], fun k _ hn => heap_setCell_other w a k v hn⟩
theorem Only.drew (w : World) : Ext w w.drew := ⟨rfl, rfl, rfl, Nat.le_refl _, fun _ _ _ => rfl⟩
theorem Only.drewN (w : World) (n : Nat) : Ext w (w.drewN n) := ⟨rfl, rfl, rfl, Nat.le_refl _, fun _ _ _ => rfl⟩
theorem Only.below {B : Nat} {a b : World} (h : Only (fun k => B ≤ k) a b) (hB : B ≤ a.heap.size) : Below B a b :=
  ⟨h.os, h.tape, h.output, h.size, fun k hk => h.block k (Nat.lt_of_lt_of_le hk hB) (by omega)⟩

theorem cell_lt {w : World} {b o : Nat} {v : Value} (h : w.cell? ⟨b, o, none⟩ = some v) : b < w.heap.size := block_lt_of_cell h
theorem Only.cell {F : Nat → Prop} {a b : World} (h : Only F a b) {k o : Nat} {v : Value} (hc : a.cell? ⟨k, o, none⟩ = some v) (hn : ¬ F k) : b.cell? ⟨k, o, none⟩ = some v :=
  (World.cell?_of_block (h.block k (cell_lt hc) hn)).trans hc
theorem Only.blk {F : Nat → Prop} {a b : World} (h : Only F a b) {k : Nat} {o : Obj} (hc : a.heap[k]? = some o) (hn : ¬ F k) : b.heap[k]? = some o :=
  (h.block k (Array.getElem?_eq_some_iff.1 hc).1 hn).trans hc

theorem add_none (b o n : Nat) : (⟨b, o, none⟩ : Addr).add n = ⟨b, o + n, none⟩ := by unfold Addr.add; split <;> simp_all
theorem cell_of {w : World} {b o : Nat} {cs : Array Value} {t : TypeId} {fr : Nat × Nat} {v : Value} (h : w.heap[b]? = some (.cells cs t fr)) (hv : cs[o]? = some v) : w.cell? ⟨b, o, none⟩ = some v := by
  rw [cell_of_row w b o cs t fr h]; exact hv
theorem free_of {w : World} {b o : Nat} {cs : Array Value} {t : TypeId} (h : w.heap[b]? = some (.cells cs t (0, 0))) : w.frozen? ⟨b, o, none⟩ = false := frozen_of_row w b o cs t h

def Cells (w : World) (b off : Nat) (xs : List Value) : Prop := ∀ i v, xs[i]? = some v → w.cell? ⟨b, off + i, none⟩ = some v
theorem Cells.only {F : Nat → Prop} {w w' : World} {b off : Nat} {xs : List Value} (h : Cells w b off xs) (ho : Only F w w') (hn : ¬ F b) : Cells w' b off xs :=
  fun i v hv => ho.cell (h i v hv) hn
theorem Cells.of {w : World} {b : Nat} {cs : Array Value} {t : TypeId} {fr : Nat × Nat} (h : w.heap[b]? = some (.cells cs t fr)) (off : Nat) (xs : List Value) (hx : ∀ i v, xs[i]? = some v → cs[off + i]? = some v) : Cells w b off xs :=
  fun i v hv => cell_of h (hx i v hv)
theorem Cells.sub {w : World} {b off : Nat} {xs : List Value} (h : Cells w b off xs) (k n : Nat) : Cells w b (off + k) ((xs.drop k).take n) := by
  intro i v hv
  rw [Nat.add_assoc]
  refine h _ v ?_
  rw [List.getElem?_take] at hv
  split at hv
  · simpa using hv
  · cases hv

/-- A slice value, read: n elements of s cells each. -/
structure Sl (w : World) (s : Nat) (v : Value) (n : Nat) (xs : List Value) : Prop where
  len : xs.length = n * s
  val : (n = 0 ∧ ∃ a c, v = .slice a 0 c) ∨ ∃ b off c, v = .slice (some ⟨b, off, none⟩) n c ∧ n ≤ c ∧ Cells w b off xs

theorem Sl.only {F : Nat → Prop} {w w' : World} {s : Nat} {v : Value} {n : Nat} {xs : List Value} (h : Sl w s v n xs) (ho : Only F w w') (hn : ∀ b, v.ownBlock = some b → ¬ F b) : Sl w' s v n xs :=
  ⟨h.len, h.val.imp id fun ⟨b, off, c, hv, hnc, hc⟩ => ⟨b, off, c, hv, hnc, hc.only ho (hn b (by rw [hv]; rfl))⟩⟩
theorem Sl.ext {w w' : World} {s : Nat} {v : Value} {n : Nat} {xs : List Value} (h : Sl w s v n xs) (ho : Ext w w') : Sl w' s v n xs := h.only ho (fun _ _ h => h.elim)
theorem Sl.nil (w : World) (s : Nat) : Sl w s (.slice none 0 0) 0 [] := ⟨by simp, .inl ⟨rfl, none, 0, rfl⟩⟩
theorem Sl.own {w : World} {base : Nat} {e : TypeId} {s : Nat} {v : Value} {n : Nat} {xs : List Value} (h : w.ownsRow base e s v n xs) : Sl w s v n xs := by
  refine ⟨h.1, ?_⟩
  rcases h.2 with h | ⟨g, cap, cur, rfl, _, hg, hnc, _, hcs, ht⟩
  · exact .inl ⟨h.2, none, 0, h.1⟩
  · refine .inr ⟨g, 0, cap, rfl, by assumption, Cells.of hg 0 xs ?_⟩
    intro i v hv
    rw [← ht, List.getElem?_take] at hv
    split at hv
    · simpa using hv
    · cases hv
theorem Sl.isSlice {w : World} {s : Nat} {v : Value} {n : Nat} {xs : List Value} (h : Sl w s v n xs) : ∃ a c, v = .slice a n c := by
  rcases h.val with ⟨rfl, a, c, rfl⟩ | ⟨b, off, c, rfl, _, _⟩ <;> exact ⟨_, _, rfl⟩
theorem Sl.lt {w : World} {s : Nat} {v : Value} {n : Nat} {xs : List Value} (h : Sl w s v n xs) (hn : 0 < n * s) {b : Nat} (hb : v.ownBlock = some b) : b < w.heap.size := by
  rcases h.val with ⟨rfl, _⟩ | ⟨b', off, c, rfl, _, hc⟩
  · omega
  · simp only [Value.ownBlock, Option.some.injEq] at hb
    subst hb
    have := h.len
    cases xs with
    | nil => simp at this; omega
    | cons x xs => exact cell_lt (hc 0 x rfl)

def Ca (P : Program) (f : FuncId) (args : Array Value) (w : World) (R : Value → World → Prop) : Prop := Calls P f args w (fun e w' => match e with | .returned v => R v w' | _ => False)
theorem Ca.mono {P : Program} {f : FuncId} {args : Array Value} {w : World} {R R' : Value → World → Prop} (h : Ca P f args w R) (hr : ∀ v w', R v w' → R' v w') : Ca P f args w R' :=
  Calls.mono h fun e w' he => by cases e <;> simp only at he ⊢ <;> first | exact hr _ _ he | exact he
theorem Ca.of {P : Program} {f : FuncId} {fn : Func} {c : Code} {l : List Value} {w : World} {R : Value → World → Prop} {n : Nat} (hf : P.funcs[f]? = some fn) (hm : fn.ntmps = n) (hb : fn.body = some c)
    (hn : Nat.ble l.length n = true) (h : W P c (post fn P R) n (envOf l) w) : Ca P f l.toArray w R :=
  calls_of hf hb hm hn (fun _ _ h => h) h
theorem ln {e : Env} : ([] : List Operand).map (ev e) = [] := rfl
theorem lc {e : Env} {x : Operand} {l : List Operand} {a : Value} {asx : List Value} (h : ev e x = a) (t : l.map (ev e) = asx) : (x :: l).map (ev e) = a :: asx := by simp [h, t]

section
variable {P : Program} {e : Env} {w : World} {K : Value → World → Prop} {ty : TypeId}

theorem o_call {f : FuncId} {l : List Operand} {vs : List Value} {ats : Array TypeId} (hc : ∀ args w, (callFunc f args).run P w = .ok (.enter f args) w) (ha : l.map (ev e) = vs) (h : Ca P f vs.toArray w K) : OP P e (.call ⟨.value (.func f), l.toArray, ats⟩) ty w K := by
  subst ha
  unfold OP
  have : (execOp (ev e) ⟨none, .call ⟨.value (.func f), l.toArray, ats⟩, ty, "", #[], none⟩).run P w = .ok (.enter f (l.map (ev e)).toArray) w := by
    simp [execOp, resolve, Deferred.ofValue, ev, invoke, hc]
  rw [this]
  exact h

theorem o_ld {x : Operand} {t : TypeId} {d : TypeDesc} {s bs b o : Nat} {z v : Value} (ht : Ty P t d s bs z) (hd : isAggD d = false) (hx : ev e x = .pointer (some ⟨b, o, none⟩)) (hc : w.cell? ⟨b, o, none⟩ = some v) (k : K v w) : OP P e (.load t x) ty w K :=
  OP.of (by simp [execOp, Instr.loadAt, Instr.sureAddr, hx, loadVar, ht.run_agg, hd, hc]) k
theorem o_ldA {x : Operand} {t : TypeId} {d : TypeDesc} {s bs b o : Nat} {z : Value} {xs : List Value} (ht : Ty P t d s bs z) (hd : isAggD d = true) (hx : ev e x = .pointer (some ⟨b, o, none⟩)) (hc : Cells w b o xs) (hl : xs.length = s) (k : K (.agg xs.toArray) w) : OP P e (.load t x) ty w K := by
  have h := run_loadCells_list (P := P) w ⟨b, o, none⟩ xs (fun j v hj => by rw [add_none]; exact hc j v hj)
  rw [hl] at h
  exact OP.of (by simp [execOp, Instr.loadAt, Instr.sureAddr, hx, loadVar, ht.run_agg, hd, ht.run_size, h]) k
theorem o_st {x y : Operand} {t : TypeId} {d : TypeDesc} {bs b o : Nat} {z v u : Value} (ht : Ty P t d 1 bs z) (hx : ev e x = .pointer (some ⟨b, o, none⟩)) (hy : ev e y = v) (hv : v.oneCell' = true) (hc : w.cell? ⟨b, o, none⟩ = some u) (hf : w.frozen? ⟨b, o, none⟩ = false) (k : K undef (w.setCell ⟨b, o, none⟩ v)) : OP P e (.store t x y) ty w K := by
  have hcs : v.cells = #[v] := by cases v <;> first | rfl | simp [Value.oneCell'] at hv
  have hst : (store ⟨b, o, none⟩ v).run P w = .ok () (w.setCell ⟨b, o, none⟩ v) := by
    cases v <;> first | (simp [Value.oneCell'] at hv; done) | simp [store, Sem.run, hc, hf]
  refine OP.ofS ?_ k
  simp [execOp, Instr.storeAt, Instr.sureAddr, hx, hy, storeVar, hcs, ht.run_size, storeCells, hst, add_none]

theorem o_al {t : TypeId} {d : TypeDesc} {s bs : Nat} {z : Value} (ht : Ty P t d s bs z) (k : K (.pointer (some ⟨w.heap.size, 0, none⟩)) (w.alloc (.cells z.cells t))) : OP P e (.alloc t) ty w K :=
  OP.of (by simp [execOp, Instr.alloc, ht.run_zero, newVar, newRow]) k
theorem o_box {t : TypeId} {x : Operand} (k : K (.pointer (some ⟨w.heap.size, 0, none⟩)) (w.alloc (.cells (ev e x).cells t))) : OP P e (.box t x) ty w K :=
  OP.of (by simp [execOp, Instr.box, newVar, newRow]) k

theorem o_fa {x : Operand} {t ft : TypeId} {fs : Array Field} {f : Nat} {s bs b o s' bs' : Nat} {z z' : Value} {d' : TypeDesc} (off : Nat) (ht : Ty P t (.struct fs) s bs z) (hf : (fs[f]?).map (fun x => (x.type, x.offset)) = some (ft, off)) (hft : Ty P ft d' s' bs' z') (hs : (s' == 0) = false)
    (hx : ev e x = .pointer (some ⟨b, o, none⟩)) (k : K (.pointer (some ⟨b, o + off, none⟩)) w) : OP P e (.fieldAddr t x f) ty w K := by
  have hs' : ¬ s' = 0 := by simpa using hs
  obtain ⟨fd, hf2, hfd⟩ := Option.map_eq_some_iff.1 hf
  simp only [Prod.mk.injEq] at hfd
  obtain ⟨rfl, rfl⟩ := hfd
  clear hf
  exact OP.of (by simp [execOp, Instr.fieldAt, ht.run_und, hf2, Instr.sureAddr, hx, fieldPlace, hft.run_size, hs', add_none]) k
/-- an element of a slice that is read -/
theorem o_ix {x y : Operand} {t el : TypeId} {s bs s' bs' i n : Nat} {z z' v : Value} {d' : TypeDesc} {xs : List Value} {ik : IntKind} (ht : Ty P t (.slice el) s bs z) (hel : Ty P el d' s' bs' z') (hx : ev e x = v) (hy : ev e y = .int ik (i : Int)) (hS : Sl w s' v n xs) (hi : i < n)
    (k : ∀ b o c, v = .slice (some ⟨b, o, none⟩) n c → Cells w b (o + i * s') ((xs.drop (i * s')).take s') → K (.pointer (some ⟨b, o + i * s', none⟩)) w) : OP P e (.indexAddr t x y) ty w K := by
  rcases hS.val with ⟨rfl, _⟩ | ⟨b, off, c, rfl, hnc, hc⟩
  · omega
  · refine OP.of ?_ (k b off c rfl (hc.sub _ _))
    simp [execOp, Instr.indexAt, ht.run_und, hx, hy, asIntOf, hi, hel.run_size, add_none]
/-- .. of one cell -/
theorem o_ix1 {x y : Operand} {t el : TypeId} {s bs bs' i n : Nat} {z z' v : Value} {d' : TypeDesc} {xs : List Value} {ik : IntKind} (ht : Ty P t (.slice el) s bs z) (hel : Ty P el d' 1 bs' z') (hx : ev e x = v) (hy : ev e y = .int ik (i : Int)) (hS : Sl w 1 v n xs) (hi : i < n)
    (k : ∀ b o, w.cell? ⟨b, o, none⟩ = xs[i]? → v.ownBlock = some b → K (.pointer (some ⟨b, o, none⟩)) w) : OP P e (.indexAddr t x y) ty w K := by
  refine o_ix ht hel hx hy hS hi fun b o c hv hc => ?_
  refine k b (o + i * 1) ?_ (by rw [hv]; rfl)
  have hl : i < xs.length := by rw [hS.len]; omega
  have h0 := hc 0 xs[i] (by simp [hl])
  simpa [hl] using h0
theorem o_len {x : Operand} {t el : TypeId} {s bs n c : Nat} {z : Value} {a : Option Addr} (ht : Ty P t (.slice el) s bs z) (hx : ev e x = .slice a n c) (k : K (.int .i64 (n : Int)) w) : OP P e (.call ⟨.builtin .len, #[x], #[t]⟩) ty w K :=
  OP.of (by simp [execOp, resolve, invoke, builtin, Builtin.len_, ht.run_und, hx, goInt]) k
theorem o_lenS {x : Operand} {t : TypeId} {s bs : Nat} {z : Value} {a : ByteArray} (ht : Ty P t .string s bs z) (hx : ev e x = .string a) (k : K (.int .i64 (a.size : Int)) w) : OP P e (.call ⟨.builtin .len, #[x], #[t]⟩) ty w K :=
  OP.of (by simp [execOp, resolve, invoke, builtin, Builtin.len_, ht.run_und, hx, goInt]) k
/-- len of a slice of which only the reading is known -/
theorem o_lenR {x : Operand} {t el : TypeId} {s bs s' n : Nat} {z v : Value} {xs : List Value} (ht : Ty P t (.slice el) s bs z) (hx : ev e x = v) (hS : Sl w s' v n xs) (k : K (.int .i64 (n : Int)) w) : OP P e (.call ⟨.builtin .len, #[x], #[t]⟩) ty w K := by
  obtain ⟨a, c, rfl⟩ := hS.isSlice
  exact o_len ht hx k

theorem o_bs {t el : TypeId} {len s bs s' bs' : Nat} {z z' : Value} {d' : TypeDesc} {parts : Array (Nat × Operand)} {cells : Array Value} (ht : Ty P t (.slice el) s bs z) (hel : Ty P el d' s' bs' z') (hlen : (len * s' > 2 ^ 24) = False)
    (hfill : Instr.fill (fun i => some (i * s', s')) ((Array.range (len * s')).map (z'.cells[· % z'.cells.size]!)) (parts.map fun (i, x) => (i, ev e x)).toList = some cells)
    (hz : (len * s' = 0) = False)
    (k : K (.slice (some ⟨w.heap.size, 0, none⟩) len len) (w.alloc (.cells cells el))) : OP P e (.buildSlice t len parts) ty w K := by
  refine OP.of ?_ k
  simp only [execOp, Instr.buildSlice, Sem.run_bind, ht.run_und, Result.andThen_ok, hel.run_size, hlen, if_false, hz, hel.run_zero, Sem.run_pure]
  rw [hfill]
  simp [newRow]
theorem o_mk {x y : Operand} {t el : TypeId} {s bs s' bs' n : Nat} {z z' : Value} {d' : TypeDesc} {kl kc : IntKind} (ht : Ty P t (.slice el) s bs z) (hel : Ty P el d' s' bs' z') (hx : ev e x = .int kl (n : Int)) (hy : ev e y = .int kc (n : Int)) (hb : bs' * n ≤ 281474976710656) (h63 : n ≤ 9223372036854775807)
    (k : K (.slice (some ⟨w.heap.size, 0, none⟩) n n) (w.alloc (.cells (madeCells z'.cells (n * s')) el))) : OP P e (.makeSlice t x y) ty w K := by
  obtain ⟨i, h1, h2, h3, h4⟩ := hel.info
  subst h2 h3
  have hb' : (i.bytes : Int) * (n : Int) ≤ 281474976710656 := by
    have : ((i.bytes * n : Nat) : Int) ≤ 281474976710656 := by omega
    rwa [Int.natCast_mul] at this
  have h := run_make (P := P) w t el i z' ht.und h1 h4 kl kc n n (by omega) (Int.le_refl _) hb' (by omega)
  simp only [Int.toNat_natCast] at h
  exact OP.of (by simp [execOp, hx, hy, h]) k

theorem o_ap {x y : Operand} {t el : TypeId} {s bs s' bs' n m : Nat} {z z' v u : Value} {d' : TypeDesc} {xs ys : List Value} (base : Nat) (ht : Ty P t (.slice el) s bs z) (hel : Ty P el d' s' bs' z') (hx : ev e x = v) (hy : ev e y = u)
    (hown : w.ownsRow base el s' v n xs) (hS : Sl w s' u m ys) (hzs : z'.cells.size = s') (hsz : 0 < s') (h1 : ∀ a ∈ ys, a.oneCell' = true) (h63 : n + m ≤ maxLen) (hby : (n + m) * bs' ≤ 140737488355328) (hbase : base ≤ w.heap.size)
    (k : ∀ v' w', w'.ownsRow base el s' v' (n + m) (xs ++ ys) → w.grownBy w' v.ownBlock → K v' w') : OP P e (.call ⟨.builtin .append, #[x, y], #[t, t]⟩) ty w K := by
  obtain ⟨i, hi1, hi2, hi3, hi4⟩ := hel.info
  rcases hS.val with ⟨rfl, a, c, rfl⟩ | ⟨b, off, c, rfl, hnc, hc⟩
  · have hnil : ys = [] := List.eq_nil_of_length_eq_zero (by simpa using hS.len)
    subst hnil
    cases a with
    | some a =>
      obtain ⟨v', w', hr, h2, h3, _⟩ := run_append_own (P := P) w base t ty el i z' s' bs' ht.und hi1 hi4 hi2 hi3 hzs hsz v n xs hown a 0 c [] (by simp) (fun j u hj => by simp at hj) h1 h63 hby hbase
      exact OP.of (by simp [execOp, resolve, invoke, builtin, hx, hy, hr]) (k v' w' h2 h3)
    | none =>
    have hr : (Builtin.append_ #[t, t] ty #[v, .slice none 0 c]).run P w = .ok v w := by
      rcases hown.2 with ⟨rfl, rfl⟩ | ⟨g, cap, cur, rfl, _, _, hnc, _⟩
      · simp [Builtin.append_, run_underlying ht.und, sizeOf, typeInfo, hi1, Builtin.lenOf, Builtin.firstCells]
      · simp [Builtin.append_, run_underlying ht.und, sizeOf, typeInfo, hi1, Builtin.lenOf, Builtin.firstCells, hnc, storeCells]
    refine OP.of (v := v) (w' := w) (by simp [execOp, resolve, invoke, builtin, hx, hy, hr]) (k v w (by simpa using hown) ⟨rfl, rfl, rfl, Nat.le_refl _, fun _ _ _ => rfl⟩)
  · obtain ⟨v', w', hr, h2, h3, _⟩ := run_append_own (P := P) w base t ty el i z' s' bs' ht.und hi1 hi4 hi2 hi3 hzs hsz v n xs hown ⟨b, off, none⟩ m c ys hS.len (fun j u hj => by rw [add_none]; exact hc j u hj) h1 h63 hby hbase
    exact OP.of (by simp [execOp, resolve, invoke, builtin, hx, hy, hr]) (k v' w' h2 h3)

def bv (x : UInt8) : Value := .int .u8 (x.toNat : Int)
theorem one_bv {ys : List UInt8} : ∀ a ∈ ys.map bv, a.oneCell' = true := by
  intro a ha
  obtain ⟨x, _, rfl⟩ := List.mem_map.1 ha
  rfl
theorem ofNat_toNat (x : UInt8) : UInt8.ofNat (x.toNat : Int).toNat = x := by simp

theorem foldl_push (l : List UInt8) : ∀ r : ByteArray, (l.map fun x => (x.toNat : Int)).foldl (fun r n => r.push (UInt8.ofNat n.toNat)) r = ⟨r.data ++ l.toArray⟩ := by
  induction l with
  | nil => intro r; simp
  | cons x l ih =>
    intro r
    simp only [List.map_cons, List.foldl_cons, ofNat_toNat]
    rw [ih]
    simp [ByteArray.push]
theorem o_cvBS {x : Operand} {t el u : TypeId} {s bs s' bs' s2 bs2 n : Nat} {z z' z2 v : Value} {xs : List UInt8} (ht : Ty P t (.slice el) s bs z) (hel : Ty P el (.int .u8) s' bs' z') (hu : Ty P u .string s2 bs2 z2) (hx : ev e x = v) (hS : Sl w 1 v n (xs.map bv)) (k : K (.string ⟨xs.toArray⟩) w) : OP P e (.convert t u x) ty w K := by
  refine OP.of ?_ k
  rcases hS.val with ⟨rfl, a, c, rfl⟩ | ⟨b, off, c, rfl, hnc, hc⟩
  · have hnil : xs = [] := by have := hS.len; simpa using this
    subst hnil
    cases a with
    | none =>
      simp [execOp, hx, run_convert_bytes_string (P := P) w t u el none 0 c ht.und hel.und hu.und, Conv.bytesToString]
      rfl
    | some a =>
      have hl : (loadCells a 0).run P w = .ok (([] : List Int).map (Value.int .u8)).toArray w := rfl
      simp [execOp, hx, run_convert_bytes_string (P := P) w t u el _ 0 c ht.und hel.und hu.und, run_bytesToString w _ 0 c _ hl]
      rfl
  · have hl : (loadCells ⟨b, off, none⟩ n).run P w = .ok ((xs.map fun x => (x.toNat : Int)).map (Value.int .u8)).toArray w := by
      have h := run_loadCells_list (P := P) w ⟨b, off, none⟩ (xs.map bv) (fun j v hj => by rw [add_none]; exact hc j v hj)
      rw [hS.len, Nat.mul_one] at h
      rw [h, List.map_map]; rfl
    simp [execOp, hx, run_convert_bytes_string (P := P) w t u el _ n c ht.und hel.und hu.und, run_bytesToString w _ n c _ hl]
    rw [foldl_push]
    simp [ByteArray.empty, ByteArray.emptyWithCapacity]
    rfl
end
end Go.Vc

set_option linter.unusedSimpArgs false
set_option linter.unusedVariables false
namespace Go.Vc
open Go Go.RowKit
variable {D : List Deferred}

def notCall : Op → Bool
  | .move _ | .assign _ | .load .. | .binOp .. | .unOp .. | .convert .. | .slice .. | .fieldAddr .. | .field .. | .indexAddr .. | .index .. | .extract .. | .build .. => true
  | _ => false
def noEnter : Result Next → Bool
  | .ok (.value _) _ => true
  | .ok _ _ => false
  | _ => true
theorem noEnter_v {P : Program} {s : Sem Value} {w : World} : noEnter ((do pure (Next.value (← s)) : Sem Next).run P w) = true := by
  rw [Sem.run_bind]
  cases s.run P w <;> rfl
theorem noEnter_exec {P : Program} {ρ : Operand → Value} {op : Op} {ty : TypeId} {w : World} (h : notCall op = true) : noEnter ((execOp ρ ⟨none, op, ty, "", #[], none⟩).run P w) = true := by
  cases op <;> simp only [notCall] at h <;> first
    | rfl
    | exact noEnter_v
    | (simp at h; done)

structure WQ (P : Program) (all l : List Oper) (Q : Env → Prop) (n : Nat) (e : Env) (w : World) : Prop where
  out : ∀ D a, Rel D n a e → wpQuiet P all.toArray (fun w' => ∃ k, w' = w.drewN k) (fun a' => ∃ e', Rel D n a' e' ∧ Q e') l a

section
variable {P : Program} {Q : Env → Prop} {n : Nat} {e : Env} {w : World} {all rest : List Oper} {op : Op} {ty : TypeId} {pos : String} {after : Array Edge} {d : Nat} {v : Value}

/-- The operation's own run, asx an equation. -/
def RV (P : Program) (e : Env) (op : Op) (ty : TypeId) (w : World) (v : Value) : Prop := (execOp (ev e) ⟨none, op, ty, "", #[], none⟩).run P w = .ok (.value v) w
def QO (P : Program) (e : Env) (op : Op) (ty : TypeId) (w : World) (v : Value) : Prop := ∀ k, Oper.quietUpon P (fun w' => ∃ k, w' = w.drewN k) (w.drewN k) v ((execOp (ev e) ⟨none, op, ty, "", #[], none⟩).run P (w.drewN k))
theorem QO.r (h : ∀ k, RV P e op ty (w.drewN k) v) : QO P e op ty w v := fun k => by rw [h k]; exact ⟨rfl, rfl⟩
theorem QO.o (hn : notCall op = true) (h : ∀ k, OP P e op ty (w.drewN k) (fun u w' => w' = w.drewN k ∧ v = u)) : QO P e op ty w v := fun k => by
  have h1 := h k
  have h2 := noEnter_exec (P := P) (ρ := ev e) (ty := ty) (w := w.drewN k) hn
  unfold OP at h1
  generalize (execOp (ev e) ⟨none, op, ty, "", #[], none⟩).run P (w.drewN k) = r at *
  cases r with
  | ok nx w' =>
    cases nx <;> simp only [Oper.quietUpon] <;> first
      | exact ⟨h1.1, h1.2.symm⟩
      | exact h1.elim
      | (simp [noEnter] at h2; done)
  | halt x w' => exact h1.elim
/-- A call that leaves the world asx it was, but for draws. -/
theorem QO.call {f : FuncId} {l : List Operand} {vs : List Value} {ats : Array TypeId} (hc : ∀ args w, (callFunc f args).run P w = .ok (.enter f args) w) (ha : l.map (ev e) = vs)
    (h : ∀ k, Ca P f vs.toArray (w.drewN k) (fun u w' => u = v ∧ ∃ m, w' = w.drewN m)) : QO P e (.call ⟨.value (.func f), l.toArray, ats⟩) ty w v := fun k => by
  subst ha
  have : (execOp (ev e) ⟨none, .call ⟨.value (.func f), l.toArray, ats⟩, ty, "", #[], none⟩).run P (w.drewN k) = .ok (.enter f (l.map (ev e)).toArray) (w.drewN k) := by
    simp [execOp, resolve, Deferred.ofValue, ev, invoke, hc]
  rw [this]
  refine ⟨rfl, Calls.mono (h k) fun e w' he => ?_⟩
  cases e <;> simp only at he
  · exact ⟨by rw [he.1], he.2⟩
theorem Ca.same {P : Program} {f : FuncId} {args : Array Value} {w : World} {k : Nat} {v : Value} (h : Ca P f args (w.drewN k) (fun u w' => u = v ∧ w' = w.drewN k)) : Ca P f args (w.drewN k) (fun u w' => u = v ∧ ∃ m, w' = w.drewN m) :=
  h.mono fun _ _ ⟨h1, h2⟩ => ⟨h1, k, h2⟩
theorem WQ.nil (h : Q e) : WQ P all [] Q n e w := ⟨fun D _ ha => ⟨e, ha, h⟩⟩
theorem WQ.c (hd : Nat.blt d n = true) (hq : QO P e op ty w v) (h : WQ P all rest Q n (upd e d v) w) : WQ P all (⟨some d, op, ty, pos, after, none⟩ :: rest) Q n e w :=
  ⟨fun D a ha => by
    refine wpQuiet_step fun K hK => ?_
    rw [if_pos (by simp [Region.wanted])]
    refine ⟨v, fun w' ⟨k, hk⟩ => ?_, hK _ (h.out D _ (ha.put hd v))⟩
    unfold Oper.quietAt
    rw [exec_of, ha.ev, hk]
    exact hq k⟩
theorem WQ.g {j : Nat} {b b' : Bool} (hg : gbool e all j = .bool b') (hb : b' = b) (hd : Nat.blt d n = true) (hq : QO P e op ty w v) (h : WQ P all rest Q n (upd e d v) w) : WQ P all (⟨some d, op, ty, pos, after, some (j, b)⟩ :: rest) Q n e w :=
  ⟨fun D a ha => by
    refine wpQuiet_step fun K hK => ?_
    rw [if_pos (by simp [Region.wanted, yielded_of ha hg, hb])]
    refine ⟨v, fun w' ⟨k, hk⟩ => ?_, hK _ (h.out D _ (ha.put hd v))⟩
    unfold Oper.quietAt
    rw [exec_of, ha.ev, hk]
    exact hq k⟩
theorem WQ.s {j : Nat} {b b' : Bool} (hg : gbool e all j = .bool b') (hb : b' = !b) (hd : Nat.blt d n = true) (h : WQ P all rest Q n (upd e d undef) w) : WQ P all (⟨some d, op, ty, pos, after, some (j, b)⟩ :: rest) Q n e w :=
  ⟨fun D a ha => by
    refine wpQuiet_step fun K hK => ?_
    rw [if_neg (by subst hb; simp [Region.wanted, yielded_of ha hg])]
    exact hK _ (h.out D _ (ha.put hd undef))⟩
theorem WQ.z {j : Nat} {b : Bool} (hg : gbool e all j = undef) (hd : Nat.blt d n = true) (h : WQ P all rest Q n (upd e d undef) w) : WQ P all (⟨some d, op, ty, pos, after, some (j, b)⟩ :: rest) Q n e w :=
  ⟨fun D a ha => by
    refine wpQuiet_step fun K hK => ?_
    rw [if_neg (by simp [Region.wanted, yielded_undef ha hg])]
    exact hK _ (h.out D _ (ha.put hd undef))⟩
theorem WQ.sp {l : List Oper} (j : Nat) {b : Bool} (_hg : gbool e all j = .bool b) (ht : b = true → WQ P all l Q n e w) (hf : b = false → WQ P all l Q n e w) : WQ P all l Q n e w := by
  cases b
  · exact hf rfl
  · exact ht rfl

/-- The region: behind it the world is asx it was, but for draws. -/
theorem W.quiet {id : Nat} {l : List Oper} {Q : Exit → Env → World → Prop} (hm : P.follows .mixedOrders = true) (hB : Region.lexB .any l.toArray = true)
    (h : WQ P l l (fun e' => ∀ k, Q .normal e' (w.drewN k)) n e w) : W P (.region id l.toArray true) Q n e w :=
  ⟨fun D a ha => wp_region_quiet_lit hm hB (by
    have h1 := h.out D a ha
    have mono : ∀ (l' : List Oper) (a : Act), wpQuiet P l.toArray (fun w' => ∃ k, w' = w.drewN k) (fun a' => ∃ e', Rel D n a' e' ∧ ∀ k, Q .normal e' (w.drewN k)) l' a → wpQuiet P l.toArray (fun w' => ∃ k, w' = w.drewN k) (fun a' => ∀ w', (∃ k, w' = w.drewN k) → lift D n Q .normal a' w') l' a := by
      intro l'
      induction l' with
      | nil => intro a ⟨e', hr, hq⟩ w' ⟨k, hk⟩; subst hk; exact ⟨e', hr, hq k⟩
      | cons o l' ih =>
        intro a h
        simp only [wpQuiet] at h ⊢
        split
        · rename_i hw; rw [if_pos hw] at h; exact Oper.quiet_mono ih h
        · rename_i hw; rw [if_neg hw] at h; exact ih _ h
    exact mono l a h1)⟩

theorem r_nil {x : Operand} {a : Addr} (hx : ev e x = .pointer (some a)) : RV P e (.nilCheck x) ty w (.pointer (some a)) := by simp [RV, execOp, hx]
theorem r_len {x : Operand} {t el : TypeId} {s bs m c : Nat} {z : Value} {a : Option Addr} (ht : Ty P t (.slice el) s bs z) (hx : ev e x = .slice a m c) : RV P e (.call ⟨.builtin .len, #[x], #[t]⟩) ty w (.int .i64 (m : Int)) := by
  simp [RV, execOp, resolve, invoke, builtin, Builtin.len_, ht.run_und, hx, goInt]
theorem r_lenR {x : Operand} {t el : TypeId} {s bs s' n : Nat} {z v : Value} {xs : List Value} {w2 : World} (ht : Ty P t (.slice el) s bs z) (hx : ev e x = v) (hS : Sl w2 s' v n xs) : RV P e (.call ⟨.builtin .len, #[x], #[t]⟩) ty w (.int .i64 (n : Int)) := by
  obtain ⟨a, c, rfl⟩ := hS.isSlice
  exact r_len ht hx
theorem r_pick {c a b : Operand} {t : Bool} (hc : ev e c = .bool t) : RV P e (.pick c a b) ty w (if t then ev e a else ev e b) := by
  simp [RV, execOp, hc, asBool]
theorem r_pickA {c a : Operand} {t u : Bool} (hc : ev e c = .bool t) (ha : ev e a = .bool u) : RV P e (.pick c a (.const (.bool false))) ty w (.bool (t && u)) := by
  have h := r_pick (P := P) (ty := ty) (w := w) (a := a) (b := .const (.bool false)) hc
  rw [ha] at h; cases t <;> exact h
theorem r_pickO {c b : Operand} {t u : Bool} (hc : ev e c = .bool t) (hb : ev e b = .bool u) : RV P e (.pick c (.const (.bool true)) b) ty w (.bool (t || u)) := by
  have h := r_pick (P := P) (ty := ty) (w := w) (a := .const (.bool true)) (b := b) hc
  rw [hb] at h; cases t <;> exact h
theorem r_pickF {c a : Operand} {t : Bool} (hc : ev e c = .bool t) (ht : t = false) : RV P e (.pick c a (.const (.bool false))) ty w (.bool false) := by
  subst ht; exact r_pick hc
end
end Go.Vc

set_option linter.unusedSimpArgs false
set_option linter.unusedVariables false
namespace Go.Vc
open Go Go.RowKit

theorem sliced_own (a : Option Addr) (l h c s n c' : Nat) : (sliced a l h c s).ownBlock = (Value.slice a n c').ownBlock := by
  unfold sliced
  cases a with
  | none => split <;> rfl
  | some a => split <;> simp [Value.ownBlock, Addr.add] <;> split <;> rfl
theorem Sl.sliced {w : World} {s n c : Nat} {a : Option Addr} {xs : List Value} (h : Sl w s (.slice a n c) n xs) (l k : Nat) (hl : l ≤ k) (hk : k ≤ n) : Sl w s (sliced a l k c s) (k - l) ((xs.drop (l * s)).take ((k - l) * s)) := by
  refine ⟨?_, ?_⟩
  · rw [List.length_take, List.length_drop, h.len]
    have : (k - l) * s ≤ n * s - l * s := by rw [← Nat.sub_mul]; exact Nat.mul_le_mul_right _ (by omega)
    omega
  · rcases h.val with ⟨hn, a', c', hv⟩ | ⟨b, off, c', hv, hnc, hc⟩
    · have : l = 0 := by omega
      have : k = 0 := by omega
      subst_vars
      exact .inl ⟨rfl, _, _, rfl⟩
    · simp only [Value.slice.injEq] at hv
      obtain ⟨rfl, -, rfl⟩ := hv
      unfold Go.sliced
      by_cases hcl : c = l
      · rw [if_pos hcl]
        refine .inr ⟨b, off, c - l, rfl, by omega, ?_⟩
        have : k - l = 0 := by omega
        rw [this]
        intro i v hv
        simp at hv
      · rw [if_neg hcl]
        refine .inr ⟨b, off + l * s, c - l, by simp [add_none], by omega, hc.sub _ _⟩

section
variable {P : Program} {e : Env} {w : World} {K : Value → World → Prop} {ty : TypeId}

theorem bound_run {k : IntKind} {i y : Nat} {code : BoundsCode} (h : i ≤ y) : (Instr.sliceBound (.int k (i : Int)) y code).run P w = .ok i w := by
  have := run_sliceBound (P := P) (w := w) k (i : Int) y code (by omega) (by omega)
  simpa using this
def Lo (e : Env) (lo : Option Operand) (l : Nat) : Prop := (lo = none ∧ l = 0) ∨ ∃ x k, lo = some x ∧ ev e x = .int k (l : Int)
def Hi (e : Env) (hi : Option Operand) (h n : Nat) : Prop := (hi = none ∧ h = n) ∨ ∃ x k, hi = some x ∧ ev e x = .int k (h : Int)
theorem Lo.n : Lo e none 0 := .inl ⟨rfl, rfl⟩
theorem Lo.s {x : Operand} {k : IntKind} {l : Nat} (h : ev e x = .int k (l : Int)) : Lo e (some x) l := .inr ⟨x, k, rfl, h⟩
theorem Hi.n {n : Nat} : Hi e none n n := .inl ⟨rfl, rfl⟩
theorem Hi.s {x : Operand} {k : IntKind} {h n : Nat} (hh : ev e x = .int k (h : Int)) : Hi e (some x) h n := .inr ⟨x, k, rfl, hh⟩
theorem bounds_run {isS : Bool} {n c l h : Nat} {lo hi : Option Operand} (hl : Lo e lo l) (hh : Hi e hi h n) (h1 : l ≤ h) (h2 : h ≤ c) : (Instr.sliceBounds isS n c (lo.map (ev e)) (hi.map (ev e)) none).run P w = .ok (l, h, c) w := by
  rcases hl with ⟨rfl, rfl⟩ | ⟨x, k, rfl, hx⟩ <;> rcases hh with ⟨rfl, rfl⟩ | ⟨y, k', rfl, hy⟩ <;>
    simp [Instr.sliceBounds, *, bound_run]

/-- a slice of a slice: asx values; what lies between length and capacity may come in again -/
theorem o_slv {x : Operand} {t el : TypeId} {lo hi : Option Operand} {s bs s' bs' n c l h : Nat} {z z' : Value} {d' : TypeDesc} {a : Option Addr} (ht : Ty P t (.slice el) s bs z) (hel : Ty P el d' s' bs' z') (hx : ev e x = .slice a n c) (hl : Lo e lo l) (hh : Hi e hi h n) (h1 : l ≤ h) (h2 : h ≤ c)
    (k : K (sliced a l h c s') w) : OP P e (.slice t x lo hi none) ty w K := by
  refine OP.of ?_ k
  simp [execOp, Instr.sliceAt, Instr.slice, ht.run_und, hx, bounds_run hl hh h1 h2, hel.run_size, sliced]
/-- .. asx a reading -/
theorem o_sl {x : Operand} {t el : TypeId} {lo hi : Option Operand} {s bs s' bs' n l h : Nat} {z z' v : Value} {d' : TypeDesc} {xs : List Value} (ht : Ty P t (.slice el) s bs z) (hel : Ty P el d' s' bs' z') (hx : ev e x = v) (hS : Sl w s' v n xs) (hl : Lo e lo l) (hh : Hi e hi h n) (h1 : l ≤ h) (h2 : h ≤ n)
    (k : ∀ v', v'.ownBlock = v.ownBlock → Sl w s' v' (h - l) ((xs.drop (l * s')).take ((h - l) * s')) → K v' w) : OP P e (.slice t x lo hi none) ty w K := by
  obtain ⟨a, c, rfl⟩ := hS.isSlice
  have hnc : n ≤ c := by
    rcases hS.val with ⟨rfl, _⟩ | ⟨b, off, c', hv, hnc, _⟩
    · omega
    · simp only [Value.slice.injEq] at hv; omega
  exact o_slv ht hel hx hl hh h1 (by omega) (k _ (sliced_own _ _ _ _ _ _ _) (hS.sliced l h h1 h2))
inductive Sizes (P : Program) : List Field → List (Nat × Nat) → Prop
  | nil : Sizes P [] []
  | cons {f : Field} {fs : List Field} {pl : List (Nat × Nat)} {d : TypeDesc} {s bs : Nat} {z : Value} : Ty P f.type d s bs z → Sizes P fs pl → Sizes P (f :: fs) ((f.offset, s) :: pl)
theorem Sizes.run {fs : List Field} {pl : List (Nat × Nat)} (h : Sizes P fs pl) : (fs.toArray.mapM fun f => do pure (f.offset, ← sizeOf f.type) : Sem (Array (Nat × Nat))).run P w = .ok pl.toArray w := by
  rw [List.mapM_toArray]
  rw [Sem.run_map]
  have : (fs.mapM fun f => do pure (f.offset, ← sizeOf f.type) : Sem (List (Nat × Nat))).run P w = .ok pl w := by
    induction h with
    | nil => rfl
    | cons hf _ ih =>
      rw [List.mapM_cons]
      simp only [Sem.run_bind, hf.run_size, Result.andThen_ok, Sem.run_pure]
      rw [ih]; rfl
  rw [this]; rfl
theorem o_bld {t : TypeId} {fs : List Field} {pl : List (Nat × Nat)} {s bs : Nat} {z : Value} {parts : List (Nat × Operand)} {vs : List (Nat × Value)} {cells : Array Value} (ht : Ty P t (.struct fs.toArray) s bs z) (hs : Sizes P fs pl) (hp : (parts.map fun (i, x) => (i, ev e x)) = vs)
    (hf : Instr.fill (pl.toArray[·]?) z.cells vs = some cells) (k : K (.agg cells) w) : OP P e (.build t parts.toArray) ty w K := by
  subst hp
  refine OP.of ?_ k
  simp only [execOp, Instr.build, Sem.run_bind, ht.run_zero, Result.andThen_ok, ht.run_und, hs.run, List.map_toArray]
  rw [hf]
  rfl

theorem fill_one {s : Nat} {v : Value} {cells : Array Value} (hv : v.cells.size = s) (hc : cells.size = s) : Instr.fill (fun i => some (i * s, s)) cells [(0, v)] = some v.cells := by
  simp only [Instr.fill, Nat.zero_mul, Nat.zero_add, hv, hc, ne_eq, not_true_eq_false, decide_false, Nat.lt_irrefl, gt_iff_lt, Bool.or_self, Bool.false_eq_true, if_false]
  congr 1
  apply Array.ext_getElem?
  intro i
  have key : ∀ (l : List (Value × Nat)) (cs : Array Value), (l.foldl (fun cs (x : Value × Nat) => cs.setIfInBounds x.2 x.1) cs).size = cs.size := by
    intro l; induction l with
    | nil => intro cs; rfl
    | cons x l ih => intro cs; rw [List.foldl_cons, ih]; simp
  have gen : ∀ (l : List Value) (k : Nat) (cs : Array Value) (j : Nat), k + l.length ≤ cs.size → ((l.zipIdx k).foldl (fun cs (x : Value × Nat) => cs.setIfInBounds x.2 x.1) cs)[j]? = if k ≤ j ∧ j < k + l.length then l[j - k]? else cs[j]? := by
    intro l
    induction l with
    | nil => intro k cs j _; simp; intro h1 h2; omega
    | cons x l ih =>
      intro k cs j h
      simp only [List.length_cons] at h
      rw [List.zipIdx_cons, List.foldl_cons, ih (k + 1) _ j (by simp; omega)]
      simp only [List.length_cons]
      by_cases hj : j = k
      · subst hj
        rw [if_neg (by omega), if_pos (by omega)]
        simp [Array.getElem?_setIfInBounds]; omega
      · by_cases h2 : k + 1 ≤ j ∧ j < k + 1 + l.length
        · rw [if_pos h2, if_pos (by omega)]
          rw [show j - k = (j - (k + 1)) + 1 by omega]; rfl
        · rw [if_neg h2, if_neg (by omega), Array.getElem?_setIfInBounds, if_neg (by omega)]
  have := gen v.cells.toList 0 cells i (by simp [hv, hc])
  rw [← Array.foldl_toList, Array.toList_zipIdx]
  rw [this]
  by_cases hi : i < v.cells.size
  · simp [hi]
  · simp [hi]; omega
theorem o_bs1 {t el : TypeId} {s bs s' bs' : Nat} {z z' v : Value} {d' : TypeDesc} {x : Operand} (ht : Ty P t (.slice el) s bs z) (hel : Ty P el d' s' bs' z') (hx : ev e x = v) (hs : 0 < s') (hs2 : s' ≤ 16777216) (hv : v.cells.size = s')
    (k : K (.slice (some ⟨w.heap.size, 0, none⟩) 1 1) (w.alloc (.cells v.cells el))) : OP P e (.buildSlice t 1 #[(0, x)]) ty w K := by
  refine o_bs ht hel (by simp; omega) (cells := v.cells) ?_ (by simp; omega) k
  simp only [List.map_toArray, List.map_cons, List.map_nil, hx]
  exact fill_one hv (by simp)
theorem Sl.one {w : World} {v : Value} {el s : Nat} (hv : v.cells.size = s) : Sl (w.alloc (.cells v.cells el)) s (.slice (some ⟨w.heap.size, 0, none⟩) 1 1) 1 v.cells.toList :=
  ⟨by simp [hv], .inr ⟨w.heap.size, 0, 1, rfl, by omega, Cells.of (heap_alloc_new w _) 0 _ (by simp)⟩⟩
/-- the cells of a block of our own, asx a slice -/
theorem Sl.blk {w : World} {b n c s : Nat} {cs : Array Value} {el : TypeId} {fr : Nat × Nat} (h : w.heap[b]? = some (.cells cs el fr)) (off : Nat) (xs : List Value) (hx : xs.length = n * s) (hc : n ≤ c) (hxs : ∀ i v, xs[i]? = some v → cs[off + i]? = some v) : Sl w s (.slice (some ⟨b, off, none⟩) n c) n xs :=
  ⟨hx, .inr ⟨b, off, c, rfl, hc, Cells.of h off xs hxs⟩⟩

theorem one1 {v : Value} (h : v.oneCell' = true) : ∀ a ∈ v.cells.toList, a.oneCell' = true := by
  have : v.cells = #[v] := by cases v <;> first | rfl | simp [Value.oneCell'] at h
  rw [this]; intro a ha; simp at ha; subst ha; exact h
/-- append of one element, the slice of one that it makes with it -/
theorem WL.ap1 {all rest : List Oper} {Q : Exit → Env → World → Prop} {n d1 d2 : Nat} {t el ty2 : TypeId} {s bs s' bs' m : Nat} {z z' v u : Value} {d' : TypeDesc} {x y : Operand} {xs : List Value} {pos pos2 : String} {after after2 : Array Edge} (base : Nat)
    (hd1 : Nat.blt d1 n = true) (hd2 : Nat.blt d2 n = true) (ht : Ty P t (.slice el) s bs z) (hel : Ty P el d' s' bs' z') (hx : ev e x = u) (hy : ev (upd e d1 (.slice (some ⟨w.heap.size, 0, none⟩) 1 1)) y = v) (hown : w.ownsRow base el s' v m xs)
    (hs : 0 < s') (hs2 : s' ≤ 16777216) (hu : u.cells.size = s') (h1 : ∀ a ∈ u.cells.toList, a.oneCell' = true) (hzs : z'.cells.size = s') (h63 : m + 1 ≤ maxLen) (hby : (m + 1) * bs' ≤ 140737488355328) (hbase : base ≤ w.heap.size)
    (k : ∀ v' w', w'.ownsRow base el s' v' (m + 1) (xs ++ u.cells.toList) → Only (fun k => v.ownBlock = some k) w w' → WL P all rest Q n (upd (upd e d1 (.slice (some ⟨w.heap.size, 0, none⟩) 1 1)) d2 v') w') :
    WL P all (⟨some d1, .buildSlice t 1 #[(0, x)], ty, pos, after, none⟩ :: ⟨some d2, .call ⟨.builtin .append, #[y, .tmp d1], #[t, t]⟩, ty2, pos2, after2, none⟩ :: rest) Q n e w := by
  refine WL.c hd1 (o_bs1 ht hel hx hs hs2 hu (WL.c hd2 (o_ap base ht hel hy (u := .slice (some ⟨w.heap.size, 0, none⟩) 1 1) (by simp [ev, upd]) (hown.alloc _) (Sl.one hu) hzs hs h1 h63 hby (by simp; omega) ?_)))
  intro v' w' ho hg
  refine k v' w' ho ?_
  refine (Only.alloc w _).trans' (Only.grown hg) (fun _ h => h.elim) (fun k _ h => h.symm)

theorem o_boxh {t : TypeId} {x : Operand} {v : Value} (hx : ev e x = v) (k : K (.pointer (some ⟨w.heap.size, 0, none⟩)) (w.alloc (.cells v.cells t))) : OP P e (.box t x) ty w K :=
  o_box (by rw [hx]; exact k)
end
end Go.Vc

set_option linter.unusedSimpArgs false
set_option linter.unusedVariables false
namespace Go.Vc
open Go Go.RowKit
variable {D : List Deferred}

structure WS (P : Program) (all l : List Oper) (Q : Env → Prop) (n : Nat) (e : Env) (w : World) : Prop where
  out : ∀ D a, Rel D n a e → wpStill P all.toArray w (fun a' => ∃ e', Rel D n a' e' ∧ Q e') l a

section
variable {P : Program} {Q : Env → Prop} {n : Nat} {e : Env} {w : World} {all rest : List Oper} {op : Op} {ty : TypeId} {pos : String} {after : Array Edge} {d : Nat} {v : Value}

/-- What one operation that only reads comes to, in this very world. -/
def SO (P : Program) (e : Env) (op : Op) (ty : TypeId) (w : World) (v : Value) : Prop :=
  match (execOp (ev e) ⟨none, op, ty, "", #[], none⟩).run P w with
  | .ok (.value u) w' => w' = w ∧ u = v
  | .ok (.enter f args) w' => w' = w ∧ Calls P f args w (fun e w'' => e = .returned v ∧ w'' = w)
  | _ => False
theorem SO.r (h : RV P e op ty w v) : SO P e op ty w v := by unfold SO; rw [h]; exact ⟨rfl, rfl⟩
theorem SO.o (hn : notCall op = true) (h : OP P e op ty w (fun u w' => w' = w ∧ v = u)) : SO P e op ty w v := by
  have h2 := noEnter_exec (P := P) (ρ := ev e) (ty := ty) (w := w) hn
  unfold OP at h
  unfold SO
  generalize (execOp (ev e) ⟨none, op, ty, "", #[], none⟩).run P w = r at *
  cases r with
  | ok nx w' =>
    cases nx <;> simp only at h ⊢ <;> first
      | exact ⟨h.1, h.2.symm⟩
      | exact h
      | (simp [noEnter] at h2; done)
  | halt x w' => exact h
theorem SO.call {f : FuncId} {l : List Operand} {vs : List Value} {ats : Array TypeId} (hc : ∀ args w, (callFunc f args).run P w = .ok (.enter f args) w) (ha : l.map (ev e) = vs)
    (h : Ca P f vs.toArray w (fun u w' => u = v ∧ w' = w)) : SO P e (.call ⟨.value (.func f), l.toArray, ats⟩) ty w v := by
  subst ha
  have : (execOp (ev e) ⟨none, .call ⟨.value (.func f), l.toArray, ats⟩, ty, "", #[], none⟩).run P w = .ok (.enter f (l.map (ev e)).toArray) w := by
    simp [execOp, resolve, Deferred.ofValue, ev, invoke, hc]
  unfold SO
  rw [this]
  refine ⟨rfl, Calls.mono h fun e w' he => ?_⟩
  cases e <;> simp only at he
  · exact ⟨by rw [he.1], he.2⟩

theorem WS.nil (h : Q e) : WS P all [] Q n e w := ⟨fun D _ ha => ⟨e, ha, h⟩⟩
theorem WS.c (hd : Nat.blt d n = true) (hq : SO P e op ty w v) (h : WS P all rest Q n (upd e d v) w) : WS P all (⟨some d, op, ty, pos, after, none⟩ :: rest) Q n e w :=
  ⟨fun D a ha => by
    refine wpStill_step fun K hK => ?_
    rw [if_pos (by simp [Region.wanted])]
    have hK' := hK _ (h.out D _ (ha.put hd v))
    unfold Oper.still
    rw [exec_of, ha.ev]
    unfold SO at hq
    revert hq
    generalize (execOp (ev e) ⟨none, op, ty, "", #[], none⟩).run P w = r
    intro hq
    cases r with
    | ok nx w' =>
      cases nx <;> simp only [Oper.stillUpon] <;> simp only at hq <;> first
        | (obtain ⟨h1, h2⟩ := hq; subst h2; exact ⟨h1, hK'⟩)
        | exact hq.elim
        | exact ⟨hq.1, v, hq.2, hK'⟩
    | halt x w' => exact hq.elim⟩

theorem W.tail {id : Nat} {l : List Oper} {Q : Exit → Env → World → Prop} (m : Nat) (hm : P.follows .mixedOrders = true) (hB : Region.lexTailB .any l.toArray m = true)
    (h : WS P l (l.take m) (fun e' => WL P l (l.drop m) Q n e' w.drew) n e w.drew) : W P (.region id l.toArray true) Q n e w :=
  ⟨fun D a ha => wp_region_still_tail m hm hB (by
    have h1 := h.out D a ha
    have mono : ∀ (l' : List Oper) (a : Act), wpStill P l.toArray w.drew (fun a' => ∃ e', Rel D n a' e' ∧ WL P l (l.drop m) Q n e' w.drew) l' a → wpStill P l.toArray w.drew (fun a' => wpList P l.toArray (lift D n Q) (l.drop m) a' w.drew) l' a := by
      intro l'
      induction l' with
      | nil => intro a ⟨e', hr, hq⟩; exact hq.out D _ hr
      | cons o l' ih =>
        intro a h
        simp only [wpStill] at h ⊢
        split
        · rename_i hw; rw [if_pos hw] at h; exact Oper.still_mono ih h
        · rename_i hw; rw [if_neg hw] at h; exact ih _ h
    exact mono _ a h1)⟩

theorem o_ixB {x y : Operand} {t el : TypeId} {s bs s' bs' i n b o c : Nat} {z z' : Value} {d' : TypeDesc} {ik : IntKind} {K : Value → World → Prop} (ht : Ty P t (.slice el) s bs z) (hel : Ty P el d' s' bs' z') (hx : ev e x = .slice (some ⟨b, o, none⟩) n c) (hy : ev e y = .int ik (i : Int)) (hi : i < n)
    (k : K (.pointer (some ⟨b, o + i * s', none⟩)) w) : OP P e (.indexAddr t x y) ty w K :=
  OP.of (by simp [execOp, Instr.indexAt, ht.run_und, hx, hy, asIntOf, hi, hel.run_size, add_none]) k
/-- A store into a block that is known whole. -/
theorem o_stB {x y : Operand} {t T : TypeId} {dd : TypeDesc} {bs b o : Nat} {z v : Value} {cs : Array Value} {K : Value → World → Prop} (ht : Ty P t dd 1 bs z) (hx : ev e x = .pointer (some ⟨b, o, none⟩)) (hy : ev e y = v) (hv : v.oneCell' = true) (hB : w.heap[b]? = some (.cells cs T (0, 0))) (ho : o < cs.size)
    (k : ∀ w', w'.heap[b]? = some (.cells (cs.setIfInBounds o v) T (0, 0)) → Only (fun k => k = b) w w' → w'.heap.size = w.heap.size → K undef w') : OP P e (.store t x y) ty w K :=
  o_st ht hx hy hv (cell_of hB (Array.getElem?_eq_getElem ho)) (free_of hB) (k _ (heap_setCell_same w b o cs T v hB) (Only.setCell w ⟨b, o, none⟩ v) (by simp [World.setCell]))
end
end Go.Vc

set_option linter.unusedSimpArgs false
set_option linter.unusedVariables false
namespace Go.Vc
open Go Go.RowKit
variable {D : List Deferred}

abbrev Known := List (Nat × (Value → World → Prop))
def rds (all : List Oper) (o : Oper) : List Nat := o.looksAt all.toArray
def Holds : Known → List Nat → Env → World → Prop
  | [], _, _, _ => True
  | (d, φ) :: kn, S, e, w => match S.contains d with
    | true => φ (e d) w ∧ Holds kn S e w
    | false => Holds kn S e w
def HoldsAll : Known → Env → World → Prop
  | [], _, _ => True
  | (d, φ) :: kn, e, w => φ (e d) w ∧ HoldsAll kn e w
theorem Holds.of {S : List Nat} {e : Env} {w : World} : ∀ {kn : Known}, (∀ x ∈ kn, x.1 ∈ S → x.2 (e x.1) w) → Holds kn S e w
  | [], _ => trivial
  | (d, φ) :: kn, h => by
    unfold Holds
    have ih := Holds.of (kn := kn) (fun x hx hs => h x (List.mem_cons_of_mem _ hx) hs)
    split
    · rename_i hc
      exact ⟨h (d, φ) (List.mem_cons_self ..) (by simpa using hc), ih⟩
    · exact ih
theorem HoldsAll.of {e : Env} {w : World} : ∀ {kn : Known}, (∀ x ∈ kn, x.2 (e x.1) w) → HoldsAll kn e w
  | [], _ => trivial
  | (d, φ) :: kn, h => ⟨h (d, φ) (List.mem_cons_self ..), HoldsAll.of (kn := kn) (fun x hx => h x (List.mem_cons_of_mem _ hx))⟩
theorem HoldsAll.mem {e : Env} {w : World} : ∀ {kn : Known}, HoldsAll kn e w → ∀ x ∈ kn, x.2 (e x.1) w
  | [], _, x, hx => by cases hx
  | (d, φ) :: kn, h, x, hx => by
    rcases List.mem_cons.1 hx with rfl | hx
    · exact h.1
    · exact h.2.mem x hx

/-- An operation under its guard. -/
def SG (P : Program) (all : List Oper) (e : Env) (o : Oper) (w : World) (K : Value → World → Prop) : Prop :=
  ∀ D n a, Rel D n a e → if Region.wanted o (yielded all.toArray a.tmps) then OP P e o.op o.type w K else K undef w
section
variable {P : Program} {all : List Oper} {e : Env} {w : World} {K : Value → World → Prop} {op : Op} {ty : TypeId} {dst : Option Nat} {pos : String} {after : Array Edge}
theorem SG.n (h : OP P e op ty w K) : SG P all e ⟨dst, op, ty, pos, after, none⟩ w K := fun D n a ha => by
  rw [if_pos (by simp [Region.wanted])]; exact h
theorem SG.g {j : Nat} {b b' : Bool} (hg : gbool e all j = .bool b') (hb : b' = b) (h : OP P e op ty w K) : SG P all e ⟨dst, op, ty, pos, after, some (j, b)⟩ w K := fun D n a ha => by
  rw [if_pos (by simp [Region.wanted, yielded_of ha hg, hb])]; exact h
theorem SG.s {j : Nat} {b b' : Bool} (hg : gbool e all j = .bool b') (hb : b' = !b) (h : K undef w) : SG P all e ⟨dst, op, ty, pos, after, some (j, b)⟩ w K := fun D n a ha => by
  rw [if_neg (by subst hb; simp [Region.wanted, yielded_of ha hg])]; exact h
theorem SG.z {j : Nat} {b : Bool} (hg : gbool e all j = undef) (h : K undef w) : SG P all e ⟨dst, op, ty, pos, after, some (j, b)⟩ w K := fun D n a ha => by
  rw [if_neg (by simp [Region.wanted, yielded_undef ha hg])]; exact h
end

def Mono (R : World → World → Prop) (φ : Value → World → Prop) : Prop := ∀ v w w', R w w' → φ v w → φ v w'

def MonoAll (R : World → World → Prop) : Known → Prop
  | [] => True
  | x :: l => Mono R x.2 ∧ MonoAll R l
theorem MonoAll.mem {R : World → World → Prop} : ∀ {kn : Known}, MonoAll R kn → ∀ x ∈ kn, Mono R x.2
  | [], _, x, hx => by cases hx
  | y :: kn, h, x, hx => by
    rcases List.mem_cons.1 hx with rfl | hx
    · exact h.1
    · exact h.2.mem x hx
theorem Mono.eq {R : World → World → Prop} {V : Value} : Mono R (fun v _ => v = V) := fun _ _ _ _ h => h
def WD (P : Program) (all : List Oper) (R : World → World → Prop) (w0 : World) (F : Known → Prop) : List Oper → Known → Prop
  | [], kn => F kn
  | o :: l, kn => ∃ d φ, o.dst = some d ∧ Mono R φ ∧ (∀ e w, R w0 w → Holds kn (rds all o) e w → SG P all e o w (fun v w' => φ v w' ∧ R w w')) ∧ WD P all R w0 F l ((d, φ) :: kn)

section
variable {P : Program} {all : List Oper} {R : World → World → Prop} {w0 : World} {F : Known → Prop} {o : Oper} {l : List Oper} {kn : Known} {d : Nat}
theorem WD.p {V : Value} (hd : o.dst = some d) (h : ∀ e w, R w0 w → Holds kn (rds all o) e w → SG P all e o w (fun v w' => v = V ∧ R w w')) (k : WD P all R w0 F l ((d, fun v _ => v = V) :: kn)) : WD P all R w0 F (o :: l) kn :=
  ⟨d, fun v _ => v = V, hd, fun _ _ _ _ h => h, h, k⟩
theorem WD.q (φ : Value → World → Prop) (hm : Mono R φ) (hd : o.dst = some d) (h : ∀ e w, R w0 w → Holds kn (rds all o) e w → SG P all e o w (fun v w' => φ v w' ∧ R w w')) (k : WD P all R w0 F l ((d, φ) :: kn)) : WD P all R w0 F (o :: l) kn :=
  ⟨d, φ, hd, hm, h, k⟩

theorem WD.unroll : ∀ (l : List Oper) (kn : Known), WD P all R w0 F l kn → ∃ KN : Known, F KN ∧ (∀ x ∈ kn, x ∈ KN) ∧ KN.map Prod.fst = ((l.map fun o => o.dst.getD 0).reverse ++ kn.map Prod.fst) ∧ (∀ x ∈ KN, x ∈ kn ∨ (Mono R x.2 ∧ ∃ o ∈ l, o.dst = some x.1)) ∧
    ∀ o ∈ l, ∃ d φ, o.dst = some d ∧ (d, φ) ∈ KN ∧ ∀ e w, R w0 w → (∀ x ∈ KN, x.1 ∈ rds all o → x.2 (e x.1) w) → SG P all e o w (fun v w' => φ v w' ∧ R w w')
  | [], kn, h => ⟨kn, h, fun _ h => h, by simp, fun _ h => .inl h, fun o ho => by cases ho⟩
  | o :: l, kn, h => by
    obtain ⟨d, φ, hd, hm, hs, hk⟩ := h
    obtain ⟨KN, h1, h2, h3, h4, h5⟩ := WD.unroll l _ hk
    refine ⟨KN, h1, fun x hx => h2 x (List.mem_cons_of_mem _ hx), ?_, fun x hx => ?_, fun o' ho' => ?_⟩
    · rw [h3]; simp [hd]
    · rcases h4 x hx with hx' | ⟨h, o', ho', h'⟩
      · rcases List.mem_cons.1 hx' with rfl | hx'
        · exact .inr ⟨hm, o, List.mem_cons_self .., hd⟩
        · exact .inl hx'
      · exact .inr ⟨h, o', List.mem_cons_of_mem _ ho', h'⟩
    · rcases List.mem_cons.1 ho' with rfl | ho'
      · exact ⟨d, φ, hd, h2 _ (List.mem_cons_self ..), fun e w hR hx => hs e w hR (Holds.of fun x hx' hs' => hx x (h2 x (List.mem_cons_of_mem _ hx')) hs')⟩
      · exact h5 o' ho'
end

/-- What is asked of the region's text: no slot is written twice, nor one of those that come in; whoever reads a slot waits for its writer; edges point back. -/
def drawOk (all : List Oper) (ins : List Nat) (n : Nat) : Bool :=
  decide ((all.map fun o => o.dst.getD 0).reverse ++ ins).Nodup &&
  all.all (fun o => o.dst.isSome && Nat.blt (o.dst.getD 0) n) &&
  all.zipIdx.all (fun (o, i) => o.after.toList.all (fun e => !Region.binds .any e || Nat.blt e.on i) &&
    all.zipIdx.all (fun (p, j) => !(rds all o).contains (p.dst.getD 0) || o.after.toList.any (fun e => Region.binds .any e && e.on == j)))

theorem nodup_inj {KN : Known} (h : (KN.map Prod.fst).Nodup) : ∀ x ∈ KN, ∀ y ∈ KN, x.1 = y.1 → x = y := by
  induction KN with
  | nil => intro x hx; cases hx
  | cons a KN ih =>
    simp only [List.map_cons, List.nodup_cons] at h
    intro x hx y hy hxy
    rcases List.mem_cons.1 hx with h1 | h1 <;> rcases List.mem_cons.1 hy with h2 | h2
    · rw [h1, h2]
    · subst h1; exact absurd (List.mem_map.2 ⟨y, h2, hxy.symm⟩) h.1
    · subst h2; exact absurd (List.mem_map.2 ⟨x, h1, hxy⟩) h.1
    · exact ih h.2 x h1 y h2 hxy

theorem all_listed {all : List Oper} {listed : Array Bool} (hsz : listed.size = all.length) (hb : ∀ (i : Nat) o, all[i]? = some o → ∀ e ∈ o.after.toList, Region.binds .any e = true → e.on < i)
    (hr : Region.ready .any all.toArray listed = []) : ∀ i, i < all.length → listed.getD i true = true := by
  intro i
  induction i using Nat.strongRecOn with
  | _ i ih =>
    intro hi
    cases hl : listed.getD i true with
    | true => rfl
    | false =>
      exfalso
      have hmem : i ∈ Region.ready .any all.toArray listed := by
        unfold Region.ready
        simp only [List.mem_filter, List.mem_range, List.size_toArray, hi, true_and, hl, Bool.not_false, Bool.true_and, List.getElem?_toArray]
        rw [List.getElem?_eq_getElem hi]
        simp only [Option.map_some, Option.getD_some]
        rw [Array.all_eq_true']
        intro e he
        cases hbi : Region.binds .any e with
        | false => simp
        | true =>
          have hlt := hb i _ (List.getElem?_eq_getElem hi) e (by simpa using he) hbi
          have := ih e.on hlt (by omega)
          simp only [Bool.not_true, Bool.false_or]
          have h2 : e.on < listed.size := by omega
          simpa [Array.getD, h2] using this
      rw [hr] at hmem
      cases hmem

theorem W.draw {P : Program} {Q : Exit → Env → World → Prop} {n : Nat} {e : Env} {w : World} {id : Nat} {l : List Oper} (R : World → World → Prop) (kn : Known) (hm : P.follows .mixedOrders = true) (hok : drawOk l (kn.map Prod.fst) n = true)
    (hrefl : ∀ w, R w w) (htrans : ∀ a b c, R a b → R b c → R a c) (hmono' : MonoAll R kn) (h0 : HoldsAll kn e w.drew)
    (h : WD P l R w.drew (fun KN => ∀ e' w', R w.drew w' → HoldsAll KN e' w' → Q .normal e' w') l kn) : W P (.region id l.toArray true) Q n e w := by
  have hmono := hmono'.mem
  obtain ⟨KN, hF, hsub, hfst, hor, hstep⟩ := WD.unroll l kn h
  simp only [drawOk, Bool.and_eq_true, decide_eq_true_eq, List.all_eq_true] at hok
  obtain ⟨⟨hnd, hdst⟩, hedge⟩ := hok
  have hnd' : (KN.map Prod.fst).Nodup := by rw [hfst]; exact hnd
  have hinj := nodup_inj hnd'
  have hmonoK : ∀ x ∈ KN, Mono R x.2 := fun x hx => by
    rcases hor x hx with hx | ⟨hm, _⟩
    · exact hmono x hx
    · exact hm
  have hback : ∀ (i : Nat) o, l[i]? = some o → ∀ e ∈ o.after.toList, Region.binds .any e = true → e.on < i := by
    intro i o ho e he hb
    have := (hedge (o, i) (List.mem_zipIdx_iff_getElem?.2 ho)).1 e he
    rw [hb] at this
    simpa using this
  have hwait : ∀ (i j : Nat) o p, l[i]? = some o → l[j]? = some p → p.dst.getD 0 ∈ rds l o → ∃ e ∈ o.after.toList, Region.binds .any e = true ∧ e.on = j := by
    intro i j o p ho hp hin
    have := (hedge (o, i) (List.mem_zipIdx_iff_getElem?.2 ho)).2 (p, j) (List.mem_zipIdx_iff_getElem?.2 hp)
    simp only [Bool.or_eq_true, Bool.not_eq_true', List.any_eq_true, Bool.and_eq_true, beq_iff_eq] at this
    rcases this with h | ⟨e, he, hb, hj⟩
    · simp only [List.contains_eq_mem, decide_eq_false_iff_not] at h; exact absurd hin h
    · exact ⟨e, he, hb, hj⟩
  refine ⟨fun D a ha => wp_region_any hm ?_⟩
  -- the invariant
  have main : ∀ (fuel : Nat) (listed : Array Bool) (a : Act) (w' : World) (e' : Env), listed.size = l.length → (∀ i, listed.getD i true = false → i < l.length) → (l.length ≤ fuel + (List.range l.length).countP (fun i => listed.getD i true)) → Rel D n a e' → R w.drew w' →
      (∀ x ∈ KN, (x ∈ kn ∨ ∃ j o, l[j]? = some o ∧ o.dst = some x.1 ∧ listed.getD j false = true) → x.2 (e' x.1) w') →
      wpAny P .any l.toArray (lift D n Q) fuel listed a w' := by
    intro fuel
    have fin : ∀ (listed : Array Bool) (a : Act) (w' : World) (e' : Env), listed.size = l.length → Rel D n a e' → R w.drew w' → (∀ x ∈ KN, (x ∈ kn ∨ ∃ j o, l[j]? = some o ∧ o.dst = some x.1 ∧ listed.getD j false = true) → x.2 (e' x.1) w') → (∀ i, i < l.length → listed.getD i true = true) → lift D n Q .normal a w' := by
      intro listed a w' e' hsz hr hR hx hall
      refine ⟨e', hr, hF e' w' hR (HoldsAll.of fun x hxm => hx x hxm ?_)⟩
      rcases hor x hxm with h | ⟨_, o, ho, hd⟩
      · exact .inl h
      · obtain ⟨j, hj⟩ := List.getElem?_of_mem ho
        have hjl : j < l.length := (List.getElem?_eq_some_iff.1 hj).1
        refine .inr ⟨j, o, hj, hd, ?_⟩
        have := hall j hjl
        have h2 : j < listed.size := by omega
        simpa [Array.getD, h2] using this
    induction fuel with
    | zero =>
      intro listed a w' e' hsz hin hcnt hr hR hx
      have hall : ∀ i, i < l.length → listed.getD i true = true := by
        intro i hi
        have hle := List.countP_le_length (p := fun i => listed.getD i true) (l := List.range l.length)
        have heq : (List.range l.length).countP (fun i => listed.getD i true) = (List.range l.length).length := by simp at hle ⊢; simp at hcnt; omega
        exact List.countP_eq_length.1 heq i (List.mem_range.2 hi)
      refine ⟨?_, fin listed a w' e' hsz hr hR hx hall⟩
      unfold Region.ready
      rw [List.filter_eq_nil_iff]
      intro i hi
      have hi' : i < l.length := by simpa using hi
      rw [hall i hi']
      simp
    | succ fuel ih =>
      intro listed a w' e' hsz hin hcnt hr hR hx
      refine ⟨fun hre => fin listed a w' e' hsz hr hR hx (all_listed hsz hback hre), fun i hi => ?_⟩
      obtain ⟨hiu, oi, hoi, hall⟩ := mem_ready.1 hi
      have hoi' : l[i]? = some oi := by simpa using hoi
      have hil : i < l.length := (List.getElem?_eq_some_iff.1 hoi').1
      obtain ⟨d, φ, hd, hmem, hs⟩ := hstep oi (List.mem_of_getElem? hoi')
      have hdn := (hdst oi (List.mem_of_getElem? hoi'))
      have hdn : Nat.blt d n = true := by simpa [hd] using hdn.2
      have hpre : ∀ x ∈ KN, x.1 ∈ rds l oi → x.2 (e' x.1) w' := by
        intro x hxm hxr
        refine hx x hxm ?_
        rcases hor x hxm with h | ⟨_, o, ho, hdo⟩
        · exact .inl h
        · obtain ⟨j, hj⟩ := List.getElem?_of_mem ho
          obtain ⟨ed, hed, hb, hej⟩ := hwait i j oi o hoi' hj (by rw [hdo]; exact hxr)
          refine .inr ⟨j, o, hj, hdo, ?_⟩
          have := hall ed (by simpa using hed) hb
          rw [hej] at this
          exact this
      have hsg := hs e' w' hR hpre _ n a hr
      have next : ∀ v w2, φ v w2 ∧ R w' w2 → wpAny P .any l.toArray (lift D n Q) fuel (listed.setIfInBounds i true) (a.put oi.dst v) w2 := by
        rintro v w2 ⟨hφ, hR2⟩
        rw [hd]
        refine ih _ _ _ (upd e' d v) (by simpa using hsz) (fun k hk => ?_) ?_ (hr.put hdn v) (htrans _ _ _ hR hR2) ?_
        · refine hin k ?_
          by_cases hki : k = i
          · subst hki; exact hiu
          · rw [Array.getD_eq_getD_getElem?, Array.getElem?_setIfInBounds_ne (by omega)] at hk
            rw [Array.getD_eq_getD_getElem?]; exact hk
        · have hcount : (List.range l.length).countP (fun k => listed.getD k true) + 1 ≤ (List.range l.length).countP (fun k => (listed.setIfInBounds i true).getD k true) := by
            have key : ∀ (r : List Nat), r.Nodup → i ∈ r → r.countP (fun k => listed.getD k true) + 1 ≤ r.countP (fun k => (listed.setIfInBounds i true).getD k true) := by
              intro r
              induction r with
              | nil => intro _ h; cases h
              | cons k r ihr =>
                intro hn hmem
                simp only [List.nodup_cons] at hn
                rw [List.countP_cons, List.countP_cons]
                by_cases hki : k = i
                · subst hki
                  have e1 : listed.getD k true = false := hiu
                  have e2 : (listed.setIfInBounds k true).getD k true = true := by
                    rw [Array.getD_eq_getD_getElem?, Array.getElem?_setIfInBounds]; simp; split <;> rfl
                  rw [e1, e2]
                  have : r.countP (fun k => listed.getD k true) ≤ r.countP (fun k' => (listed.setIfInBounds k true).getD k' true) := by
                    refine List.countP_mono_left fun k' hk' => ?_
                    intro h
                    by_cases hkk : k' = k
                    · subst hkk; exact absurd hk' hn.1
                    · rw [Array.getD_eq_getD_getElem?, Array.getElem?_setIfInBounds_ne (by omega)]
                      rw [Array.getD_eq_getD_getElem?] at h; exact h
                  rw [if_neg (by decide), if_pos rfl]; omega
                · have e1 : (listed.setIfInBounds i true).getD k true = listed.getD k true := by
                    rw [Array.getD_eq_getD_getElem?, Array.getElem?_setIfInBounds_ne (by omega), Array.getD_eq_getD_getElem?]
                  have := ihr hn.2 (by rcases List.mem_cons.1 hmem with h | h; exact absurd h.symm hki; exact h)
                  rw [e1]; omega
            exact key _ List.nodup_range (List.mem_range.2 hil)
          omega
        · intro x hxm hcond
          by_cases hxd : x.1 = d
          · have := hinj x hxm (d, φ) hmem hxd
            subst this
            simp only [upd]
            rw [show Nat.beq d d = true from Nat.beq_refl d]
            exact hφ
          · have hnb : Nat.beq x.1 d = false := beq_false hxd
            simp only [upd, hnb]
            refine hmonoK x hxm _ _ _ hR2 (hx x hxm ?_)
            rcases hcond with h | ⟨j, o, hj, hdo, hl⟩
            · exact .inl h
            · refine .inr ⟨j, o, hj, hdo, ?_⟩
              have hji : j ≠ i := by
                intro hji
                subst hji
                rw [hj] at hoi'
                simp only [Option.some.injEq] at hoi'
                subst hoi'
                rw [hdo] at hd
                simp only [Option.some.injEq] at hd
                exact hxd hd
              rw [Array.getD_eq_getD_getElem?, Array.getElem?_setIfInBounds_ne (by omega)] at hl
              rw [Array.getD_eq_getD_getElem?]; exact hl
      unfold wpOp
      rw [hoi]
      show (if Region.wanted oi (yielded l.toArray a.tmps) = true then _ else _)
      split
      · rename_i hw
        rw [if_pos hw] at hsg
        exact .inl (OP.wp hr.ev (hsg.mono next))
      · rename_i hw
        rw [if_neg hw] at hsg
        exact next undef w' hsg
  refine main _ _ a w.drew e (by simp) (fun i hi => ?_) (by simp) ha (hrefl _) (fun x hxm hc => ?_)
  · rw [Array.getD_eq_getD_getElem?, Array.getElem?_replicate] at hi
    split at hi
    · rename_i h; simpa using h
    · simp at hi
  · rcases hc with h | ⟨j, o, hj, hdo, hl⟩
    · exact h0.mem x h
    · rw [Array.getD_eq_getD_getElem?, Array.getElem?_replicate] at hl
      split at hl <;> simp at hl
end Go.Vc

set_option linter.unusedSimpArgs false
set_option linter.unusedVariables false
namespace Go.Vc
open Go Go.RowKit
variable {D : List Deferred}

theorem set_true {listed : Array Bool} {i k : Nat} (h : listed.getD k false = true) : (listed.setIfInBounds i true).getD k false = true := by
  rw [Array.getD_eq_getD_getElem?] at h ⊢
  rw [Array.getElem?_setIfInBounds]
  split
  · split
    · rfl
    · rename_i h1 h2; subst h1; rw [Array.getElem?_eq_none (by omega)] at h; simp at h
  · exact h
theorem tf {listed : Array Bool} {k : Nat} (h1 : listed.getD k false = true) (h2 : listed.getD k true = false) : False := by
  rw [Array.getD_eq_getD_getElem?] at h1 h2
  cases h : listed[k]? with
  | none => rw [h] at h1; cases h1
  | some b => rw [h] at h1 h2; simp only [Option.getD_some] at h1 h2; rw [h1] at h2; cases h2
theorem cnt_le (L m : Nat) (p : Nat → Bool) (h : ∀ k, k < L → p k = true → k < m) : (List.range L).countP p ≤ m := by
  have gen : ∀ L, (∀ k, k < L → p k = true → k < m) → (List.range L).countP p ≤ min L m := by
    intro L
    induction L with
    | zero => intro _; simp
    | succ L ih =>
      intro h
      have h1 := ih (fun k hk => h k (by omega))
      rw [List.range_succ, List.countP_append]
      by_cases hp : p L = true
      · have := h L (by omega) hp
        simp [hp]; omega
      · simp [hp]; omega
  have := gen L h
  omega
theorem waits {l : List Oper} {j i : Nat} {o : Oper} (ho : l[j]? = some o) (h : Region.waitsFor .any l.toArray j i = true) : ∃ e ∈ o.after.toList, Region.binds .any e = true ∧ e.on = i := by
  obtain ⟨oj, hoj, e, he, hb, hi⟩ := Region.waitsFor_spec h
  rw [List.getElem?_toArray, ho] at hoj
  simp only [Option.some.injEq] at hoj
  subst hoj
  exact ⟨e, by simpa using he, hb, hi⟩
theorem wpAny_seqF {P : Program} {md : Region.Mode} {ops : Array Oper} {Q' : Exit → Act → World → Prop} : ∀ (l : List Oper) (k : Nat) (listed : Array Bool) (a : Act) (w : World) (fuel : Nat), l.length ≤ fuel → (∀ j, l[j]? = ops[k + j]?) →
    Region.seqB md ops l.length k listed = true → wpList P ops Q' l a w → wpAny P md ops Q' fuel listed a w
  | [], k, listed, a, w, fuel, _, _, hB, h => by
    have hr : Region.ready md ops listed = [] := by simpa [Region.seqB] using hB
    cases fuel with
    | zero => exact ⟨hr, h⟩
    | succ f => exact ⟨fun _ => h, fun i hi => by rw [hr] at hi; cases hi⟩
  | o :: l, k, listed, a, w, fuel, hf, hl, hB, h => by
    cases fuel with
    | zero => simp at hf
    | succ f =>
      have h0 : ops[k]? = some o := by simpa using (hl 0).symm
      simp only [List.length_cons, Region.seqB, Bool.and_eq_true, decide_eq_true_eq] at hB
      refine ⟨fun h1 => (by rw [hB.1] at h1; cases h1), fun i hi => ?_⟩
      rw [hB.1] at hi
      have hik : i = k := by simpa using hi
      subst hik
      have hw : wpOp P ops Q' i (wpList P ops Q' l) a w := by unfold wpOp; simp only [h0]; exact h
      exact wpOp_mono (fun a' w' h' => wpAny_seqF l (i + 1) _ a' w' f (by simpa using hf) (fun j => by have := hl (j + 1); simpa [Nat.add_assoc, Nat.add_comm 1 j] using this) hB.2 h') hw
def drawOkT (all : List Oper) (m : Nat) (ins : List Nat) (n : Nat) : Bool :=
  decide (((all.take m).map fun o => o.dst.getD 0).reverse ++ ins).Nodup &&
  (all.take m).all (fun o => o.dst.isSome && Nat.blt (o.dst.getD 0) n) &&
  all.zipIdx.all (fun (o, i) => o.after.toList.all (fun e => !Region.binds .any e || Nat.blt e.on i)) &&
  (all.take m).zipIdx.all (fun (o, i) => (all.take m).zipIdx.all (fun (p, j) => !(rds all o).contains (p.dst.getD 0) || o.after.toList.any (fun e => Region.binds .any e && e.on == j))) &&
  decide (m < all.length) && Region.sinkB .any all.toArray m && Region.chainB .any all.toArray m &&
  Region.seqB .any all.toArray (all.length - m) m (List.replicate m true ++ List.replicate (all.length - m) false).toArray
theorem W.drawT {P : Program} {Q : Exit → Env → World → Prop} {n : Nat} {e : Env} {w : World} {id : Nat} {l : List Oper} (m : Nat) (R : World → World → Prop) (kn : Known) (hm : P.follows .mixedOrders = true) (hok : drawOkT l m (kn.map Prod.fst) n = true)
    (hrefl : ∀ w, R w w) (htrans : ∀ a b c, R a b → R b c → R a c) (hmono' : MonoAll R kn) (h0 : HoldsAll kn e w.drew)
    (h : WD P l R w.drew (fun KN => ∀ e' w', R w.drew w' → HoldsAll KN e' w' → WL P l (l.drop m) Q n e' w') (l.take m) kn) : W P (.region id l.toArray true) Q n e w := by
  have hmono := hmono'.mem
  obtain ⟨KN, hF, hsub, hfst, hor, hstep⟩ := WD.unroll (l.take m) kn h
  simp only [drawOkT, Bool.and_eq_true, decide_eq_true_eq, List.all_eq_true] at hok
  obtain ⟨⟨⟨⟨⟨⟨⟨hnd, hdst⟩, hedge⟩, hwt⟩, hml⟩, hsk⟩, hch⟩, hseq⟩ := hok
  have hnd' : (KN.map Prod.fst).Nodup := by rw [hfst]; exact hnd
  have hinj := nodup_inj hnd'
  have hmonoK : ∀ x ∈ KN, Mono R x.2 := fun x hx => by
    rcases hor x hx with hx | ⟨hm, _⟩
    · exact hmono x hx
    · exact hm
  have hback : ∀ (i : Nat) o, l[i]? = some o → ∀ e ∈ o.after.toList, Region.binds .any e = true → e.on < i := by
    intro i o ho e he hb
    have := (hedge (o, i) (List.mem_zipIdx_iff_getElem?.2 ho)) e he
    rw [hb] at this
    simpa using this
  have hwait : ∀ (i j : Nat) o p, (l.take m)[i]? = some o → (l.take m)[j]? = some p → p.dst.getD 0 ∈ rds l o → ∃ e ∈ o.after.toList, Region.binds .any e = true ∧ e.on = j := by
    intro i j o p ho hp hin
    have := (hwt (o, i) (List.mem_zipIdx_iff_getElem?.2 ho)) (p, j) (List.mem_zipIdx_iff_getElem?.2 hp)
    simp only [Bool.or_eq_true, Bool.not_eq_true', List.any_eq_true, Bool.and_eq_true, beq_iff_eq] at this
    rcases this with h | ⟨e, he, hb, hj⟩
    · simp only [List.contains_eq_mem, decide_eq_false_iff_not] at h; exact absurd hin h
    · exact ⟨e, he, hb, hj⟩
  have hsink : ∀ k, k < m → ∃ j, k < j ∧ j ≤ m ∧ Region.waitsFor .any l.toArray j k = true := by
    intro k hk
    unfold Region.sinkB at hsk
    rw [List.all_eq_true] at hsk
    have := hsk k (List.mem_range.2 hk)
    rw [List.any_eq_true] at this
    obtain ⟨j, hj, h⟩ := this
    simp only [Bool.and_eq_true, decide_eq_true_eq] at h
    exact ⟨j, h.1, by have := List.mem_range.1 hj; omega, h.2⟩
  have hchain : ∀ t, t < l.length → t ≤ m ∨ Region.waitsFor .any l.toArray t (t - 1) = true := by
    intro t ht
    unfold Region.chainB at hch
    rw [List.all_eq_true] at hch
    have := hch t (List.mem_range.2 (by simpa using ht))
    simpa using this
  refine ⟨fun D a ha => wp_region_any hm ?_⟩
  have main : ∀ (fuel : Nat) (listed : Array Bool) (a : Act) (w' : World) (e' : Env), listed.size = l.length → (∀ i, listed.getD i true = false → i < l.length) → (∀ t, m ≤ t → t < l.length → listed.getD t true = false) → (∀ j oj, l[j]? = some oj → listed.getD j false = true → ∀ e ∈ oj.after.toList, Region.binds .any e = true → listed.getD e.on false = true) → (l.length ≤ fuel + (List.range l.length).countP (fun i => listed.getD i true)) → Rel D n a e' → R w.drew w' →
      (∀ x ∈ KN, (x ∈ kn ∨ ∃ j o, l[j]? = some o ∧ o.dst = some x.1 ∧ listed.getD j false = true) → x.2 (e' x.1) w') →
      wpAny P .any l.toArray (lift D n Q) fuel listed a w' := by
    intro fuel
    induction fuel with
    | zero =>
      intro listed a w' e' hsz hin htail hclosed hcnt hr hR hx
      have := cnt_le l.length m (fun k => listed.getD k true) (fun k hk h => by rcases Nat.lt_or_ge k m with h1 | h1; exact h1; rw [htail k h1 hk] at h; cases h)
      omega
    | succ fuel ih =>
      intro listed a w' e' hsz hin htail hclosed hcnt hr hR hx
      refine ⟨fun hre => (by
        have := all_listed hsz hback hre m hml
        rw [htail m (Nat.le_refl _) hml] at this
        cases this), fun i hi => ?_⟩
      obtain ⟨hiu, oi, hoi, hall⟩ := mem_ready.1 hi
      have hoi' : l[i]? = some oi := by simpa using hoi
      have hil : i < l.length := (List.getElem?_eq_some_iff.1 hoi').1
      by_cases him : i < m
      rotate_left
      · -- the tail
        have hi_m : i = m := by
          rcases Nat.lt_or_ge m i with h | h
          · exfalso
            have hc := hchain i hil
            rcases hc with hc | hc
            · omega
            · obtain ⟨ed, hed, hb, hej⟩ := waits hoi' hc
              have h1 := hall ed (by simpa using hed) hb
              rw [hej] at h1
              have h2 := htail (i - 1) (by omega) (by omega)
              exact tf h1 h2
          · omega
        subst hi_m
        have heads : ∀ d k, i - k = d → k < i → listed.getD k false = true := by
          intro d
          induction d using Nat.strongRecOn with
          | _ d ihd =>
            intro k hkd hki
            obtain ⟨j, hkj, hjm, hw⟩ := hsink k hki
            by_cases hji : j = i
            · subst hji
              obtain ⟨ed, hed, hb, hej⟩ := waits hoi' hw
              have h1 := hall ed (by simpa using hed) hb
              rwa [hej] at h1
            · have hj := ihd (i - j) (by omega) j rfl (by omega)
              have hjl : j < l.length := by omega
              obtain ⟨ed, hed, hb, hej⟩ := waits (List.getElem?_eq_getElem hjl) hw
              have h1 := hclosed j _ (List.getElem?_eq_getElem hjl) hj ed hed hb
              rwa [hej] at h1
        have hL : listed = (List.replicate i true ++ List.replicate (l.length - i) false).toArray := by
          apply Array.ext_getElem?
          intro k
          by_cases hkl : k < l.length
          · have hks : k < listed.size := by omega
            by_cases hki : k < i
            · have h1 := heads _ k rfl hki
              rw [Array.getD_eq_getD_getElem?, Array.getElem?_eq_getElem hks] at h1
              rw [Array.getElem?_eq_getElem hks]
              simp only [Option.getD_some] at h1
              rw [h1]
              simp [List.getElem?_append, hki]
            · have h1 := htail k (by omega) hkl
              rw [Array.getD_eq_getD_getElem?, Array.getElem?_eq_getElem hks] at h1
              rw [Array.getElem?_eq_getElem hks]
              simp only [Option.getD_some] at h1
              rw [h1, List.getElem?_toArray, List.getElem?_append_right (by rw [List.length_replicate]; omega), List.getElem?_replicate, if_pos (by rw [List.length_replicate]; omega)]
          · rw [Array.getElem?_eq_none (by omega), Array.getElem?_eq_none (by simp; omega)]
        have hwl := hF e' w' hR (HoldsAll.of fun x hxm => hx x hxm (by
          rcases hor x hxm with h | ⟨_, o, ho, hdo⟩
          · exact .inl h
          · obtain ⟨j, hj⟩ := List.getElem?_of_mem ho
            have hjm : j < i := by
              have := (List.getElem?_eq_some_iff.1 hj).1
              simp at this; omega
            have hj' : l[j]? = some o := by rw [List.getElem?_take] at hj; simpa [hjm] using hj
            exact .inr ⟨j, o, hj', hdo, heads _ j rfl hjm⟩))
        have hsq := wpAny_seqF (P := P) (ops := l.toArray) (Q' := lift D n Q) (l.drop i) i listed a w' (fuel + 1) (by rw [List.length_drop]; have := cnt_le l.length i (fun k => listed.getD k true) (fun k hk h => by rcases Nat.lt_or_ge k i with h1 | h1; exact h1; rw [htail k h1 hk] at h; cases h); omega) (fun j => by rw [List.getElem?_drop]; simp) (by rw [hL, List.length_drop]; exact hseq) (hwl.out D a hr)
        exact hsq.2 i hi
      have hoiT : (l.take m)[i]? = some oi := by rw [List.getElem?_take]; simpa [him] using hoi'
      obtain ⟨d, φ, hd, hmem, hs⟩ := hstep oi (List.mem_of_getElem? hoiT)
      have hdn := (hdst oi (List.mem_of_getElem? hoiT))
      have hdn : Nat.blt d n = true := by simpa [hd] using hdn.2
      have hpre : ∀ x ∈ KN, x.1 ∈ rds l oi → x.2 (e' x.1) w' := by
        intro x hxm hxr
        refine hx x hxm ?_
        rcases hor x hxm with h | ⟨_, o, ho, hdo⟩
        · exact .inl h
        · obtain ⟨j, hj⟩ := List.getElem?_of_mem ho
          obtain ⟨ed, hed, hb, hej⟩ := hwait i j oi o hoiT hj (by rw [hdo]; exact hxr)
          have hjm : j < m := by
            have := (List.getElem?_eq_some_iff.1 hj).1
            simp at this; omega
          have hj' : l[j]? = some o := by rw [List.getElem?_take] at hj; simpa [hjm] using hj
          refine .inr ⟨j, o, hj', hdo, ?_⟩
          have := hall ed (by simpa using hed) hb
          rw [hej] at this
          exact this
      have hsg := hs e' w' hR hpre _ n a hr
      have next : ∀ v w2, φ v w2 ∧ R w' w2 → wpAny P .any l.toArray (lift D n Q) fuel (listed.setIfInBounds i true) (a.put oi.dst v) w2 := by
        rintro v w2 ⟨hφ, hR2⟩
        rw [hd]
        refine ih _ _ _ (upd e' d v) (by simpa using hsz) (fun k hk => ?_) (fun t ht htl => ?_) ?_ ?_ (hr.put hdn v) (htrans _ _ _ hR hR2) ?_
        · refine hin k ?_
          by_cases hki : k = i
          · subst hki; exact hiu
          · rw [Array.getD_eq_getD_getElem?, Array.getElem?_setIfInBounds_ne (by omega)] at hk
            rw [Array.getD_eq_getD_getElem?]; exact hk
        · rw [Array.getD_eq_getD_getElem?, Array.getElem?_setIfInBounds_ne (by omega)]
          have := htail t ht htl
          rw [Array.getD_eq_getD_getElem?] at this; exact this
        · intro j oj hoj hl e he hb
          by_cases hji : j = i
          · subst hji
            rw [hoi'] at hoj
            simp only [Option.some.injEq] at hoj
            subst hoj
            have h1 := hall e (by simpa using he) hb
            exact set_true h1
          · have h2 : listed.getD j false = true := by
              rw [Array.getD_eq_getD_getElem?, Array.getElem?_setIfInBounds_ne (by omega)] at hl
              rw [Array.getD_eq_getD_getElem?]; exact hl
            exact set_true (hclosed j oj hoj h2 e he hb)
        · have hcount : (List.range l.length).countP (fun k => listed.getD k true) + 1 ≤ (List.range l.length).countP (fun k => (listed.setIfInBounds i true).getD k true) := by
            have key : ∀ (r : List Nat), r.Nodup → i ∈ r → r.countP (fun k => listed.getD k true) + 1 ≤ r.countP (fun k => (listed.setIfInBounds i true).getD k true) := by
              intro r
              induction r with
              | nil => intro _ h; cases h
              | cons k r ihr =>
                intro hn hmem
                simp only [List.nodup_cons] at hn
                rw [List.countP_cons, List.countP_cons]
                by_cases hki : k = i
                · subst hki
                  have e1 : listed.getD k true = false := hiu
                  have e2 : (listed.setIfInBounds k true).getD k true = true := by
                    rw [Array.getD_eq_getD_getElem?, Array.getElem?_setIfInBounds]; simp; split <;> rfl
                  rw [e1, e2]
                  have : r.countP (fun k => listed.getD k true) ≤ r.countP (fun k' => (listed.setIfInBounds k true).getD k' true) := by
                    refine List.countP_mono_left fun k' hk' => ?_
                    intro h
                    by_cases hkk : k' = k
                    · subst hkk; exact absurd hk' hn.1
                    · rw [Array.getD_eq_getD_getElem?, Array.getElem?_setIfInBounds_ne (by omega)]
                      rw [Array.getD_eq_getD_getElem?] at h; exact h
                  rw [if_neg (by decide), if_pos rfl]; omega
                · have e1 : (listed.setIfInBounds i true).getD k true = listed.getD k true := by
                    rw [Array.getD_eq_getD_getElem?, Array.getElem?_setIfInBounds_ne (by omega), Array.getD_eq_getD_getElem?]
                  have := ihr hn.2 (by rcases List.mem_cons.1 hmem with h | h; exact absurd h.symm hki; exact h)
                  rw [e1]; omega
            exact key _ List.nodup_range (List.mem_range.2 hil)
          omega
        · intro x hxm hcond
          by_cases hxd : x.1 = d
          · have := hinj x hxm (d, φ) hmem hxd
            subst this
            simp only [upd]
            rw [show Nat.beq d d = true from Nat.beq_refl d]
            exact hφ
          · have hnb : Nat.beq x.1 d = false := beq_false hxd
            simp only [upd, hnb]
            refine hmonoK x hxm _ _ _ hR2 (hx x hxm ?_)
            rcases hcond with h | ⟨j, o, hj, hdo, hl⟩
            · exact .inl h
            · refine .inr ⟨j, o, hj, hdo, ?_⟩
              have hji : j ≠ i := by
                intro hji
                subst hji
                rw [hj] at hoi'
                simp only [Option.some.injEq] at hoi'
                subst hoi'
                rw [hdo] at hd
                simp only [Option.some.injEq] at hd
                exact hxd hd
              rw [Array.getD_eq_getD_getElem?, Array.getElem?_setIfInBounds_ne (by omega)] at hl
              rw [Array.getD_eq_getD_getElem?]; exact hl
      unfold wpOp
      rw [hoi]
      show (if Region.wanted oi (yielded l.toArray a.tmps) = true then _ else _)
      split
      · rename_i hw
        rw [if_pos hw] at hsg
        exact .inl (OP.wp hr.ev (hsg.mono next))
      · rename_i hw
        rw [if_neg hw] at hsg
        exact next undef w' hsg
  refine main _ _ a w.drew e (by simp) (fun i hi => ?_) (fun t ht htl => ?_) (fun j oj hoj hl => ?_) (by simp) ha (hrefl _) (fun x hxm hc => ?_)
  · rw [Array.getD_eq_getD_getElem?, Array.getElem?_replicate] at hi
    split at hi
    · rename_i h; simpa using h
    · simp at hi
  · rw [Array.getD_eq_getD_getElem?, Array.getElem?_replicate]
    simp [htl]
  · rw [Array.getD_eq_getD_getElem?, Array.getElem?_replicate] at hl
    split at hl <;> simp at hl
  · rcases hc with h | ⟨j, o, hj, hdo, hl⟩
    · exact h0.mem x h
    · rw [Array.getD_eq_getD_getElem?, Array.getElem?_replicate] at hl
      split at hl <;> simp at hl
end Go.Vc

set_option linter.unusedSimpArgs false
set_option linter.unusedVariables false
namespace Go.Vc
open Go Go.RowKit
variable {D : List Deferred}

def CaX (P : Program) (f : FuncId) (args : Array Value) (w : World) (R : Value → World → Prop) (S : List PanicEntry → World → Prop) : Prop :=
  Calls P f args w (fun e w' => match e with | .returned v => R v w' | .panicked ch => S ch w' | .outgrown => False)
theorem CaX.mono {P : Program} {f : FuncId} {args : Array Value} {w : World} {R R' : Value → World → Prop} {S S' : List PanicEntry → World → Prop} (h : CaX P f args w R S) (hr : ∀ v w', R v w' → R' v w') (hs : ∀ ch w', S ch w' → S' ch w') : CaX P f args w R' S' :=
  Calls.mono h fun e w' he => by cases e <;> simp only at he ⊢ <;> first | exact hr _ _ he | exact hs _ _ he | exact he
theorem Ca.x {P : Program} {f : FuncId} {args : Array Value} {w : World} {R : Value → World → Prop} {S : List PanicEntry → World → Prop} (h : Ca P f args w R) : CaX P f args w R S :=
  Calls.mono h fun e w' he => by cases e <;> simp only at he ⊢ <;> first | exact he | exact he.elim
def postX (fn : Func) (P : Program) (R : Value → World → Prop) (S : List PanicEntry → World → Prop) : Exit → Env → World → Prop
  | .normal, e, w | .ret, e, w => Rt fn P R e w
  | .panic ch, _, w => S ch w
  | _, _, _ => False
theorem CaX.of {P : Program} {f : FuncId} {fn : Func} {c : Code} {l : List Value} {w : World} {R : Value → World → Prop} {S : List PanicEntry → World → Prop} {n : Nat} (hf : P.funcs[f]? = some fn) (hm : fn.ntmps = n) (hb : fn.body = some c)
    (hn : Nat.ble l.length n = true) (h : W P c (postX fn P R S) n (envOf l) w) : CaX P f l.toArray w R S := by
  subst hm
  have hn' : l.length ≤ fn.ntmps := by simpa using hn
  refine calls_of_wp hf hb (wp_mono (h.out [] _ ?_) ?_)
  · have := Rel.mk' l (fn.ntmps - l.length)
    rw [Nat.add_sub_cancel' hn'] at this
    simpa using this
  · rintro x a w ⟨e', hr, hq⟩
    cases x <;> simp only [postX] at hq <;> first
      | exact hq.elim
      | exact ⟨hr.defers, hq⟩
      | (obtain ⟨v, h1, h2⟩ := hq.out _ a hr; exact ⟨hr.defers, v, h1, h2⟩)
section
variable {P : Program} {e : Env} {w : World} {n : Nat} {Q : Exit → Env → World → Prop}
def OPX (P : Program) (e : Env) (op : Op) (ty : TypeId) (w : World) (K : Value → World → Prop) (S : List PanicEntry → World → Prop) : Prop :=
  match (execOp (ev e) ⟨none, op, ty, "", #[], none⟩).run P w with
  | .ok (.value v) w' => K v w'
  | .ok .skip w' => K undef w'
  | .ok (.enter f args) w' => CaX P f args w' K S
  | .halt (.panic v) w' => S [{ v, recovered := false }] w'
  | _ => False
theorem OPX.wp {o : Oper} {a : Act} {K : Act → World → Prop} {Q : Exit → Act → World → Prop} (ha : a.eval = ev e) (h : OPX P e o.op o.type w (fun v w' => K (a.put o.dst v) w') (fun ch w' => Q (.panic ch) a w')) : o.wp P a w K Q := by
  unfold Oper.wp
  rw [exec_of, ha]
  unfold OPX at h
  revert h
  generalize (execOp (ev e) ⟨none, o.op, o.type, "", #[], none⟩).run P w = r
  intro h
  cases r with
  | ok nx w' =>
    cases nx <;> simp only [Oper.upon] <;> simp only at h <;> first
      | exact h
      | exact h.elim
      | exact Calls.mono h (fun e w'' he => by cases e <;> simp only at he <;> first | exact he | exact he.elim)
  | halt x w' => cases x <;> simp only [Oper.upon] <;> simp only at h <;> first | exact h | exact h.elim
theorem OPX.mono {op : Op} {ty : TypeId} {K K' : Value → World → Prop} {S S' : List PanicEntry → World → Prop} (h : OPX P e op ty w K S) (hk : ∀ v w', K v w' → K' v w') (hs : ∀ ch w', S ch w' → S' ch w') : OPX P e op ty w K' S' := by
  unfold OPX at *
  revert h
  generalize (execOp (ev e) ⟨none, op, ty, "", #[], none⟩).run P w = r
  intro h
  cases r with
  | ok nx w' =>
    cases nx <;> simp only at h ⊢ <;> first
      | exact hk _ _ h
      | exact h
      | exact CaX.mono h hk hs
  | halt x w' => cases x <;> simp only at h ⊢ <;> first | exact hs _ _ h | exact h
theorem OP.x {op : Op} {ty : TypeId} {K : Value → World → Prop} {S : List PanicEntry → World → Prop} (h : OP P e op ty w K) : OPX P e op ty w K S := by
  unfold OP at h
  unfold OPX
  revert h
  generalize (execOp (ev e) ⟨none, op, ty, "", #[], none⟩).run P w = r
  intro h
  cases r with
  | ok nx w' =>
    cases nx <;> simp only at h ⊢ <;> first
      | exact h
      | exact Ca.x h
  | halt x w' => exact h.elim
variable {K : Value → World → Prop} {S : List PanicEntry → World → Prop} {ty : TypeId}
theorem o_callC {g : Operand} {f : FuncId} {caps : Array Value} {l : List Operand} {vs : List Value} {ats : Array TypeId} (hg : ev e g = .func (.func f) #[] caps) (hc : ∀ args w, (callFunc f args).run P w = .ok (.enter f args) w) (ha : l.map (ev e) = vs) (h : Ca P f (vs ++ caps.toList).toArray w K) : OP P e (.call ⟨.value g, l.toArray, ats⟩) ty w K := by
  subst ha
  unfold OP
  have : (execOp (ev e) ⟨none, .call ⟨.value g, l.toArray, ats⟩, ty, "", #[], none⟩).run P w = .ok (.enter f ((l.map (ev e)) ++ caps.toList).toArray) w := by
    simp [execOp, resolve, Deferred.ofValue, hg, invoke, hc]
  rw [this]
  exact h
end

def SGX (P : Program) (all : List Oper) (e : Env) (o : Oper) (w : World) (K : Value → World → Prop) (S : List PanicEntry → World → Prop) : Prop :=
  ∀ D n a, Rel D n a e → if Region.wanted o (yielded all.toArray a.tmps) then OPX P e o.op o.type w K S else K undef w
theorem SGX.n {P : Program} {all : List Oper} {e : Env} {w : World} {K : Value → World → Prop} {S : List PanicEntry → World → Prop} {op : Op} {ty : TypeId} {dst : Option Nat} {pos : String} {after : Array Edge} (h : OPX P e op ty w K S) : SGX P all e ⟨dst, op, ty, pos, after, none⟩ w K S := fun D n a ha => by
  rw [if_pos (by simp [Region.wanted])]; exact h
/-- operation i waits for j, by one edge or by some -/
def anc (all : List Oper) : Nat → Nat → Nat → Bool
  | 0, _, _ => false
  | f + 1, i, j => match all[i]? with
    | some o => o.after.toList.any (fun e => Region.binds .any e && (e.on == j || anc all f e.on j))
    | none => false
theorem anc_listed {all : List Oper} {listed : Array Bool} (hclosed : ∀ j oj, all[j]? = some oj → listed.getD j false = true → ∀ e ∈ oj.after.toList, Region.binds .any e = true → listed.getD e.on false = true) :
    ∀ f i j o, all[i]? = some o → (∀ e ∈ o.after.toList, Region.binds .any e = true → listed.getD e.on false = true) → anc all f i j = true → listed.getD j false = true
  | 0, _, _, _, _, _, h => by cases h
  | f + 1, i, j, o, ho, hw, h => by
    rw [anc, ho] at h
    simp only [List.any_eq_true, Bool.and_eq_true, Bool.or_eq_true, beq_iff_eq] at h
    obtain ⟨e, he, hb, hj⟩ := h
    have h1 := hw e he hb
    rcases hj with hj | hj
    · rw [← hj]; exact h1
    · cases f with
      | zero => cases hj
      | succ f =>
        have hj2 := hj
        rw [anc] at hj2
        cases ho2 : all[e.on]? with
        | none => rw [ho2] at hj2; cases hj2
        | some o2 => exact anc_listed hclosed (f + 1) e.on j o2 ho2 (hclosed _ _ ho2 h1) hj
def stOk (all : List Oper) (mu : List Nat) (i s : Nat) : Bool :=
  match s with
  | 0 => true
  | s + 1 => match mu[s]? with
    | some j => j == i || anc all 40 i j
    | none => false
def WDS (P : Program) (all : List Oper) (Q : Exit → Env → World → Prop) (Rs : Nat → World → World → Prop) (Wd : Nat → World → Prop) (mu : List Nat) (w0 : World) (F : Known → Prop) : List Oper → Nat → Known → Prop
  | [], _, kn => F kn
  | o :: l, i, kn => ∃ d φ s, o.dst = some d ∧ Mono (Rs s) φ ∧ stOk all mu i s = true ∧
      ((i ∉ mu ∧ ∀ e w, Rs 0 w0 w → Holds kn (rds all o) e w → SG P all e o w (fun v w' => φ v w' ∧ Ext w w')) ∨
       ∃ t, mu[t]? = some i ∧ ∀ e w, Rs 0 w0 w → Wd t w → Holds kn (rds all o) e w → SGX P all e o w (fun v w' => φ v w' ∧ Rs t w w' ∧ Wd (t + 1) w') (fun ch w' => Q (.panic ch) e w')) ∧
      WDS P all Q Rs Wd mu w0 F l (i + 1) ((d, φ) :: kn)
section
variable {P : Program} {all : List Oper} {Q : Exit → Env → World → Prop} {Rs : Nat → World → World → Prop} {Wd : Nat → World → Prop} {mu : List Nat} {w0 : World} {F : Known → Prop} {o : Oper} {l : List Oper} {kn : Known} {d i : Nat}
theorem WDS.p {V : Value} (hd : o.dst = some d) (hi : i ∉ mu) (h : ∀ e w, Rs 0 w0 w → Holds kn (rds all o) e w → SG P all e o w (fun v w' => v = V ∧ Ext w w')) (k : WDS P all Q Rs Wd mu w0 F l (i + 1) ((d, fun v _ => v = V) :: kn)) : WDS P all Q Rs Wd mu w0 F (o :: l) i kn :=
  ⟨d, fun v _ => v = V, 0, hd, fun _ _ _ _ h => h, rfl, .inl ⟨hi, h⟩, k⟩
theorem WDS.q (s : Nat) (φ : Value → World → Prop) (hm : Mono (Rs s) φ) (hs : stOk all mu i s = true) (hd : o.dst = some d) (hi : i ∉ mu) (h : ∀ e w, Rs 0 w0 w → Holds kn (rds all o) e w → SG P all e o w (fun v w' => φ v w' ∧ Ext w w')) (k : WDS P all Q Rs Wd mu w0 F l (i + 1) ((d, φ) :: kn)) : WDS P all Q Rs Wd mu w0 F (o :: l) i kn :=
  ⟨d, φ, s, hd, hm, hs, .inl ⟨hi, h⟩, k⟩
theorem WDS.m (t s : Nat) (φ : Value → World → Prop) (hm : Mono (Rs s) φ) (hs : stOk all mu i s = true) (hd : o.dst = some d) (hi : mu[t]? = some i) (h : ∀ e w, Rs 0 w0 w → Wd t w → Holds kn (rds all o) e w → SGX P all e o w (fun v w' => φ v w' ∧ Rs t w w' ∧ Wd (t + 1) w') (fun ch w' => Q (.panic ch) e w')) (k : WDS P all Q Rs Wd mu w0 F l (i + 1) ((d, φ) :: kn)) : WDS P all Q Rs Wd mu w0 F (o :: l) i kn :=
  ⟨d, φ, s, hd, hm, hs, .inr ⟨t, hi, h⟩, k⟩
theorem WDS.unroll : ∀ (l : List Oper) (i : Nat) (kn : Known), WDS P all Q Rs Wd mu w0 F l i kn → ∃ KN : Known, F KN ∧ (∀ x ∈ kn, x ∈ KN) ∧ KN.map Prod.fst = ((l.map fun o => o.dst.getD 0).reverse ++ kn.map Prod.fst) ∧
    (∀ x ∈ KN, x ∈ kn ∨ ∃ j o s, l[j]? = some o ∧ o.dst = some x.1 ∧ Mono (Rs s) x.2 ∧ stOk all mu (i + j) s = true) ∧
    ∀ j o, l[j]? = some o → ∃ d φ, o.dst = some d ∧ (d, φ) ∈ KN ∧
      ((i + j ∉ mu ∧ ∀ e w, Rs 0 w0 w → (∀ x ∈ KN, x.1 ∈ rds all o → x.2 (e x.1) w) → SG P all e o w (fun v w' => φ v w' ∧ Ext w w')) ∨
       ∃ t, mu[t]? = some (i + j) ∧ ∀ e w, Rs 0 w0 w → Wd t w → (∀ x ∈ KN, x.1 ∈ rds all o → x.2 (e x.1) w) → SGX P all e o w (fun v w' => φ v w' ∧ Rs t w w' ∧ Wd (t + 1) w') (fun ch w' => Q (.panic ch) e w'))
  | [], i, kn, h => ⟨kn, h, fun _ h => h, by simp, fun _ h => .inl h, fun j o ho => by simp at ho⟩
  | o :: l, i, kn, h => by
    obtain ⟨d, φ, s, hd, hm, hst, hs, hk⟩ := h
    obtain ⟨KN, h1, h2, h3, h4, h5⟩ := WDS.unroll l (i + 1) _ hk
    refine ⟨KN, h1, fun x hx => h2 x (List.mem_cons_of_mem _ hx), ?_, fun x hx => ?_, fun j o' ho' => ?_⟩
    · rw [h3]; simp [hd]
    · rcases h4 x hx with hx' | ⟨j, o', s', ho', hd', hm', hst'⟩
      · rcases List.mem_cons.1 hx' with rfl | hx'
        · exact .inr ⟨0, o, s, rfl, hd, hm, by simpa using hst⟩
        · exact .inl hx'
      · exact .inr ⟨j + 1, o', s', by simpa using ho', hd', hm', by rw [show i + (j + 1) = i + 1 + j by omega]; exact hst'⟩
    · cases j with
      | zero =>
        simp only [List.getElem?_cons_zero, Option.some.injEq] at ho'
        subst ho'
        refine ⟨d, φ, hd, h2 _ (List.mem_cons_self ..), ?_⟩
        rcases hs with ⟨hi, hs⟩ | ⟨t, hi, hs⟩
        · exact .inl ⟨by simpa using hi, fun e w hR hx => hs e w hR (Holds.of fun x hx' hs' => hx x (h2 x (List.mem_cons_of_mem _ hx')) hs')⟩
        · exact .inr ⟨t, by simpa using hi, fun e w hR hW hx => hs e w hR hW (Holds.of fun x hx' hs' => hx x (h2 x (List.mem_cons_of_mem _ hx')) hs')⟩
      | succ j =>
        simp only [List.getElem?_cons_succ] at ho'
        rw [show i + (j + 1) = i + 1 + j by omega]
        exact h5 j o' ho'
end
def muOk (all : List Oper) (m : Nat) (mu : List Nat) : Bool :=
  decide mu.Nodup && mu.all (fun i => Nat.blt i m) && (List.range (mu.length - 1)).all (fun u => anc all 40 (mu.getD (u + 1) 0) (mu.getD u 0))
theorem Rs_le {Rs : Nat → World → World → Prop} (hA : ∀ s a b, Rs (s + 1) a b → Rs s a b) {a b : World} : ∀ {t s : Nat}, s ≤ t → Rs t a b → Rs s a b
  | 0, s, h, hR => by have : s = 0 := by omega
                      subst this; exact hR
  | t + 1, s, h, hR => by
    by_cases e : s = t + 1
    · subst e; exact hR
    · exact Rs_le hA (by omega) (hA t a b hR)
theorem W.drawC {P : Program} {Q : Exit → Env → World → Prop} {n : Nat} {e : Env} {w : World} {id : Nat} {l : List Oper} (m : Nat) (mu : List Nat) (Rs : Nat → World → World → Prop) (Wd : Nat → World → Prop) (kn : Known) (hm : P.follows .mixedOrders = true) (hok : drawOkT l m (kn.map Prod.fst) n = true) (hmuOk : muOk l m mu = true)
    (hE : ∀ s a b, Ext a b → Rs s a b) (hA : ∀ s a b, Rs (s + 1) a b → Rs s a b) (htrans : ∀ a b c, Rs 0 a b → Rs 0 b c → Rs 0 a c) (hW : ∀ t a b, Wd t a → Ext a b → Wd t b) (hW0 : Wd 0 w.drew) (hmono' : MonoAll (Rs 0) kn) (h0 : HoldsAll kn e w.drew)
    (h : WDS P l Q Rs Wd mu w.drew (fun KN => ∀ e' w', Rs 0 w.drew w' → Wd mu.length w' → HoldsAll KN e' w' → WL P l (l.drop m) Q n e' w') (l.take m) 0 kn) : W P (.region id l.toArray true) Q n e w := by
  have hmono := hmono'.mem
  obtain ⟨KN, hF, hsub, hfst, hor', hstep'⟩ := WDS.unroll (l.take m) 0 kn h
  have hor : ∀ x ∈ KN, x ∈ kn ∨ ∃ j o s, (l.take m)[j]? = some o ∧ o.dst = some x.1 ∧ Mono (Rs s) x.2 ∧ stOk l mu j s = true := fun x hx => by
    rcases hor' x hx with h | ⟨j, o, s, h1, h2, h3, h4⟩
    · exact .inl h
    · exact .inr ⟨j, o, s, h1, h2, h3, by simpa using h4⟩
  simp only [Nat.zero_add] at hstep'
  simp only [muOk, Bool.and_eq_true, decide_eq_true_eq, List.all_eq_true] at hmuOk
  obtain ⟨⟨hmun, hmum⟩, hmuc⟩ := hmuOk
  simp only [drawOkT, Bool.and_eq_true, decide_eq_true_eq, List.all_eq_true] at hok
  obtain ⟨⟨⟨⟨⟨⟨⟨hnd, hdst⟩, hedge⟩, hwt⟩, hml⟩, hsk⟩, hch⟩, hseq⟩ := hok
  have hnd' : (KN.map Prod.fst).Nodup := by rw [hfst]; exact hnd
  have hinj := nodup_inj hnd'
  have hndT : ((l.take m).map (fun o => o.dst.getD 0)).Nodup := by have := (List.nodup_append.1 hnd).1; rw [List.Nodup, List.pairwise_reverse] at this; exact this.imp (fun h => h.symm)
  have hkn_out : ∀ x ∈ kn, ∀ (j : Nat) (o : Oper), j < m → l[j]? = some o → o.dst = some x.1 → False := fun x hx j o hjm hj hd => by
    have h1 : (l.take m)[j]? = some o := by rw [List.getElem?_take]; simpa [hjm] using hj
    have h2 : x.1 ∈ ((l.take m).map (fun o => o.dst.getD 0)).reverse := List.mem_reverse.2 (List.mem_map.2 ⟨o, List.mem_of_getElem? h1, by rw [hd]; rfl⟩)
    exact (List.nodup_append.1 hnd).2.2 _ h2 _ (List.mem_map.2 ⟨x, hx, rfl⟩) rfl
  have hdst_inj : ∀ (j2 j : Nat) (o2 o : Oper) (c : Nat), j2 < m → j < m → l[j2]? = some o2 → l[j]? = some o → o2.dst = some c → o.dst = some c → j2 = j := fun j2 j o2 o c h2m hjm hj2 hj hd2 hd => by
    have h1 : ((l.take m).map (fun o => o.dst.getD 0))[j]? = some c := by rw [List.getElem?_map, List.getElem?_take, if_pos hjm, hj, Option.map_some, hd]; rfl
    have h2 : ((l.take m).map (fun o => o.dst.getD 0))[j2]? = some c := by rw [List.getElem?_map, List.getElem?_take, if_pos h2m, hj2, Option.map_some, hd2]; rfl
    exact (List.getElem?_inj (List.getElem?_eq_some_iff.1 h2).1 hndT).1 (h2.trans h1.symm)
  have hback : ∀ (i : Nat) o, l[i]? = some o → ∀ e ∈ o.after.toList, Region.binds .any e = true → e.on < i := by
    intro i o ho e he hb
    have := (hedge (o, i) (List.mem_zipIdx_iff_getElem?.2 ho)) e he
    rw [hb] at this
    simpa using this
  have hwait : ∀ (i j : Nat) o p, (l.take m)[i]? = some o → (l.take m)[j]? = some p → p.dst.getD 0 ∈ rds l o → ∃ e ∈ o.after.toList, Region.binds .any e = true ∧ e.on = j := by
    intro i j o p ho hp hin
    have := (hwt (o, i) (List.mem_zipIdx_iff_getElem?.2 ho)) (p, j) (List.mem_zipIdx_iff_getElem?.2 hp)
    simp only [Bool.or_eq_true, Bool.not_eq_true', List.any_eq_true, Bool.and_eq_true, beq_iff_eq] at this
    rcases this with h | ⟨e, he, hb, hj⟩
    · simp only [List.contains_eq_mem, decide_eq_false_iff_not] at h; exact absurd hin h
    · exact ⟨e, he, hb, hj⟩
  have hsink : ∀ k, k < m → ∃ j, k < j ∧ j ≤ m ∧ Region.waitsFor .any l.toArray j k = true := by
    intro k hk
    unfold Region.sinkB at hsk
    rw [List.all_eq_true] at hsk
    have := hsk k (List.mem_range.2 hk)
    rw [List.any_eq_true] at this
    obtain ⟨j, hj, h⟩ := this
    simp only [Bool.and_eq_true, decide_eq_true_eq] at h
    exact ⟨j, h.1, by have := List.mem_range.1 hj; omega, h.2⟩
  have hchain : ∀ t, t < l.length → t ≤ m ∨ Region.waitsFor .any l.toArray t (t - 1) = true := by
    intro t ht
    unfold Region.chainB at hch
    rw [List.all_eq_true] at hch
    have := hch t (List.mem_range.2 (by simpa using ht))
    simpa using this
  refine ⟨fun D a ha => wp_region_any hm ?_⟩
  have main : ∀ (fuel : Nat) (listed : Array Bool) (a : Act) (w' : World) (e' : Env) (tt : Nat), listed.size = l.length → (∀ i, listed.getD i true = false → i < l.length) → (∀ t, m ≤ t → t < l.length → listed.getD t true = false) → (∀ j oj, l[j]? = some oj → listed.getD j false = true → ∀ e ∈ oj.after.toList, Region.binds .any e = true → listed.getD e.on false = true) → (l.length ≤ fuel + (List.range l.length).countP (fun i => listed.getD i true)) → Rel D n a e' → Rs 0 w.drew w' → tt ≤ mu.length → Wd tt w' → (∀ u j, mu[u]? = some j → (listed.getD j false = true ↔ u < tt)) →
      (∀ x ∈ KN, (x ∈ kn ∨ ∃ j o, l[j]? = some o ∧ o.dst = some x.1 ∧ listed.getD j false = true) → x.2 (e' x.1) w') →
      wpAny P .any l.toArray (lift D n Q) fuel listed a w' := by
    intro fuel
    induction fuel with
    | zero =>
      intro listed a w' e' tt hsz hin htail hclosed hcnt hr hR htt hWd hmu hx
      have := cnt_le l.length m (fun k => listed.getD k true) (fun k hk h => by rcases Nat.lt_or_ge k m with h1 | h1; exact h1; rw [htail k h1 hk] at h; cases h)
      omega
    | succ fuel ih =>
      intro listed a w' e' tt hsz hin htail hclosed hcnt hr hR htt hWd hmu hx
      refine ⟨fun hre => (by
        have := all_listed hsz hback hre m hml
        rw [htail m (Nat.le_refl _) hml] at this
        cases this), fun i hi => ?_⟩
      obtain ⟨hiu, oi, hoi, hall⟩ := mem_ready.1 hi
      have hoi' : l[i]? = some oi := by simpa using hoi
      have hil : i < l.length := (List.getElem?_eq_some_iff.1 hoi').1
      by_cases him : i < m
      rotate_left
      · -- the tail
        have hi_m : i = m := by
          rcases Nat.lt_or_ge m i with h | h
          · exfalso
            have hc := hchain i hil
            rcases hc with hc | hc
            · omega
            · obtain ⟨ed, hed, hb, hej⟩ := waits hoi' hc
              have h1 := hall ed (by simpa using hed) hb
              rw [hej] at h1
              have h2 := htail (i - 1) (by omega) (by omega)
              exact tf h1 h2
          · omega
        subst hi_m
        have heads : ∀ d k, i - k = d → k < i → listed.getD k false = true := by
          intro d
          induction d using Nat.strongRecOn with
          | _ d ihd =>
            intro k hkd hki
            obtain ⟨j, hkj, hjm, hw⟩ := hsink k hki
            by_cases hji : j = i
            · subst hji
              obtain ⟨ed, hed, hb, hej⟩ := waits hoi' hw
              have h1 := hall ed (by simpa using hed) hb
              rwa [hej] at h1
            · have hj := ihd (i - j) (by omega) j rfl (by omega)
              have hjl : j < l.length := by omega
              obtain ⟨ed, hed, hb, hej⟩ := waits (List.getElem?_eq_getElem hjl) hw
              have h1 := hclosed j _ (List.getElem?_eq_getElem hjl) hj ed hed hb
              rwa [hej] at h1
        have hL : listed = (List.replicate i true ++ List.replicate (l.length - i) false).toArray := by
          apply Array.ext_getElem?
          intro k
          by_cases hkl : k < l.length
          · have hks : k < listed.size := by omega
            by_cases hki : k < i
            · have h1 := heads _ k rfl hki
              rw [Array.getD_eq_getD_getElem?, Array.getElem?_eq_getElem hks] at h1
              rw [Array.getElem?_eq_getElem hks]
              simp only [Option.getD_some] at h1
              rw [h1]
              simp [List.getElem?_append, hki]
            · have h1 := htail k (by omega) hkl
              rw [Array.getD_eq_getD_getElem?, Array.getElem?_eq_getElem hks] at h1
              rw [Array.getElem?_eq_getElem hks]
              simp only [Option.getD_some] at h1
              rw [h1, List.getElem?_toArray, List.getElem?_append_right (by rw [List.length_replicate]; omega), List.getElem?_replicate, if_pos (by rw [List.length_replicate]; omega)]
          · rw [Array.getElem?_eq_none (by omega), Array.getElem?_eq_none (by simp; omega)]
        have htl2 : tt = mu.length := by
          rcases Nat.lt_or_ge tt mu.length with h | h
          · exfalso
            have hj := List.getElem?_eq_getElem h
            have hjm : mu[tt] < i := by
              have := hmum _ (List.getElem_mem h)
              simpa using this
            have := (hmu tt _ hj).1 (heads _ _ rfl hjm)
            omega
          · omega
        subst htl2
        have hwl := hF e' w' hR hWd (HoldsAll.of fun x hxm => hx x hxm (by
          rcases hor x hxm with h | ⟨j, o, s, hj, hdo, -, -⟩
          · exact .inl h
          · have hjm : j < i := by
              have := (List.getElem?_eq_some_iff.1 hj).1
              simp at this; omega
            have hj' : l[j]? = some o := by rw [List.getElem?_take] at hj; simpa [hjm] using hj
            exact .inr ⟨j, o, hj', hdo, heads _ j rfl hjm⟩))
        have hsq := wpAny_seqF (P := P) (ops := l.toArray) (Q' := lift D n Q) (l.drop i) i listed a w' (fuel + 1) (by rw [List.length_drop]; have := cnt_le l.length i (fun k => listed.getD k true) (fun k hk h => by rcases Nat.lt_or_ge k i with h1 | h1; exact h1; rw [htail k h1 hk] at h; cases h); omega) (fun j => by rw [List.getElem?_drop]; simp) (by rw [hL, List.length_drop]; exact hseq) (hwl.out D a hr)
        exact hsq.2 i hi
      have hoiT : (l.take m)[i]? = some oi := by rw [List.getElem?_take]; simpa [him] using hoi'
      obtain ⟨d, φ, hd, hmem, hs⟩ := hstep' i oi hoiT
      have hdn := (hdst oi (List.mem_of_getElem? hoiT))
      have hdn : Nat.blt d n = true := by simpa [hd] using hdn.2
      have hpre : ∀ x ∈ KN, x.1 ∈ rds l oi → x.2 (e' x.1) w' := by
        intro x hxm hxr
        refine hx x hxm ?_
        rcases hor x hxm with h | ⟨j, o, s, hj, hdo, -, -⟩
        · exact .inl h
        · obtain ⟨ed, hed, hb, hej⟩ := hwait i j oi o hoiT hj (by rw [hdo]; exact hxr)
          have hjm : j < m := by
            have := (List.getElem?_eq_some_iff.1 hj).1
            simp at this; omega
          have hj' : l[j]? = some o := by rw [List.getElem?_take] at hj; simpa [hjm] using hj
          refine .inr ⟨j, o, hj', hdo, ?_⟩
          have := hall ed (by simpa using hed) hb
          rw [hej] at this
          exact this
      have next : ∀ v w2 t2, φ v w2 → Rs 0 w' w2 → t2 ≤ mu.length → Wd t2 w2 → (∀ u j, mu[u]? = some j → ((listed.setIfInBounds i true).getD j false = true ↔ u < t2)) →
          (∀ x ∈ KN, (x ∈ kn ∨ ∃ j o, l[j]? = some o ∧ o.dst = some x.1 ∧ listed.getD j false = true) → x.2 (e' x.1) w' → x.2 (e' x.1) w2) → wpAny P .any l.toArray (lift D n Q) fuel (listed.setIfInBounds i true) (a.put oi.dst v) w2 := by
        intro v w2 t2 hφ hR2 ht2 hWd2 hmu2 hstab
        rw [hd]
        refine ih _ _ _ (upd e' d v) t2 (by simpa using hsz) (fun k hk => ?_) (fun t ht htl => ?_) ?_ ?_ (hr.put hdn v) (htrans _ _ _ hR hR2) ht2 hWd2 hmu2 ?_
        · refine hin k ?_
          by_cases hki : k = i
          · subst hki; exact hiu
          · rw [Array.getD_eq_getD_getElem?, Array.getElem?_setIfInBounds_ne (by omega)] at hk
            rw [Array.getD_eq_getD_getElem?]; exact hk
        · rw [Array.getD_eq_getD_getElem?, Array.getElem?_setIfInBounds_ne (by omega)]
          have := htail t ht htl
          rw [Array.getD_eq_getD_getElem?] at this; exact this
        · intro j oj hoj hl e he hb
          by_cases hji : j = i
          · subst hji
            rw [hoi'] at hoj
            simp only [Option.some.injEq] at hoj
            subst hoj
            have h1 := hall e (by simpa using he) hb
            exact set_true h1
          · have h2 : listed.getD j false = true := by
              rw [Array.getD_eq_getD_getElem?, Array.getElem?_setIfInBounds_ne (by omega)] at hl
              rw [Array.getD_eq_getD_getElem?]; exact hl
            exact set_true (hclosed j oj hoj h2 e he hb)
        · have hcount : (List.range l.length).countP (fun k => listed.getD k true) + 1 ≤ (List.range l.length).countP (fun k => (listed.setIfInBounds i true).getD k true) := by
            have key : ∀ (r : List Nat), r.Nodup → i ∈ r → r.countP (fun k => listed.getD k true) + 1 ≤ r.countP (fun k => (listed.setIfInBounds i true).getD k true) := by
              intro r
              induction r with
              | nil => intro _ h; cases h
              | cons k r ihr =>
                intro hn hmem
                simp only [List.nodup_cons] at hn
                rw [List.countP_cons, List.countP_cons]
                by_cases hki : k = i
                · subst hki
                  have e1 : listed.getD k true = false := hiu
                  have e2 : (listed.setIfInBounds k true).getD k true = true := by
                    rw [Array.getD_eq_getD_getElem?, Array.getElem?_setIfInBounds]; simp; split <;> rfl
                  rw [e1, e2]
                  have : r.countP (fun k => listed.getD k true) ≤ r.countP (fun k' => (listed.setIfInBounds k true).getD k' true) := by
                    refine List.countP_mono_left fun k' hk' => ?_
                    intro h
                    by_cases hkk : k' = k
                    · subst hkk; exact absurd hk' hn.1
                    · rw [Array.getD_eq_getD_getElem?, Array.getElem?_setIfInBounds_ne (by omega)]
                      rw [Array.getD_eq_getD_getElem?] at h; exact h
                  rw [if_neg (by decide), if_pos rfl]; omega
                · have e1 : (listed.setIfInBounds i true).getD k true = listed.getD k true := by
                    rw [Array.getD_eq_getD_getElem?, Array.getElem?_setIfInBounds_ne (by omega), Array.getD_eq_getD_getElem?]
                  have := ihr hn.2 (by rcases List.mem_cons.1 hmem with h | h; exact absurd h.symm hki; exact h)
                  rw [e1]; omega
            exact key _ List.nodup_range (List.mem_range.2 hil)
          omega
        · intro x hxm hcond
          by_cases hxd : x.1 = d
          · have := hinj x hxm (d, φ) hmem hxd
            subst this
            simp only [upd]
            rw [show Nat.beq d d = true from Nat.beq_refl d]
            exact hφ
          · have hnb : Nat.beq x.1 d = false := beq_false hxd
            simp only [upd, hnb]
            have hc : x ∈ kn ∨ ∃ j o, l[j]? = some o ∧ o.dst = some x.1 ∧ listed.getD j false = true := ?_
            · exact hstab x hxm hc (hx x hxm hc)
            rcases hcond with h | ⟨j, o, hj, hdo, hl⟩
            · exact .inl h
            · refine .inr ⟨j, o, hj, hdo, ?_⟩
              have hji : j ≠ i := by
                intro hji
                subst hji
                rw [hj] at hoi'
                simp only [Option.some.injEq] at hoi'
                subst hoi'
                rw [hdo] at hd
                simp only [Option.some.injEq] at hd
                exact hxd hd
              rw [Array.getD_eq_getD_getElem?, Array.getElem?_setIfInBounds_ne (by omega)] at hl
              rw [Array.getD_eq_getD_getElem?]; exact hl
      have hset : ∀ j, j ≠ i → (listed.setIfInBounds i true).getD j false = listed.getD j false := fun j hj => by
        rw [Array.getD_eq_getD_getElem?, Array.getElem?_setIfInBounds_ne (by omega), ← Array.getD_eq_getD_getElem?]
      have hnl : listed.getD i false ≠ true := fun h => tf h hiu
      have hall' : ∀ e ∈ oi.after.toList, Region.binds .any e = true → listed.getD e.on false = true := fun e he hb => hall e (by simpa using he) hb
      have hKj : ∀ x ∈ KN, x ∈ kn ∨ ∃ j o s, j < m ∧ l[j]? = some o ∧ o.dst = some x.1 ∧ Mono (Rs s) x.2 ∧ stOk l mu j s = true := fun x hxm => by
        rcases hor x hxm with h | ⟨j, o, s, hj, hdo, h1, h2⟩
        · exact .inl h
        · have hjm : j < m := by
            have := (List.getElem?_eq_some_iff.1 hj).1
            simp at this; omega
          refine .inr ⟨j, o, s, hjm, ?_, hdo, h1, h2⟩
          rw [List.getElem?_take] at hj; simpa [hjm] using hj
      unfold wpOp
      rw [hoi]
      show (if Region.wanted oi (yielded l.toArray a.tmps) = true then _ else _)
      rcases hs with ⟨hni, hs⟩ | ⟨t, hti, hs⟩
      · have hsg := hs e' w' hR hpre D n a hr
        have nx : ∀ v w2, φ v w2 ∧ Ext w' w2 → wpAny P .any l.toArray (lift D n Q) fuel (listed.setIfInBounds i true) (a.put oi.dst v) w2 := fun v w2 ⟨h1, h2⟩ =>
          next v w2 tt h1 (hE _ _ _ h2) htt (hW _ _ _ hWd h2) (fun u j hj => by
            have hji : j ≠ i := fun h => hni (h ▸ List.mem_of_getElem? hj)
            rw [hset j hji]; exact hmu u j hj) (fun x hxm _ hx1 => by
            rcases hKj x hxm with h | ⟨j, o, s, -, -, -, h3, -⟩
            · exact hmono x h _ _ _ (hE _ _ _ h2) hx1
            · exact h3 _ _ _ (hE _ _ _ h2) hx1)
        split
        · rename_i hw
          rw [if_pos hw] at hsg
          exact .inl (OP.wp hr.ev (hsg.mono nx))
        · rename_i hw
          rw [if_neg hw] at hsg
          exact nx undef w' hsg
      · have hti2 : t < mu.length := (List.getElem?_eq_some_iff.1 hti).1
        have htt2 : t = tt := by
          have h1 : ¬ t < tt := fun h => hnl ((hmu t i hti).2 h)
          rcases Nat.lt_or_ge tt t with h | h
          · exfalso
            have h2 := hmuc (t - 1) (List.mem_range.2 (by omega))
            have h3 : mu.getD (t - 1 + 1) 0 = i := by rw [show t - 1 + 1 = t by omega, List.getD_eq_getElem?_getD, hti]; rfl
            have h4 : mu[t - 1]? = some mu[t - 1] := List.getElem?_eq_getElem (by omega)
            have h5 : mu.getD (t - 1) 0 = mu[t - 1] := by rw [List.getD_eq_getElem?_getD, h4]; rfl
            rw [h3, h5] at h2
            have h6 := anc_listed hclosed 40 i _ oi hoi' hall' h2
            have := (hmu (t - 1) _ h4).1 h6
            omega
          · omega
        subst htt2
        have hsg := hs e' w' hR hWd hpre D n a hr
        have nx : ∀ v w2, (φ v w2 ∧ Rs t w' w2 ∧ Wd (t + 1) w2) → wpAny P .any l.toArray (lift D n Q) fuel (listed.setIfInBounds i true) (a.put oi.dst v) w2 := fun v w2 ⟨h1, h2, h3⟩ =>
          next v w2 (t + 1) h1 (Rs_le hA (Nat.zero_le _) h2) (by omega) h3 (fun u j hj => by
            by_cases hji : j = i
            · subst hji
              have hut : u = t := by
                have e1 := (List.getElem?_eq_some_iff.1 hj).1
                exact (List.getElem?_inj e1 hmun).1 (hj.trans hti.symm)
              subst hut
              have e2 : (listed.setIfInBounds j true).getD j false = true := by
                rw [Array.getD_eq_getD_getElem?, Array.getElem?_setIfInBounds]; simp [show j < listed.size by omega]
              simp [e2]
            · have hut : u ≠ t := fun h => by
                subst h; rw [hj] at hti; simp only [Option.some.injEq] at hti; exact hji hti
              rw [hset j hji, hmu u j hj]; omega) (fun x hxm hc hx1 => by
            rcases hKj x hxm with h | ⟨j, o, s, hjm, hj, hdo, h3, h4⟩
            · exact hmono x h _ _ _ (Rs_le hA (Nat.zero_le _) h2) hx1
            · refine h3 _ _ _ (Rs_le hA ?_ h2) hx1
              rcases hc with h | ⟨j2, o2, hj2, hdo2, hl2⟩
              · exfalso
                exact hkn_out x h j o hjm hj hdo
              · have h2m : j2 < m := by
                  rcases Nat.lt_or_ge j2 m with h | h
                  · exact h
                  · exact (tf hl2 (htail j2 h (List.getElem?_eq_some_iff.1 hj2).1)).elim
                have hjj : j2 = j := hdst_inj j2 j o2 o _ h2m hjm hj2 hj hdo2 hdo
                subst hjj
                rw [hj2] at hj
                simp only [Option.some.injEq] at hj
                subst hj
                cases s with
                | zero => exact Nat.zero_le _
                | succ s =>
                  simp only [stOk] at h4
                  cases hs2 : mu[s]? with
                  | none => rw [hs2] at h4; cases h4
                  | some jm =>
                    rw [hs2] at h4
                    simp only [Bool.or_eq_true, beq_iff_eq] at h4
                    have : listed.getD jm false = true := by
                      rcases h4 with h4 | h4
                      · rw [h4]; exact hl2
                      · exact anc_listed hclosed 40 j2 jm o2 hj2 (hclosed j2 o2 hj2 hl2) h4
                    have := (hmu s jm hs2).1 this
                    omega)
        split
        · rename_i hw
          rw [if_pos hw] at hsg
          exact .inl (OPX.wp hr.ev (hsg.mono nx (fun ch w2 hq => ⟨e', hr, hq⟩)))
        · rename_i hw
          rw [if_neg hw] at hsg
          exact nx undef w' hsg
  refine main _ _ a w.drew e 0 (by simp) (fun i hi => ?_) (fun t ht htl => ?_) (fun j oj hoj hl => ?_) (by simp) ha (hE _ _ _ (Only.refl _ _)) (Nat.zero_le _) hW0 (fun u j hj => ?_) (fun x hxm hc => ?_)
  · rw [Array.getD_eq_getD_getElem?, Array.getElem?_replicate] at hi
    split at hi
    · rename_i h; simpa using h
    · simp at hi
  · rw [Array.getD_eq_getD_getElem?, Array.getElem?_replicate]
    simp [htl]
  · rw [Array.getD_eq_getD_getElem?, Array.getElem?_replicate] at hl
    split at hl <;> simp at hl
  · refine ⟨fun hl => ?_, fun h => by omega⟩
    rw [Array.getD_eq_getD_getElem?, Array.getElem?_replicate] at hl
    split at hl <;> simp at hl
  · rcases hc with h | ⟨j, o, hj, hdo, hl⟩
    · exact h0.mem x h
    · rw [Array.getD_eq_getD_getElem?, Array.getElem?_replicate] at hl
      split at hl <;> simp at hl

def U : List (Nat → Prop) → Nat → Prop
  | [], _ => False
  | F :: Fs, k => F k ∨ U Fs k
theorem U.mem {k : Nat} : ∀ {Fs : List (Nat → Prop)}, U Fs k ↔ ∃ F ∈ Fs, F k
  | [] => by simp [U]
  | F :: Fs => by simp [U, U.mem (Fs := Fs)]
def RsOf (Fs : List (Nat → Prop)) (s : Nat) : World → World → Prop := Only (U (Fs.drop s))
def WdOf (Fs : List (Nat → Prop)) (w0 : World) (t : Nat) : World → Prop := Only (U (Fs.take t)) w0
section
variable {P : Program} {all : List Oper} {Q : Exit → Env → World → Prop} {Fs : List (Nat → Prop)} {mu : List Nat} {w0 : World} {F : Known → Prop} {o : Oper} {l : List Oper} {kn : Known} {d i : Nat}
theorem WDS.mf (t s : Nat) (φ : Value → World → Prop) (hm : Mono (RsOf Fs s) φ) (hs : stOk all mu i s = true) (hd : o.dst = some d) (hi : mu[t]? = some i) {Ft : Nat → Prop} (hF : Fs[t]? = some Ft)
    (h : ∀ e w, Only (U Fs) w0 w → Only (U (Fs.take t)) w0 w → Holds kn (rds all o) e w → SGX P all e o w (fun v w' => φ v w' ∧ Only Ft w w') (fun ch w' => Q (.panic ch) e w')) (k : WDS P all Q (RsOf Fs) (WdOf Fs w0) mu w0 F l (i + 1) ((d, φ) :: kn)) : WDS P all Q (RsOf Fs) (WdOf Fs w0) mu w0 F (o :: l) i kn := by
  refine WDS.m t s φ hm hs hd hi (fun e w hR hW hk => ?_) k
  have h1 := h e w hR hW hk
  have ht : t < Fs.length := (List.getElem?_eq_some_iff.1 hF).1
  have key : ∀ v w', (φ v w' ∧ Only Ft w w') → φ v w' ∧ RsOf Fs t w w' ∧ WdOf Fs w0 (t + 1) w' := by
    rintro v w' ⟨h2, h3⟩
    refine ⟨h2, h3.mono (fun k _ hk => U.mem.2 ⟨Ft, List.mem_of_getElem? (i := 0) (by rw [List.getElem?_drop]; simpa using hF), hk⟩), ?_⟩
    refine hW.trans' h3 (fun k hk => ?_) (fun k _ hk => ?_)
    · obtain ⟨G, hG, hk⟩ := U.mem.1 hk
      obtain ⟨j, hj⟩ := List.getElem?_of_mem hG
      refine U.mem.2 ⟨G, ?_, hk⟩
      have hjt : j < t := by
        have := (List.getElem?_eq_some_iff.1 hj).1
        simp at this; omega
      rw [List.getElem?_take, if_pos hjt] at hj
      exact List.mem_of_getElem? (i := j) (by rw [List.getElem?_take, if_pos (by omega)]; exact hj)
    · exact U.mem.2 ⟨Ft, List.mem_of_getElem? (i := t) (by rw [List.getElem?_take, if_pos (by omega)]; exact hF), hk⟩
  intro D n a ha
  have h2 := h1 D n a ha
  split
  · rename_i hw
    rw [if_pos hw] at h2
    exact h2.mono key (fun _ _ h => h)
  · rename_i hw
    rw [if_neg hw] at h2
    exact key _ _ h2
end
theorem W.drawF {P : Program} {Q : Exit → Env → World → Prop} {n : Nat} {e : Env} {w : World} {id : Nat} {l : List Oper} (m : Nat) (mu : List Nat) (Fs : List (Nat → Prop)) (kn : Known) (hm : P.follows .mixedOrders = true) (hok : drawOkT l m (kn.map Prod.fst) n = true) (hmuOk : muOk l m mu = true)
    (hmono' : MonoAll (RsOf Fs 0) kn) (h0 : HoldsAll kn e w.drew)
    (h : WDS P l Q (RsOf Fs) (WdOf Fs w.drew) mu w.drew (fun KN => ∀ e' w', Only (U Fs) w.drew w' → HoldsAll KN e' w' → WL P l (l.drop m) Q n e' w') (l.take m) 0 kn) : W P (.region id l.toArray true) Q n e w := by
  refine W.drawC m mu (RsOf Fs) (WdOf Fs w.drew) kn hm hok hmuOk (fun s a b h => h.mono (fun _ _ h => h.elim)) (fun s a b h => h.mono (fun k _ hk => ?_)) (fun a b c h k => Only.trans h k) (fun t a b h k => Only.ext h k) (Only.refl _ _) hmono' h0 ?_
  · obtain ⟨G, hG, hk⟩ := U.mem.1 hk
    refine U.mem.2 ⟨G, ?_, hk⟩
    obtain ⟨j, hj⟩ := List.getElem?_of_mem hG
    rw [List.getElem?_drop] at hj
    exact List.mem_of_getElem? (i := j + 1) (by rw [List.getElem?_drop, show s + (j + 1) = s + 1 + j by omega]; exact hj)
  · have key : ∀ (l' : List Oper) (i : Nat) (kn' : Known), WDS P l Q (RsOf Fs) (WdOf Fs w.drew) mu w.drew (fun KN => ∀ e' w', Only (U Fs) w.drew w' → HoldsAll KN e' w' → WL P l (l.drop m) Q n e' w') l' i kn' →
        WDS P l Q (RsOf Fs) (WdOf Fs w.drew) mu w.drew (fun KN => ∀ e' w', RsOf Fs 0 w.drew w' → WdOf Fs w.drew mu.length w' → HoldsAll KN e' w' → WL P l (l.drop m) Q n e' w') l' i kn' := by
      intro l'
      induction l' with
      | nil => intro i kn' h e' w' h1 _ h3; exact h e' w' h1 h3
      | cons o l' ih =>
        rintro i kn' ⟨d, φ, s, h1, h2, h3, h4, h5⟩
        exact ⟨d, φ, s, h1, h2, h3, h4, ih _ _ h5⟩
    exact key _ _ _ h

section
variable {P : Program} {e : Env} {w : World} {K : Value → World → Prop} {ty : TypeId}
theorem o_mkF {fn : Fn} {caps : List Operand} {vs : List Value} (hc : caps.map (ev e) = vs) (k : K (.func fn #[] vs.toArray) w) : OP P e (.makeFunc fn #[] caps.toArray) ty w K := by
  subst hc
  exact OP.of (by simp [execOp, Instr.makeFunc]) k
end
end Go.Vc

set_option linter.unusedSimpArgs false
set_option linter.unusedVariables false
namespace Go.Vc
open Go Go.RowKit

theorem fill_step {n i : Nat} {v : Value} {cells : Array Value} {rest : List (Nat × Value)} (hv : v.oneCell' = true) (hi : i < cells.size) :
    Instr.fill (fun i => some (i * 1, 1)) cells ((i, v) :: rest) = Instr.fill (fun i => some (i * 1, 1)) (cells.setIfInBounds i v) rest := by
  have hc : v.cells = #[v] := by cases v <;> first | rfl | simp [Value.oneCell'] at hv
  simp [Instr.fill, hc]; omega
theorem fill_all : ∀ (vs : List Value) (k : Nat) (cells : Array Value), (∀ v ∈ vs, v.oneCell' = true) → k + vs.length = cells.size →
    Instr.fill (fun i => some (i * 1, 1)) cells ((vs.zipIdx k).map fun x => (x.2, x.1)) = some ((cells.toList.take k ++ vs).toArray)
  | [], k, cells, _, h => by
    simp at h
    have : cells.toList.take k = cells.toList := List.take_of_length_le (by simp [h])
    simp [Instr.fill, this]
  | v :: vs, k, cells, h1, h => by
    simp only [List.length_cons] at h
    rw [List.zipIdx_cons, List.map_cons, fill_step (n := 0) (h1 v (List.mem_cons_self ..)) (by omega), fill_all vs (k + 1) _ (fun v hv => h1 v (List.mem_cons_of_mem _ hv)) (by simp; omega)]
    congr 2
    simp only [Array.toList_setIfInBounds]
    rw [List.take_succ_eq_append_getElem (by simp; omega)]
    rw [List.take_set_of_le (by omega)]
    simp
section
variable {P : Program} {e : Env} {w : World} {K : Value → World → Prop} {ty : TypeId}
theorem o_bsn {t el : TypeId} {len s bs bs' : Nat} {z z' : Value} {d' : TypeDesc} {xs : List Operand} {vs : List Value} {parts : Array (Nat × Operand)} (ht : Ty P t (.slice el) s bs z) (hel : Ty P el d' 1 bs' z') (hp : parts = ((xs.zipIdx 0).map fun x => (x.2, x.1)).toArray) (hx : xs.map (ev e) = vs) (hv : vs.all (·.oneCell') = true) (hl : vs.length = len) (h0 : 0 < len) (hs : len ≤ 16777216)
    (k : K (.slice (some ⟨w.heap.size, 0, none⟩) len len) (w.alloc (.cells vs.toArray el))) : OP P e (.buildSlice t len parts) ty w K := by
  subst hp
  refine o_bs ht hel (by simp; omega) (cells := vs.toArray) ?_ (by simp; omega) k
  have hm : ((((xs.zipIdx 0).map fun x => (x.2, x.1)).toArray.map fun (x : Nat × Operand) => (x.1, ev e x.2))).toList = (vs.zipIdx 0).map fun x => (x.2, x.1) := by
    subst hx
    simp only [List.map_toArray, List.map_map]
    have gen : ∀ (l : List Operand) (k : Nat), (l.zipIdx k).map ((fun (x : Nat × Operand) => (x.1, ev e x.2)) ∘ fun x => (x.2, x.1)) = ((l.map (ev e)).zipIdx k).map fun x => (x.2, x.1) := by
      intro l
      induction l with
      | nil => intro k; rfl
      | cons a l ih => intro k; simp only [List.zipIdx_cons, List.map_cons, ih (k + 1)]; rfl
    exact gen xs 0
  rw [hm, fill_all vs 0 _ (by simpa using hv) (by simp [hl])]
  simp
end

end Go.Vc

set_option linter.unusedSimpArgs false
set_option linter.unusedVariables false
namespace Go.Vc
open Go Go.RowKit
variable {D : List Deferred}

/-- a string, by its bytes -/
abbrev st (xs : List UInt8) : Value := .string ⟨xs.toArray⟩
theorem ba_list (xs : List UInt8) : (⟨xs.toArray⟩ : ByteArray).toList = xs := by rw [ByteArray.toList_eq]
theorem ba_extract (xs : List UInt8) (l h : Nat) : (⟨xs.toArray⟩ : ByteArray).extract l h = ⟨((xs.take h).drop l).toArray⟩ := by
  apply ByteArray.ext
  simp [List.drop_take]
theorem ba_append (xs ys : List UInt8) : ((⟨xs.toArray⟩ : ByteArray) ++ ⟨ys.toArray⟩) = ⟨(xs ++ ys).toArray⟩ := by
  apply ByteArray.ext
  simp
section
variable {P : Program} {e : Env} {w : World} {K : Value → World → Prop} {ty : TypeId} {xs ys : List UInt8}
theorem o_lenT {x : Operand} {t : TypeId} {s bs : Nat} {z : Value} (ht : Ty P t .string s bs z) (hx : ev e x = st xs) (k : K (.int .i64 (xs.length : Int)) w) : OP P e (.call ⟨.builtin .len, #[x], #[t]⟩) ty w K :=
  o_lenS ht hx k
theorem o_idT {x y : Operand} {t : TypeId} {s bs i : Nat} {z : Value} {kd : IntKind} (ht : Ty P t .string s bs z) (hx : ev e x = st xs) (hy : ev e y = .int kd (i : Int)) (hi : i < xs.length)
    (k : K (bv xs[i]) w) : OP P e (.index t x y) ty w K := by
  refine OP.of ?_ k
  have h0 : (0 : Int) ≤ (i : Int) := by omega
  have hg : (⟨xs.toArray⟩ : ByteArray)[i]? = some xs[i] := by
    have := getElem?_pos (⟨xs.toArray⟩ : ByteArray) i (show i < ByteArray.size ⟨xs.toArray⟩ from hi)
    rw [this]; rfl
  simp [execOp, Instr.index, asIntOf, hx, hy, ht.run_und, hg, bv]
theorem o_eqT {x y : Operand} {t u : TypeId} (hx : ev e x = st xs) (hy : ev e y = st ys) (k : K (.bool (decide (xs = ys))) w) : OP P e (.binOp .eql t x y u) ty w K :=
  o_eqS hx hy (by rw [ba_list, ba_list]; have : (xs == ys) = decide (xs = ys) := by by_cases h : xs = ys <;> simp [h]
                  rw [this]; exact k)
theorem o_neT {x y : Operand} {t u : TypeId} (hx : ev e x = st xs) (hy : ev e y = st ys) (k : K (.bool (!decide (xs = ys))) w) : OP P e (.binOp .neq t x y u) ty w K :=
  o_neS hx hy (by rw [ba_list, ba_list]; have : (xs == ys) = decide (xs = ys) := by by_cases h : xs = ys <;> simp [h]
                  rw [this]; exact k)
theorem o_addT {x y : Operand} {t u : TypeId} (hx : ev e x = st xs) (hy : ev e y = st ys) (hb : xs.length + ys.length ≤ 9223372036854775807) (k : K (st (xs ++ ys)) w) : OP P e (.binOp .add t x y u) ty w K := by
  refine OP.of ?_ k
  simp [execOp, eqGuard, binOp, hx, hy, Op.stringOp]
  rw [if_neg, ba_append]
  show ¬ (9223372036854775807 : Int) < ((xs.length : Nat) : Int) + ((ys.length : Nat) : Int)
  omega
/-- a field of one cell -/
theorem o_fldT {x : Operand} {t u : TypeId} {i off s bs s' bs' : Nat} {z z' v : Value} {fs : Array Field} {f : Field} {d : TypeDesc} {cs : Array Value} (ht : Ty P t (.struct fs) s bs z) (hf : fs[i]? = some f) (hft : f.type = u) (hoff : f.offset = off) (hu : Ty P u d s' bs' z') (hd : isAggD d = false) (hx : ev e x = .agg cs) (hc : cs[off]? = some v) (k : K v w) : OP P e (.field t x i) ty w K := by
  subst hft hoff
  exact OP.of (by simp [execOp, Instr.field, ht.run_und, hf, hx, asAgg, part, hu.run_agg, hd, hc]) k
inductive Leafs (P : Program) (xs ys : Array Value) : List Field → Bool → Prop
  | nil : Leafs P xs ys [] true
  | int {f : Field} {fs : List Field} {k k' : IntKind} {a b : Int} {r : Bool} {s bs : Nat} {z : Value} : Ty P f.type (.int k') s bs z → f.name ≠ "_" → xs[f.offset]? = some (.int k a) → ys[f.offset]? = some (.int k b) → Leafs P xs ys fs r → Leafs P xs ys (f :: fs) (decide (a = b) && r)
  | bool {f : Field} {fs : List Field} {a b r : Bool} {s bs : Nat} {z : Value} : Ty P f.type .bool s bs z → f.name ≠ "_" → xs[f.offset]? = some (.bool a) → ys[f.offset]? = some (.bool b) → Leafs P xs ys fs r → Leafs P xs ys (f :: fs) (a == b && r)
  | str {f : Field} {fs : List Field} {a b : List UInt8} {r : Bool} {s bs : Nat} {z : Value} : Ty P f.type .string s bs z → f.name ≠ "_" → xs[f.offset]? = some (st a) → ys[f.offset]? = some (st b) → Leafs P xs ys fs r → Leafs P xs ys (f :: fs) (decide (a = b) && r)
theorem part1 {f : TypeId} {d : TypeDesc} {s bs : Nat} {z v : Value} {cs : Array Value} {o : Nat} (hu : Ty P f d s bs z) (hd : isAggD d = false) (hc : cs[o]? = some v) (w : World) : (part f cs o).run P w = .ok v w := by
  simp [part, hu.run_agg, hd, hc]
theorem Leafs.run {xs ys : Array Value} {fs : List Field} {r : Bool} (h : Leafs P xs ys fs r) (d : Nat) (w : World) : (Op.eqFields (d + 1) xs ys fs).run P w = .ok r w := by
  induction h with
  | nil => simp [Op.eqFields]
  | int ht hn hx hy _ ih =>
    rename_i a b r _ _ _ _
    simp [Op.eqFields, hn, part1 ht rfl hx, part1 ht rfl hy, run_equalIn_int w d _ _ _ _ _ ht.und]
    by_cases h : a = b
    · subst h; simpa using ih
    · simp [h]
  | bool ht hn hx hy _ ih =>
    rename_i a b r _ _ _ _
    simp [Op.eqFields, hn, part1 ht rfl hx, part1 ht rfl hy, run_equalIn_bool' w d _ _ _ ht.und]
    by_cases h : a = b
    · subst h; simpa using ih
    · simp [h]
  | str ht hn hx hy _ ih =>
    rename_i a b r _ _ _ _
    simp [Op.eqFields, hn, part1 ht rfl hx, part1 ht rfl hy, run_equalIn_string w d _ _ _ ht.und, ba_list]
    by_cases h : a = b
    · subst h; simpa using ih
    · simp [h]
theorem run_eqR {t : TypeId} {fs : Array Field} {s bs : Nat} {z : Value} {asx cs : Array Value} {r : Bool} (ht : Ty P t (.struct fs) s bs z) (hp : P.stoodInHeld t = false) (hl : Leafs P asx cs fs.toList r) (w : World) : (Op.equalIn 10000 t (.agg asx) (.agg cs)).run P w = .ok r w := by
  have hf : P.fieldsOf t = fs := by simp [Program.fieldsOf, ht.und]
  rw [run_equalIn_struct w 9999 t asx cs (by rw [hf]; exact ht.und) hp, hf]
  exact hl.run 9998 w
theorem o_neR {x y : Operand} {t u : TypeId} {fs : Array Field} {s bs : Nat} {z : Value} {asx cs : Array Value} {r : Bool} (ht : Ty P t (.struct fs) s bs z) (hp : P.stoodInHeld t = false) (hm : P.eqGuardType P.depth t = false) (hx : ev e x = .agg asx) (hy : ev e y = .agg cs) (hl : Leafs P asx cs fs.toList r) (k : K (.bool (!r)) w) : OP P e (.binOp .neq t x y u) ty w K :=
  OP.of (by simp [execOp, hx, hy, run_eqGuard_agg w .neq t x y asx cs hm, run_neq_struct, run_eqR ht hp hl]) k

theorem o_stA {x y : Operand} {t T : TypeId} {d : TypeDesc} {s bs b : Nat} {z : Value} {asx cs : Array Value} (ht : Ty P t d s bs z) (hx : ev e x = .pointer (some ⟨b, 0, none⟩)) (hy : ev e y = .agg asx) (has : asx.size = s) (h1 : asx.toList.all (·.oneCell') = true)
    (hB : w.heap[b]? = some (.cells cs T (0, 0))) (hcs : cs.size = s) (k : ∀ w', w'.heap[b]? = some (.cells asx T (0, 0)) → Only (fun k => k = b) w w' → w'.heap.size = w.heap.size → K undef w') : OP P e (.store t x y) ty w K := by
  have hr := run_storeCells_from (P := P) b T asx.toList 0 cs w hB (by simp [has, hcs]) (by intro v hv; exact List.all_eq_true.1 h1 v hv)
  simp only [List.take_zero, List.nil_append, Array.toArray_toList] at hr
  refine OP.ofS (w' := w.setRow b asx) ?_ (k _ (setRow_heap w b cs asx T (0, 0) hB) ⟨rfl, rfl, rfl, by simp, fun k _ hn => setRow_other w b k asx hn⟩ (by simp))
  simp [execOp, Instr.storeAt, Instr.sureAddr, hx, hy, storeVar, Value.cells, has, ht.run_size, hr]
theorem o_callX {f : FuncId} {fn : Func} {ex : Array Value → Sem Value} {l : List Operand} {vs : List Value} {ats : Array TypeId} {v : Value} {w' : World} (hf : P.funcs[f]? = some fn) (hname : (fn.name == "runtime.NumGoroutine") = false) (hb : fn.body.isNone = true) (hn : Extern.findNext fn = none) (he : Extern.find fn = some ex)
    (ha : l.map (ev e) = vs) (hr : (ex vs.toArray).run P w = .ok v w') (k : K v w') : OP P e (.call ⟨.value (.func f), l.toArray, ats⟩) ty w K := by
  subst ha
  refine OP.of ?_ k
  simp [execOp, resolve, Deferred.ofValue, ev, invoke, run_callFunc_extern hf hname hb hn he, hr]
theorem o_alB {t : TypeId} {d : TypeDesc} {s bs : Nat} {z : Value} (ht : Ty P t d s bs z) (k : ∀ w', w'.heap[w.heap.size]? = some (.cells z.cells t (0, 0)) → Ext w w' → w'.heap.size = w.heap.size + 1 → K (.pointer (some ⟨w.heap.size, 0, none⟩)) w') : OP P e (.alloc t) ty w K :=
  o_al ht (k _ (heap_alloc_new w _) (Only.alloc w _) (by show (Array.push _ _).size = _; simp))
theorem Only.tr {a b c : World} (h : Ext a b) (k : Ext b c) : Ext a c := Only.trans h k
theorem Ext.own {w0 w1 w : World} {p : Nat} (h : Ext w0 w1) (hp : w0.heap.size ≤ p) (k : Only (fun k => k = p) w1 w) : Ext w0 w := h.trans' k (fun _ h => h) (fun j hj he => by omega)
theorem own_only {w w' : World} {F : Nat → Prop} {base : Nat} {el : TypeId} {s n : Nat} {v : Value} {xs : List Value} (h : w.ownsRow base el s v n xs) (ho : Only F w w') (hne : ∀ k, v.ownBlock = some k → ¬ F k) : w'.ownsRow base el s v n xs := by
  obtain ⟨hl, h⟩ := h
  rcases h with ⟨rfl, rfl⟩ | ⟨g, cap, cur, rfl, hb, hc, r⟩
  · exact ⟨hl, .inl ⟨rfl, rfl⟩⟩
  · exact ⟨hl, .inr ⟨g, cap, cur, rfl, hb, ho.blk hc (hne g rfl), r⟩⟩
theorem own_mono {w : World} {base base' : Nat} {el : TypeId} {s n : Nat} {v : Value} {xs : List Value} (h : w.ownsRow base el s v n xs) (hb : base' ≤ base) : w.ownsRow base' el s v n xs := by
  obtain ⟨hl, h⟩ := h
  rcases h with ⟨rfl, rfl⟩ | ⟨g, cap, cur, rfl, hb2, r⟩
  · exact ⟨hl, .inl ⟨rfl, rfl⟩⟩
  · exact ⟨hl, .inr ⟨g, cap, cur, rfl, Nat.le_trans hb hb2, r⟩⟩
theorem own_ext {w w' : World} {base : Nat} {el : TypeId} {s n : Nat} {v : Value} {xs : List Value} (h : w.ownsRow base el s v n xs) (ho : Ext w w') : w'.ownsRow base el s v n xs := own_only h ho (fun _ _ h => h)
theorem run_loadA {t : TypeId} {d : TypeDesc} {s bs b o : Nat} {z : Value} {xs : List Value} (ht : Ty P t d s bs z) (hd : isAggD d = true) (hc : Cells w b o xs) (hl : xs.length = s) : (loadVar t ⟨b, o, none⟩).run P w = .ok (.agg xs.toArray) w := by
  have h := run_loadCells_list (P := P) w ⟨b, o, none⟩ xs (fun j v hj => by rw [add_none]; exact hc j v hj)
  rw [hl] at h
  simp [loadVar, ht.run_agg, hd, ht.run_size, h]
theorem retTC {fn : Func} {R : Value → World → Prop} {t a : Tmp} {T : TypeId} {d : TypeDesc} {s bs b o : Nat} {z v : Value} {xs : List Value} (hr : fn.results = #[.tmp t, .cell a T]) (ht : Ty P T d s bs z) (hd : isAggD d = true) (h1 : e t = v) (h2 : e a = .pointer (some ⟨b, o, none⟩)) (hc : Cells w b o xs) (hl : xs.length = s)
    (h : R (.tuple #[v, .agg xs.toArray]) w) : Rt fn P R e w :=
  ⟨fun _ ac ha => ⟨.tuple #[v, .agg xs.toArray], by
    have g1 : ac.tmps.getD t undef = v := by rw [ha.get]; exact h1
    have g2 : ac.tmps.getD a undef = .pointer (some ⟨b, o, none⟩) := by rw [ha.get]; exact h2
    simp only [Array.getD_eq_getD_getElem?] at g1 g2
    simp [results, hr, asAddr, g1, g2, run_loadA ht hd hc hl], h⟩⟩
theorem retCT {fn : Func} {R : Value → World → Prop} {t a : Tmp} {T : TypeId} {d : TypeDesc} {s bs b o : Nat} {z v : Value} {xs : List Value} (hr : fn.results = #[.cell a T, .tmp t]) (ht : Ty P T d s bs z) (hd : isAggD d = true) (h1 : e t = v) (h2 : e a = .pointer (some ⟨b, o, none⟩)) (hc : Cells w b o xs) (hl : xs.length = s)
    (h : R (.tuple #[.agg xs.toArray, v]) w) : Rt fn P R e w :=
  ⟨fun _ ac ha => ⟨.tuple #[.agg xs.toArray, v], by
    have g1 : ac.tmps.getD t undef = v := by rw [ha.get]; exact h1
    have g2 : ac.tmps.getD a undef = .pointer (some ⟨b, o, none⟩) := by rw [ha.get]; exact h2
    simp only [Array.getD_eq_getD_getElem?] at g1 g2
    simp [results, hr, asAddr, g1, g2, run_loadA ht hd hc hl], h⟩⟩
end
theorem lnp {e : Env} : ([] : List (Nat × Operand)).map (fun (x : Nat × Operand) => (x.1, ev e x.2)) = [] := rfl
theorem lcp {e : Env} {i : Nat} {x : Operand} {v : Value} {l : List (Nat × Operand)} {vs : List (Nat × Value)} (h : ev e x = v) (t : l.map (fun (x : Nat × Operand) => (x.1, ev e x.2)) = vs) : ((i, x) :: l).map (fun (x : Nat × Operand) => (x.1, ev e x.2)) = (i, v) :: vs := by
  rw [List.map_cons, t, h]
theorem fill_cells (n : Nat) (pl : List (Nat × Nat)) (hpl : pl = (List.range n).map fun i => (i, 1)) : ∀ (vs : List (Nat × Value)) (zs : List Value), zs.length = n → vs.all (fun x => decide (x.1 < n) && x.2.oneCell') = true →
    Instr.fill (pl.toArray[·]?) zs.toArray vs = some (vs.foldl (fun l x => l.set x.1 x.2) zs).toArray
  | [], zs, _, _ => rfl
  | (i, v) :: vs, zs, hn, h => by
    simp only [List.all_cons, Bool.and_eq_true, decide_eq_true_eq] at h
    obtain ⟨⟨h1, h2⟩, h3⟩ := h
    have hc : v.cells = #[v] := by cases v <;> first | rfl | simp [Value.oneCell'] at h2
    have hp : pl.toArray[i]? = some (i, 1) := by
      subst hpl
      simp [List.getElem?_range h1]
    have ih := fill_cells n pl hpl vs (zs.set i v) (by simp [hn]) h3
    simp only [Instr.fill, hp, hc]
    rw [if_neg (by simp; omega)]
    simp only [List.foldl_cons]
    rw [← ih]
    congr 1
    simp
theorem o_bldC {P : Program} {e : Env} {w : World} {K : Value → World → Prop} {ty : TypeId} {t : TypeId} {fs : List Field} {pl : List (Nat × Nat)} {s bs : Nat} {zs cs : List Value} {parts : List (Nat × Operand)} {vs : List (Nat × Value)} (ht : Ty P t (.struct fs.toArray) s bs (.agg zs.toArray)) (hs : Sizes P fs pl) (hpl : pl = (List.range zs.length).map fun i => (i, 1))
    (hp : (parts.map fun (x : Nat × Operand) => (x.1, ev e x.2)) = vs) (hv : vs.all (fun x => decide (x.1 < zs.length) && x.2.oneCell') = true) (hc : vs.foldl (fun l x => l.set x.1 x.2) zs = cs) (k : K (.agg cs.toArray) w) : OP P e (.build t parts.toArray) ty w K :=
  o_bld ht hs hp (by subst hc; exact fill_cells zs.length pl hpl vs zs rfl hv) k
theorem retC {P : Program} {e : Env} {w : World} {fn : Func} {R : Value → World → Prop} {a : Tmp} {T : TypeId} {d : TypeDesc} {s bs b o : Nat} {z : Value} {xs : List Value} (hr : fn.results = #[.cell a T]) (ht : Ty P T d s bs z) (hd : isAggD d = true) (h2 : e a = .pointer (some ⟨b, o, none⟩)) (hc : Cells w b o xs) (hl : xs.length = s)
    (h : R (.agg xs.toArray) w) : Rt fn P R e w :=
  ⟨fun _ ac ha => ⟨.agg xs.toArray, by
    have g2 : ac.tmps.getD a undef = .pointer (some ⟨b, o, none⟩) := by rw [ha.get]; exact h2
    simp only [Array.getD_eq_getD_getElem?] at g2
    simp [results, hr, asAddr, g2, run_loadA ht hd hc hl], h⟩⟩
theorem o_boxB {P : Program} {e : Env} {w : World} {K : Value → World → Prop} {ty : TypeId} {t : TypeId} {x : Operand} {v : Value} (hx : ev e x = v) (k : ∀ w', w'.heap[w.heap.size]? = some (.cells v.cells t (0, 0)) → Ext w w' → w'.heap.size = w.heap.size + 1 → K (.pointer (some ⟨w.heap.size, 0, none⟩)) w') : OP P e (.box t x) ty w K :=
  o_boxh hx (k _ (heap_alloc_new w _) (Only.alloc w _) (by show (Array.push _ _).size = _; simp))
end Go.Vc

set_option linter.unusedSimpArgs false
set_option linter.unusedVariables false
namespace Go.Vc
open Go Go.RowKit
theorem firstCells_str (P : Program) (w : World) (size : Nat) (ys : List UInt8) : (Builtin.firstCells size ys.length (st ys)).run P w = .ok (ys.map bv).toArray w := by
  have : (⟨ys.toArray⟩ : ByteArray).extract 0 ys.length = ⟨ys.toArray⟩ := by rw [ba_extract]; simp
  simp only [Builtin.firstCells, this, Sem.run_pure]
  congr 1
  simp [bv]
theorem run_apS {P : Program} (w : World) (base : Nat) (t u ty e : TypeId) (i : TypeInfo) (z : Value) (ht : P.underlying t = some (.slice e)) (hu : P.underlying u = some .string) (hi : P.info? e = some i) (hz : i.zero = some z)
    (hsize : i.size = 1) (hby : i.bytes = 1) (hzs : z.cells.size = 1) (v : Value) (n : Nat) (xs : List Value) (hown : w.ownsRow base e 1 v n xs) (ys : List UInt8)
    (h63 : n + ys.length ≤ maxLen) (hbytes : n + ys.length ≤ 140737488355328) (hbase : base ≤ w.heap.size) :
    ∃ v' w', (Builtin.append_ #[t, u] ty #[v, st ys]).run P w = .ok v' w' ∧ w'.ownsRow base e 1 v' (n + ys.length) (xs ++ ys.map bv) ∧ w.grownBy w' v.ownBlock := by
  have hsmall : n + ys.length ≤ 9223372036854775807 := by simp only [maxLen] at h63; omega
  have hl : (ys.map bv).length = ys.length * 1 := by simp
  have hlen : (xs ++ ys.map bv).length = (n + ys.length) * 1 := by rw [List.length_append, hown.1, hl, Nat.add_mul]
  have hsz : (⟨ys.toArray⟩ : ByteArray).size = ys.length := rfl
  have grown : ∀ (old : Nat), old < n + ys.length → ∀ (row : Option Nat),
      (w.drew.alloc (.cells (xs.toArray ++ (ys.map bv).toArray ++ Builtin.zeroCells z.cells (grownCap w (n + ys.length) old e - (n + ys.length))) e)).ownsRow base e 1
        (.slice (some ⟨w.heap.size, 0, none⟩) (n + ys.length) (grownCap w (n + ys.length) old e)) (n + ys.length) (xs ++ ys.map bv) ∧
      w.grownBy (w.drew.alloc (.cells (xs.toArray ++ (ys.map bv).toArray ++ Builtin.zeroCells z.cells (grownCap w (n + ys.length) old e - (n + ys.length))) e)) row := by
    intro old ho row
    have hge := grownCap_ge w (n + ys.length) old e
    have hcm : grownCap w (n + ys.length) old e ≤ maxLen := grownCap_le_maxLen w (n + ys.length) old e h63
    refine ⟨⟨hlen, .inr ⟨w.heap.size, _, _, rfl, hbase, heap_alloc_new w.drew _, hge, hcm, ?_, ?_⟩⟩, ⟨rfl, rfl, rfl, by simp, fun k hk _ => heap_alloc_old w.drew _ hk⟩⟩
    · simp only [Array.size_append, List.size_toArray, size_zeroCells, hzs, hown.1, hl]
      omega
    · simp only [Array.toList_append, List.append_assoc]
      rw [← List.append_assoc, ← hlen]
      exact List.take_left
  have hext : ∀ w : World, (Builtin.firstCells 1 ys.length (.string ⟨ys.toArray⟩)).run P w = .ok (ys.map bv).toArray w := fun w => firstCells_str P w 1 ys
  rcases hown.2 with ⟨rfl, rfl⟩ | ⟨g, cap, cur, rfl, hbg, hg, hnc, hcm, hcs, htake⟩
  · have hx : xs = [] := List.eq_nil_of_length_eq_zero (by simpa using hown.1)
    subst hx
    by_cases hm : ys.length = 0
    · have hn : ys = [] := List.eq_nil_of_length_eq_zero hm
      subst hn
      refine ⟨.slice none 0 0, w, ?_, World.ownsRow_nil w base e 1, ⟨rfl, rfl, rfl, Nat.le_refl _, fun _ _ _ => rfl⟩⟩
      have he : (⟨#[]⟩ : ByteArray) = ByteArray.empty := rfl
      have hs0 : (⟨#[]⟩ : ByteArray).size = 0 := rfl
      simp [Builtin.append_, run_underlying ht, run_underlying hu, sizeOf, typeInfo, hi, Builtin.lenOf, Builtin.firstCells, he, hs0]
    · have hn : ys.length ≠ 0 := hm
      have h63' : ¬ (9223372036854775807 < (ys.length : Int)) := by omega
      have h48' : ¬ (281474976710656 < Builtin.nextslicecap ys.length 0) := by rw [nextslicecap_zero (by omega)]; omega
      have hgr := grown 0 (by omega) (Value.ownBlock (.slice none 0 0))
      simp only [Nat.zero_add, List.nil_append, Array.empty_append] at hgr ⊢
      refine ⟨_, _, ?_, hgr.1, hgr.2⟩
      simp [Builtin.append_, run_underlying ht, run_underlying hu, sizeOf, typeInfo, zeroValue, hi, hz, hsize, hby, Builtin.lenOf, hsz, hn, h63', h48', Question.forced, run_firstCells_none, hext, newRow, grownCap]
  · by_cases hroom : n + ys.length ≤ cap
    · have hfit : n * 1 + (ys.map bv).length ≤ cur.size := by rw [hl, hcs]; omega
      have hst := run_storeCells_at P g (n * 1) e (ys.map bv) 0 cur w hg (by simpa using hfit) one_bv
      simp only [Nat.add_zero] at hst
      refine ⟨_, w.setRow g (cur.toList.take (n * 1) ++ ys.map bv ++ cur.toList.drop (n * 1 + (ys.map bv).length)).toArray, ?_, ⟨hlen, .inr ⟨g, cap, _, rfl, hbg, setRow_heap w g cur _ e _ hg, hroom, hcm, ?_, ?_⟩⟩, ⟨rfl, rfl, rfl, by simp, fun k _ hk => setRow_other w g k _ (fun e => hk (by simp [Value.ownBlock, e]))⟩⟩
      · simp [Builtin.append_, run_underlying ht, run_underlying hu, sizeOf, typeInfo, hi, hsize, Builtin.lenOf, hsz, hroom, hext, Addr.add_lit]
        have hst' := hst
        simp at hst'
        simp [hst']
      · simp only [List.size_toArray, List.length_append, List.length_take, List.length_drop, Array.length_toList]
        omega
      · rw [htake, ← hlen]
        exact List.take_left
    · have holds : ∀ j u, xs[j]? = some u → w.cell? ((⟨g, 0, none⟩ : Addr).add j) = some u := hown.cells (g := g) rfl
      have hn : ¬ (n + ys.length ≤ cap) := hroom
      have h63' : ¬ (9223372036854775807 < ((n : Int) + (ys.length : Int))) := by omega
      have hf48 := growslice_fits (need := n + ys.length) (old := cap) (bytes := 1) (by omega) (by omega)
      have h48' : ¬ (281474976710656 < Builtin.nextslicecap (n + ys.length) cap) := by omega
      have hfo := run_firstCells_some (P := P) w.drew 1 n ⟨g, 0, none⟩ n cap xs (by simpa using hown.1) (by simpa using holds)
      have hgr := grown cap (by omega) (Value.ownBlock (.slice (some ⟨g, 0, none⟩) n cap))
      refine ⟨_, _, ?_, hgr.1, hgr.2⟩
      simp [Builtin.append_, run_underlying ht, run_underlying hu, sizeOf, typeInfo, zeroValue, hi, hz, hsize, hby, Builtin.lenOf, hsz, hn, h63', h48', Question.forced, hext, hfo, newRow, grownCap]
      congr 2
      apply Array.ext'
      simp [List.append_assoc]
theorem o_apS {P : Program} {e : Env} {w : World} {K : Value → World → Prop} {ty : TypeId} {x y : Operand} {t u el : TypeId} {s bs s2 bs2 n : Nat} {z z' z2 v : Value} {d' : TypeDesc} {xs : List Value} {ys : List UInt8} (base : Nat) (ht : Ty P t (.slice el) s bs z) (hel : Ty P el d' 1 1 z') (hu : Ty P u .string s2 bs2 z2) (hx : ev e x = v) (hy : ev e y = st ys)
    (hown : w.ownsRow base el 1 v n xs) (hzs : z'.cells.size = 1) (h63 : n + ys.length ≤ maxLen) (hby : n + ys.length ≤ 140737488355328) (hbase : base ≤ w.heap.size)
    (k : ∀ v' w', w'.ownsRow base el 1 v' (n + ys.length) (xs ++ ys.map bv) → Only (fun k => v.ownBlock = some k) w w' → K v' w') : OP P e (.call ⟨.builtin .append, #[x, y], #[t, u]⟩) ty w K := by
  obtain ⟨i, hi1, hi2, hi3, hi4⟩ := hel.info
  obtain ⟨v', w', hr, h2, h3⟩ := run_apS (P := P) w base t u ty el i z' ht.und hu.und hi1 hi4 hi2 hi3 hzs v n xs hown ys h63 hby hbase
  exact OP.of (by simp [execOp, resolve, invoke, builtin, hx, hy, hr]) (k v' w' h2 ((Only.grown h3).mono (fun _ _ h => h.symm)))
theorem own_off {w : World} {base : Nat} {el : TypeId} {s n : Nat} {v : Value} {xs : List Value} {j : Nat} {cs : Array Value} {T : TypeId} {fr : Nat × Nat} (h : w.ownsRow base el s v n xs) (hj : w.heap[j]? = some (.cells cs T fr)) (hne : el ≠ T) : ¬ v.ownBlock = some j := by
  intro he
  rcases h.2 with ⟨rfl, rfl⟩ | ⟨g, cap, cur, rfl, hb, hc, r⟩
  · simp [Value.ownBlock] at he
  · simp only [Value.ownBlock, Option.some.injEq] at he
    subst he
    rw [hj] at hc
    simp only [Option.some.injEq, Obj.cells.injEq] at hc
    exact hne hc.2.1.symm
theorem own_row_off {w : World} {base base' : Nat} {el el' : TypeId} {s n s' n' : Nat} {v v' : Value} {xs xs' : List Value} (h : w.ownsRow base el s v n xs) (h' : w.ownsRow base' el' s' v' n' xs') (hne : el ≠ el') : ∀ k, v'.ownBlock = some k → ¬ v.ownBlock = some k := by
  intro k hk
  rcases h'.2 with ⟨rfl, rfl⟩ | ⟨g, cap, cur, rfl, hb, hc, r⟩
  · simp [Value.ownBlock] at hk
  · simp only [Value.ownBlock, Option.some.injEq] at hk
    subst hk
    exact own_off h hc hne
end Go.Vc

set_option linter.unusedSimpArgs false
set_option linter.unusedVariables false
namespace Go.Vc
open Go Go.RowKit
variable {D : List Deferred}

theorem cnt_ge (L m : Nat) (p : Nat → Bool) (h : ∀ k, k < L → k < m → p k = true) : min L m ≤ (List.range L).countP p := by
  have gen : ∀ L, (∀ k, k < L → k < m → p k = true) → min L m ≤ (List.range L).countP p := by
    intro L
    induction L with
    | zero => intro _; simp
    | succ L ih =>
      intro h
      have h1 := ih (fun k hk => h k (by omega))
      rw [List.range_succ, List.countP_append]
      by_cases hp : L < m
      · have := h L (by omega) hp
        simp [this]; omega
      · omega
  exact gen L h
/-- the operations behind the first m: all of them, in whatever order -/
def Rest (P : Program) (l : List Oper) (Q : Exit → Env → World → Prop) (n m : Nat) (e : Env) (w : World) : Prop :=
  ∀ D a, Rel D n a e → ∀ fuel, l.length - m ≤ fuel → wpAny P .any l.toArray (lift D n Q) fuel (List.replicate m true ++ List.replicate (l.length - m) false).toArray a w
def drawOkR (all : List Oper) (m : Nat) (ins : List Nat) (n : Nat) : Bool :=
  decide (((all.drop m).map fun o => o.dst.getD 0).reverse ++ ins).Nodup &&
  (all.drop m).all (fun o => o.dst.isSome && Nat.blt (o.dst.getD 0) n) &&
  all.zipIdx.all (fun (o, i) => o.after.toList.all (fun e => !Region.binds .any e || Nat.blt e.on i)) &&
  ((all.drop m).zipIdx m).all (fun (o, i) => ((all.drop m).zipIdx m).all (fun (p, j) => !(rds all o).contains (p.dst.getD 0) || o.after.toList.any (fun e => Region.binds .any e && e.on == j))) &&
  decide (m ≤ all.length)
theorem Rest.draw {P : Program} {Q : Exit → Env → World → Prop} {n m : Nat} {e : Env} {w0 : World} {l : List Oper} (R : World → World → Prop) (kn : Known) (hok : drawOkR l m (kn.map Prod.fst) n = true)
    (hrefl : ∀ w, R w w) (htrans : ∀ a b c, R a b → R b c → R a c) (hmono' : MonoAll R kn) (h0 : HoldsAll kn e w0)
    (h : WD P l R w0 (fun KN => ∀ e' w', R w0 w' → HoldsAll KN e' w' → Q .normal e' w') (l.drop m) kn) : Rest P l Q n m e w0 := by
  have hmono := hmono'.mem
  obtain ⟨KN, hF, hsub, hfst, hor, hstep⟩ := WD.unroll (l.drop m) kn h
  simp only [drawOkR, Bool.and_eq_true, decide_eq_true_eq, List.all_eq_true] at hok
  obtain ⟨⟨⟨⟨hnd, hdst⟩, hedge⟩, hwt⟩, hml⟩ := hok
  have hnd' : (KN.map Prod.fst).Nodup := by rw [hfst]; exact hnd
  have hinj := nodup_inj hnd'
  have hmonoK : ∀ x ∈ KN, Mono R x.2 := fun x hx => by
    rcases hor x hx with hx | ⟨hm, _⟩
    · exact hmono x hx
    · exact hm
  have hback : ∀ (i : Nat) o, l[i]? = some o → ∀ e ∈ o.after.toList, Region.binds .any e = true → e.on < i := by
    intro i o ho e he hb
    have := (hedge (o, i) (List.mem_zipIdx_iff_getElem?.2 ho)) e he
    rw [hb] at this
    simpa using this
  have hmz : ∀ (i : Nat) o, m ≤ i → l[i]? = some o → (o, i) ∈ (l.drop m).zipIdx m := by
    intro i o hi ho
    rw [List.mem_zipIdx_iff_le_and_getElem?_sub]
    refine ⟨hi, ?_⟩
    rw [List.getElem?_drop, show m + (i - m) = i by omega]; exact ho
  have hwait : ∀ (i j : Nat) o p, m ≤ i → m ≤ j → l[i]? = some o → l[j]? = some p → p.dst.getD 0 ∈ rds l o → ∃ e ∈ o.after.toList, Region.binds .any e = true ∧ e.on = j := by
    intro i j o p hi hj ho hp hin
    have := (hwt (o, i) (hmz i o hi ho)) (p, j) (hmz j p hj hp)
    simp only [Bool.or_eq_true, Bool.not_eq_true', List.any_eq_true, Bool.and_eq_true, beq_iff_eq] at this
    rcases this with h | ⟨e, he, hb, hj⟩
    · simp only [List.contains_eq_mem, decide_eq_false_iff_not] at h; exact absurd hin h
    · exact ⟨e, he, hb, hj⟩
  intro D
  -- the invariant
  have main : ∀ (fuel : Nat) (listed : Array Bool) (a : Act) (w' : World) (e' : Env), listed.size = l.length → (∀ i, listed.getD i true = false → i < l.length) → (∀ i, i < m → listed.getD i true = true) → (l.length ≤ fuel + (List.range l.length).countP (fun i => listed.getD i true)) → Rel D n a e' → R w0 w' →
      (∀ x ∈ KN, (x ∈ kn ∨ ∃ j o, m ≤ j ∧ l[j]? = some o ∧ o.dst = some x.1 ∧ listed.getD j false = true) → x.2 (e' x.1) w') →
      wpAny P .any l.toArray (lift D n Q) fuel listed a w' := by
    intro fuel
    have fin : ∀ (listed : Array Bool) (a : Act) (w' : World) (e' : Env), listed.size = l.length → Rel D n a e' → R w0 w' → (∀ x ∈ KN, (x ∈ kn ∨ ∃ j o, m ≤ j ∧ l[j]? = some o ∧ o.dst = some x.1 ∧ listed.getD j false = true) → x.2 (e' x.1) w') → (∀ i, i < l.length → listed.getD i true = true) → lift D n Q .normal a w' := by
      intro listed a w' e' hsz hr hR hx hall
      refine ⟨e', hr, hF e' w' hR (HoldsAll.of fun x hxm => hx x hxm ?_)⟩
      rcases hor x hxm with h | ⟨_, o, ho, hd⟩
      · exact .inl h
      · obtain ⟨j0, hj0⟩ := List.getElem?_of_mem ho
        obtain ⟨j, hmj, hj⟩ : ∃ j, m ≤ j ∧ l[j]? = some o := ⟨m + j0, by omega, by rw [List.getElem?_drop] at hj0; exact hj0⟩
        have hjl : j < l.length := (List.getElem?_eq_some_iff.1 hj).1
        refine .inr ⟨j, o, hmj, hj, hd, ?_⟩
        have := hall j hjl
        have h2 : j < listed.size := by omega
        simpa [Array.getD, h2] using this
    induction fuel with
    | zero =>
      intro listed a w' e' hsz hin hfirst hcnt hr hR hx
      have hall : ∀ i, i < l.length → listed.getD i true = true := by
        intro i hi
        have hle := List.countP_le_length (p := fun i => listed.getD i true) (l := List.range l.length)
        have heq : (List.range l.length).countP (fun i => listed.getD i true) = (List.range l.length).length := by simp at hle ⊢; simp at hcnt; omega
        exact List.countP_eq_length.1 heq i (List.mem_range.2 hi)
      refine ⟨?_, fin listed a w' e' hsz hr hR hx hall⟩
      unfold Region.ready
      rw [List.filter_eq_nil_iff]
      intro i hi
      have hi' : i < l.length := by simpa using hi
      rw [hall i hi']
      simp
    | succ fuel ih =>
      intro listed a w' e' hsz hin hfirst hcnt hr hR hx
      refine ⟨fun hre => fin listed a w' e' hsz hr hR hx (all_listed hsz hback hre), fun i hi => ?_⟩
      obtain ⟨hiu, oi, hoi, hall⟩ := mem_ready.1 hi
      have hoi' : l[i]? = some oi := by simpa using hoi
      have hil : i < l.length := (List.getElem?_eq_some_iff.1 hoi').1
      have him : m ≤ i := by
        rcases Nat.lt_or_ge i m with h | h
        · have := hfirst i h; rw [hiu] at this; cases this
        · exact h
      have hmemi : oi ∈ l.drop m := List.mem_of_getElem? (i := i - m) (by rw [List.getElem?_drop, show m + (i - m) = i by omega]; exact hoi')
      obtain ⟨d, φ, hd, hmem, hs⟩ := hstep oi hmemi
      have hdn := (hdst oi hmemi)
      have hdn : Nat.blt d n = true := by simpa [hd] using hdn.2
      have hpre : ∀ x ∈ KN, x.1 ∈ rds l oi → x.2 (e' x.1) w' := by
        intro x hxm hxr
        refine hx x hxm ?_
        rcases hor x hxm with h | ⟨_, o, ho, hdo⟩
        · exact .inl h
        · obtain ⟨j0, hj0⟩ := List.getElem?_of_mem ho
          obtain ⟨j, hmj, hj⟩ : ∃ j, m ≤ j ∧ l[j]? = some o := ⟨m + j0, by omega, by rw [List.getElem?_drop] at hj0; exact hj0⟩
          obtain ⟨ed, hed, hb, hej⟩ := hwait i j oi o him hmj hoi' hj (by rw [hdo]; exact hxr)
          refine .inr ⟨j, o, hmj, hj, hdo, ?_⟩
          have := hall ed (by simpa using hed) hb
          rw [hej] at this
          exact this
      have hsg := hs e' w' hR hpre _ n a hr
      have next : ∀ v w2, φ v w2 ∧ R w' w2 → wpAny P .any l.toArray (lift D n Q) fuel (listed.setIfInBounds i true) (a.put oi.dst v) w2 := by
        rintro v w2 ⟨hφ, hR2⟩
        rw [hd]
        refine ih _ _ _ (upd e' d v) (by simpa using hsz) (fun k hk => ?_) (fun k hk => ?_) ?_ (hr.put hdn v) (htrans _ _ _ hR hR2) ?_
        · refine hin k ?_
          by_cases hki : k = i
          · subst hki; exact hiu
          · rw [Array.getD_eq_getD_getElem?, Array.getElem?_setIfInBounds_ne (by omega)] at hk
            rw [Array.getD_eq_getD_getElem?]; exact hk
        · have h1 := hfirst k hk
          rw [Array.getD_eq_getD_getElem?, Array.getElem?_setIfInBounds_ne (by omega), ← Array.getD_eq_getD_getElem?]
          exact h1
        · have hcount : (List.range l.length).countP (fun k => listed.getD k true) + 1 ≤ (List.range l.length).countP (fun k => (listed.setIfInBounds i true).getD k true) := by
            have key : ∀ (r : List Nat), r.Nodup → i ∈ r → r.countP (fun k => listed.getD k true) + 1 ≤ r.countP (fun k => (listed.setIfInBounds i true).getD k true) := by
              intro r
              induction r with
              | nil => intro _ h; cases h
              | cons k r ihr =>
                intro hn hmem
                simp only [List.nodup_cons] at hn
                rw [List.countP_cons, List.countP_cons]
                by_cases hki : k = i
                · subst hki
                  have e1 : listed.getD k true = false := hiu
                  have e2 : (listed.setIfInBounds k true).getD k true = true := by
                    rw [Array.getD_eq_getD_getElem?, Array.getElem?_setIfInBounds]; simp; split <;> rfl
                  rw [e1, e2]
                  have : r.countP (fun k => listed.getD k true) ≤ r.countP (fun k' => (listed.setIfInBounds k true).getD k' true) := by
                    refine List.countP_mono_left fun k' hk' => ?_
                    intro h
                    by_cases hkk : k' = k
                    · subst hkk; exact absurd hk' hn.1
                    · rw [Array.getD_eq_getD_getElem?, Array.getElem?_setIfInBounds_ne (by omega)]
                      rw [Array.getD_eq_getD_getElem?] at h; exact h
                  rw [if_neg (by decide), if_pos rfl]; omega
                · have e1 : (listed.setIfInBounds i true).getD k true = listed.getD k true := by
                    rw [Array.getD_eq_getD_getElem?, Array.getElem?_setIfInBounds_ne (by omega), Array.getD_eq_getD_getElem?]
                  have := ihr hn.2 (by rcases List.mem_cons.1 hmem with h | h; exact absurd h.symm hki; exact h)
                  rw [e1]; omega
            exact key _ List.nodup_range (List.mem_range.2 hil)
          omega
        · intro x hxm hcond
          by_cases hxd : x.1 = d
          · have := hinj x hxm (d, φ) hmem hxd
            subst this
            simp only [upd]
            rw [show Nat.beq d d = true from Nat.beq_refl d]
            exact hφ
          · have hnb : Nat.beq x.1 d = false := beq_false hxd
            simp only [upd, hnb]
            refine hmonoK x hxm _ _ _ hR2 (hx x hxm ?_)
            rcases hcond with h | ⟨j, o, hmj, hj, hdo, hl⟩
            · exact .inl h
            · refine .inr ⟨j, o, hmj, hj, hdo, ?_⟩
              have hji : j ≠ i := by
                intro hji
                subst hji
                rw [hj] at hoi'
                simp only [Option.some.injEq] at hoi'
                subst hoi'
                rw [hdo] at hd
                simp only [Option.some.injEq] at hd
                exact hxd hd
              rw [Array.getD_eq_getD_getElem?, Array.getElem?_setIfInBounds_ne (by omega)] at hl
              rw [Array.getD_eq_getD_getElem?]; exact hl
      unfold wpOp
      rw [hoi]
      show (if Region.wanted oi (yielded l.toArray a.tmps) = true then _ else _)
      split
      · rename_i hw
        rw [if_pos hw] at hsg
        exact .inl (OP.wp hr.ev (hsg.mono next))
      · rename_i hw
        rw [if_neg hw] at hsg
        exact next undef w' hsg
  intro a ha fuel hfuel
  have hLs : (List.replicate m true ++ List.replicate (l.length - m) false).toArray.size = l.length := by simp; omega
  have hLt : ∀ i, i < m → (List.replicate m true ++ List.replicate (l.length - m) false).toArray.getD i true = true := fun i hi => by
    rw [Array.getD_eq_getD_getElem?, List.getElem?_toArray, List.getElem?_append_left (by simpa using hi), List.getElem?_replicate, if_pos hi]; rfl
  refine main fuel _ a w0 e hLs (fun i hi => ?_) hLt ?_ ha (hrefl _) (fun x hxm hc => ?_)
  · rcases Nat.lt_or_ge i l.length with h | h
    · exact h
    · rw [Array.getD_eq_getD_getElem?, Array.getElem?_eq_none (by rw [hLs]; exact h)] at hi; cases hi
  · have := cnt_ge l.length m (fun i => (List.replicate m true ++ List.replicate (l.length - m) false).toArray.getD i true) (fun k _ hk => hLt k hk)
    omega
  · rcases hc with h | ⟨j, o, hmj, hj, hdo, hl⟩
    · exact h0.mem x h
    · exfalso
      have hjl : j < l.length := (List.getElem?_eq_some_iff.1 hj).1
      rw [Array.getD_eq_getD_getElem?, List.getElem?_toArray, List.getElem?_append_right (by rw [List.length_replicate]; omega), List.getElem?_replicate, List.length_replicate, if_pos (by omega)] at hl
      cases hl
end Go.Vc

set_option linter.unusedSimpArgs false
set_option linter.unusedVariables false
namespace Go.Vc
open Go Go.RowKit

theorem own_blk {w : World} {base : Nat} {el : TypeId} {s n : Nat} {v : Value} {xs : List Value} (h : w.ownsRow base el s v n xs) {g : Nat} (hb : v.ownBlock = some g) : ∃ cap cur, v = .slice (some ⟨g, 0, none⟩) n cap ∧ base ≤ g ∧ w.heap[g]? = some (.cells cur el (0, 0)) ∧ n ≤ cap ∧ cap ≤ maxLen ∧ cur.size = cap * s ∧ cur.toList.take (n * s) = xs := by
  rcases h.2 with ⟨rfl, rfl⟩ | ⟨g', cap, cur, rfl, r⟩
  · simp [Value.ownBlock] at hb
  · simp only [Value.ownBlock, Option.some.injEq] at hb
    subst hb
    exact ⟨cap, cur, rfl, r⟩
theorem own_some {w : World} {base : Nat} {el : TypeId} {s n : Nat} {v : Value} {xs : List Value} (h : w.ownsRow base el s v n xs) (hn : 0 < n) : ∃ g cap, v = .slice (some ⟨g, 0, none⟩) n cap ∧ v.ownBlock = some g := by
  rcases h.2 with ⟨rfl, rfl⟩ | ⟨g', cap, cur, rfl, r⟩
  · omega
  · exact ⟨g', cap, rfl, rfl⟩
theorem own_one {w : World} {base : Nat} {el : TypeId} {s n : Nat} {v : Value} {xs : List Value} (h : w.ownsRow base el s v n xs) : v.oneCell' = true := by
  rcases h.2 with ⟨rfl, rfl⟩ | ⟨g', cap, cur, rfl, r⟩ <;> rfl
theorem own_cells {w : World} {base : Nat} {el : TypeId} {s n : Nat} {v : Value} {xs : List Value} (h : w.ownsRow base el s v n xs) : v.cells = #[v] := by
  rcases h.2 with ⟨rfl, rfl⟩ | ⟨g', cap, cur, rfl, r⟩ <;> rfl
theorem run_apO {P : Program} (w : World) (base : Nat) (t ty e : TypeId) (i : TypeInfo) (z : Value) (size bytes : Nat) (ht : P.underlying t = some (.slice e)) (hi : P.info? e = some i) (hz : i.zero = some z)
    (hsize : i.size = size) (hby : i.bytes = bytes) (hzs : z.cells.size = size) (hsz : 0 < size) (v : Value) (n : Nat) (xs : List Value) (hown : w.ownsRow base e size v n xs)
    (a : Addr) (m c : Nat) (news : List Value) (hl : news.length = m * size) (hnews : ∀ j u, news[j]? = some u → w.cell? (a.add j) = some u) (h1 : ∀ u ∈ news, u.oneCell' = true)
    (h63 : n + m ≤ maxLen) (hbytes : (n + m) * bytes ≤ 140737488355328) (hbase : base ≤ w.heap.size) :
    ∃ v' w', (Builtin.append_ #[t, t] ty #[v, .slice (some a) m c]).run P w = .ok v' w' ∧ w'.ownsRow base e size v' (n + m) (xs ++ news) ∧ w.grownBy w' v.ownBlock ∧
      (v'.ownBlock = v.ownBlock ∨ v'.ownBlock = some w.heap.size) ∧ w'.ownsRow base e size v n xs ∧ (v'.ownBlock = v.ownBlock ∨ Ext w w') := by
  obtain ⟨v', w', hr, h2, h3, -, h5⟩ := run_append_own_at (P := P) w base t ty e i z size bytes ht hi hz hsize hby hzs hsz v n xs hown a m c news hl hnews h1 h63 hbytes hbase
  refine ⟨v', w', hr, h2, h3, h5, ?_⟩
  rcases hown.2 with ⟨rfl, rfl⟩ | ⟨g, cap, cur, rfl, hbg, hg, hnc, hcm, hcs, htake⟩
  · refine ⟨⟨hown.1, .inl ⟨rfl, rfl⟩⟩, .inr ⟨h3.os, h3.tape, h3.output, h3.size, fun k hk _ => h3.block k hk (by simp [Value.ownBlock])⟩⟩
  · by_cases hroom : n + m ≤ cap
    · have hr2 := run_append_room (P := P) w t ty e i ht hi g n cap cur hg a m c news (by rw [hsize]; exact hl) hnews h1 hroom (by rw [hsize, hl, hcs, ← Nat.add_mul]; exact Nat.mul_le_mul_right _ hroom)
      rw [hr] at hr2
      simp only [Result.ok.injEq] at hr2
      have hns : n * size ≤ cap * size := Nat.mul_le_mul_right _ hnc
      have hnm : (n + m) * size ≤ cap * size := Nat.mul_le_mul_right _ hroom
      rw [Nat.add_mul] at hnm
      have hcl : cur.toList.length = cap * size := by simp [hcs]
      have e1 : (cur.toList.take (n * i.size)).length = n * size := by rw [hsize, List.length_take, hcl, Nat.min_eq_left hns]
      refine ⟨⟨hown.1, .inr ⟨g, cap, _, rfl, hbg, by rw [hr2.2]; exact setRow_heap w g cur _ e _ hg, hnc, hcm, ?_, ?_⟩⟩, .inl (by rw [hr2.1]; rfl)⟩
      · rw [List.size_toArray, List.length_append, List.length_append, e1, List.length_drop, hcl, hl, hsize]; omega
      · show (cur.toList.take (n * i.size) ++ news ++ cur.toList.drop (n * i.size + news.length)).take (n * size) = xs
        rw [List.append_assoc, ← e1, List.take_left, hsize, htake]
    · have hsmall : n + m ≤ 9223372036854775807 := by simp only [maxLen] at h63; omega
      have holds : ∀ j u, xs[j]? = some u → w.cell? ((⟨g, 0, none⟩ : Addr).add j) = some u := hown.cells (g := g) rfl
      have hr2 := run_append_grow (P := P) w t ty e i z ht hi hz ⟨g, 0, none⟩ n cap xs (by rw [hsize]; exact hown.1) holds a m c news (by rw [hsize]; exact hl) hnews (by omega) (by omega) (by rw [hby]; exact growslice_fits (by omega) hbytes)
      rw [hr] at hr2
      simp only [Result.ok.injEq] at hr2
      have hext : Ext w w' := by rw [hr2.2]; exact (Only.drew w).tr (Only.alloc w.drew _)
      exact ⟨own_ext hown hext, .inr hext⟩
/-- a row of the same contents keeps them under an append to the older one -/
theorem own_keep {w w1 : World} {base : Nat} {el : TypeId} {s n m : Nat} {v v1 u : Value} {xs ys : List Value} (hold : w.ownsRow base el s v n xs) (hk : w1.ownsRow base el s v n xs) (hr : w1.ownsRow base el s v1 m ys) (hb : v1.ownBlock = v.ownBlock ∨ Ext w w1)
    (ho : Only (fun k => v.ownBlock = some k) w w1) (hu : w.ownsRow base el s u m ys) : w1.ownsRow base el s u m ys := by
  rcases hb with hb | hb
  · rcases hu.2 with ⟨rfl, rfl⟩ | ⟨g, cap, cur, rfl, hbg, hc, hnc, hcm, hcs, ht⟩
    · exact ⟨hu.1, .inl ⟨rfl, rfl⟩⟩
    · by_cases hg : v.ownBlock = some g
      · obtain ⟨cv, curv, -, -, hcv, -, -, hsv, -⟩ := own_blk hold hg
        obtain ⟨ck, curk, hvk, -, hck, -, -, hsk, -⟩ := own_blk hk hg
        obtain ⟨cr, curr, -, -, hcr, -, -, hsr, htr⟩ := own_blk hr (by rw [hb]; exact hg)
        obtain ⟨cv', curv', hvv, -⟩ := own_blk hold hg
        rw [hc] at hcv
        simp only [Option.some.injEq, Obj.cells.injEq] at hcv
        rw [hck] at hcr
        simp only [Option.some.injEq, Obj.cells.injEq] at hcr
        have e1 : curk = curr := hcr.1
        have e2 : cur = curv := hcv.1
        obtain ⟨c0, cur0, h0, -, -, -, -, hs0, -⟩ := own_blk hold hg
        have e3 : ck = c0 := by rw [hvk] at h0; simp only [Value.slice.injEq] at h0; exact h0.2.2
        obtain ⟨c5, cur5, h5, -, hc5, -, -, hs5, -⟩ := own_blk hold hg
        have e4 : c5 = ck := by rw [hvk] at h5; simp only [Value.slice.injEq] at h5; exact h5.2.2.symm
        rw [hc] at hc5
        simp only [Option.some.injEq, Obj.cells.injEq] at hc5
        have e5 : cur = cur5 := hc5.1
        refine ⟨hu.1, .inr ⟨g, cap, curk, rfl, hbg, hck, hnc, hcm, ?_, by rw [e1]; exact htr⟩⟩
        rw [hsk, ← e4, ← hs5, ← e5, hcs]
      · exact own_only hu ho (fun k h => by simp only [Value.ownBlock, Option.some.injEq] at h; subst h; exact hg)
  · exact own_ext hu hb
section
variable {P : Program} {e : Env} {w : World} {K : Value → World → Prop} {ty : TypeId}
theorem o_apO {x y : Operand} {t el : TypeId} {s bs s' bs' n m : Nat} {z z' v u : Value} {d' : TypeDesc} {xs ys : List Value} (base : Nat) (ht : Ty P t (.slice el) s bs z) (hel : Ty P el d' s' bs' z') (hx : ev e x = v) (hy : ev e y = u)
    (hown : w.ownsRow base el s' v n xs) (hS : Sl w s' u m ys) (hzs : z'.cells.size = s') (hsz : 0 < s') (h1 : ∀ a ∈ ys, a.oneCell' = true) (h63 : n + m ≤ maxLen) (hby : (n + m) * bs' ≤ 140737488355328) (hbase : base ≤ w.heap.size)
    (k : ∀ v' w', w'.ownsRow base el s' v' (n + m) (xs ++ ys) → Only (fun k => v.ownBlock = some k) w w' → (v'.ownBlock = v.ownBlock ∨ v'.ownBlock = some w.heap.size) → (w'.ownsRow base el s' v n xs ∧ (v'.ownBlock = v.ownBlock ∨ Ext w w')) → K v' w') : OP P e (.call ⟨.builtin .append, #[x, y], #[t, t]⟩) ty w K := by
  obtain ⟨i, hi1, hi2, hi3, hi4⟩ := hel.info
  rcases hS.val with ⟨rfl, a, c, rfl⟩ | ⟨b, off, c, rfl, hnc, hc⟩
  · have hnil : ys = [] := List.eq_nil_of_length_eq_zero (by simpa using hS.len)
    subst hnil
    cases a with
    | some a =>
      obtain ⟨v', w', hr, h2, h3, h4, h5⟩ := run_apO (P := P) w base t ty el i z' s' bs' ht.und hi1 hi4 hi2 hi3 hzs hsz v n xs hown a 0 c [] (by simp) (fun j u hj => by simp at hj) h1 h63 hby hbase
      exact OP.of (by simp [execOp, resolve, invoke, builtin, hx, hy, hr]) (k v' w' h2 ((Only.grown h3).mono (fun _ _ h => h.symm)) h4 h5)
    | none =>
    have hr : (Builtin.append_ #[t, t] ty #[v, .slice none 0 c]).run P w = .ok v w := by
      rcases hown.2 with ⟨rfl, rfl⟩ | ⟨g, cap, cur, rfl, _, _, hnc, _⟩
      · simp [Builtin.append_, run_underlying ht.und, sizeOf, typeInfo, hi1, Builtin.lenOf, Builtin.firstCells]
      · simp [Builtin.append_, run_underlying ht.und, sizeOf, typeInfo, hi1, Builtin.lenOf, Builtin.firstCells, hnc, storeCells]
    refine OP.of (v := v) (w' := w) (by simp [execOp, resolve, invoke, builtin, hx, hy, hr]) (k v w (by simpa using hown) (Only.refl _ _) (.inl rfl) ⟨hown, .inl rfl⟩)
  · obtain ⟨v', w', hr, h2, h3, h4, h5⟩ := run_apO (P := P) w base t ty el i z' s' bs' ht.und hi1 hi4 hi2 hi3 hzs hsz v n xs hown ⟨b, off, none⟩ m c ys hS.len (fun j u hj => by rw [add_none]; exact hc j u hj) h1 h63 hby hbase
    exact OP.of (by simp [execOp, resolve, invoke, builtin, hx, hy, hr]) (k v' w' h2 ((Only.grown h3).mono (fun _ _ h => h.symm)) h4 h5)
/-- one element is appended -/
theorem WL.apO {all rest : List Oper} {Q : Exit → Env → World → Prop} {n d1 d2 : Nat} {t el ty2 : TypeId} {s bs s' bs' m : Nat} {z z' v u : Value} {d' : TypeDesc} {x y : Operand} {xs : List Value} {pos pos2 : String} {after after2 : Array Edge} (base : Nat)
    (hd1 : Nat.blt d1 n = true) (hd2 : Nat.blt d2 n = true) (ht : Ty P t (.slice el) s bs z) (hel : Ty P el d' s' bs' z') (hx : ev e x = u) (hy : ev (upd e d1 (.slice (some ⟨w.heap.size, 0, none⟩) 1 1)) y = v) (hown : w.ownsRow base el s' v m xs)
    (hs : 0 < s') (hs2 : s' ≤ 16777216) (hu : u.cells.size = s') (h1 : ∀ a ∈ u.cells.toList, a.oneCell' = true) (hzs : z'.cells.size = s') (h63 : m + 1 ≤ maxLen) (hby : (m + 1) * bs' ≤ 140737488355328) (hbase : base ≤ w.heap.size)
    (k : ∀ v' w', w'.ownsRow base el s' v' (m + 1) (xs ++ u.cells.toList) → Only (fun k => v.ownBlock = some k) w w' → (v'.ownBlock = v.ownBlock ∨ v'.ownBlock = some (w.heap.size + 1)) → w'.ownsRow base el s' v m xs → WL P all rest Q n (upd (upd e d1 (.slice (some ⟨w.heap.size, 0, none⟩) 1 1)) d2 v') w') :
    WL P all (⟨some d1, .buildSlice t 1 #[(0, x)], ty, pos, after, none⟩ :: ⟨some d2, .call ⟨.builtin .append, #[y, .tmp d1], #[t, t]⟩, ty2, pos2, after2, none⟩ :: rest) Q n e w := by
  refine WL.c hd1 (o_bs1 ht hel hx hs hs2 hu (WL.c hd2 (o_apO base ht hel hy (u := .slice (some ⟨w.heap.size, 0, none⟩) 1 1) (by simp [ev, upd]) (hown.alloc _) (Sl.one hu) hzs hs h1 h63 hby (by simp; omega) ?_)))
  intro v' w' ho hg hb hS
  refine k v' w' ho ?_ (by simpa using hb) hS.1
  refine (Only.alloc w _).trans' hg (fun _ h => h.elim) (fun k _ h => h)
/-- a store of one cell into an own row -/
theorem o_stR1 {x y : Operand} {t el : TypeId} {dd : TypeDesc} {bs g o i n base : Nat} {z u v : Value} {xs : List Value} (ht : Ty P t dd 1 bs z) (hx : ev e x = .pointer (some ⟨g, o, none⟩)) (hoi : o = i) (hy : ev e y = u) (hu : u.oneCell' = true)
    (hown : w.ownsRow base el 1 v n xs) (hv : v.ownBlock = some g) (hi : i < n) (k : ∀ w', w'.ownsRow base el 1 v n (xs.set i u) → Only (fun k => v.ownBlock = some k) w w' → w'.heap.size = w.heap.size → K undef w') : OP P e (.store t x y) ty w K := by
  subst hoi
  obtain ⟨cap, cur, rfl, hb, hc, hnc, hcm, hcs, htk⟩ := own_blk hown hv
  refine o_stB ht hx hy hu hc (by omega) fun w' hC ho hs => k w' ⟨by simp [hown.1], .inr ⟨g, cap, _, rfl, hb, hC, hnc, hcm, by simp [hcs], ?_⟩⟩ (ho.mono (fun j _ h => by rw [hv, h])) hs
  rw [← htk]
  simp only [Array.toList_setIfInBounds, List.take_set]
/-- .. of a struct -/
theorem o_stRA {x y : Operand} {t el : TypeId} {d : TypeDesc} {s bs g o i n base : Nat} {z v : Value} {asx : Array Value} {xs : List Value} (ht : Ty P t d s bs z) (hx : ev e x = .pointer (some ⟨g, o, none⟩)) (hoi : o = i * s) (hy : ev e y = .agg asx) (has : asx.size = s) (h1 : asx.toList.all (·.oneCell') = true)
    (hown : w.ownsRow base el s v n xs) (hv : v.ownBlock = some g) (hi : i < n) (k : ∀ w', w'.ownsRow base el s v n (xs.take (i * s) ++ asx.toList ++ xs.drop (i * s + s)) → Only (fun k => v.ownBlock = some k) w w' → w'.heap.size = w.heap.size → K undef w') : OP P e (.store t x y) ty w K := by
  obtain ⟨cap, cur, rfl, hb, hc, hnc, hcm, hcs, htk⟩ := own_blk hown hv
  have hm : (i + 1) * s ≤ n * s := Nat.mul_le_mul_right _ hi
  have hm2 : n * s ≤ cap * s := Nat.mul_le_mul_right _ hnc
  rw [Nat.add_mul, Nat.one_mul] at hm
  have hr := run_storeCells_at P g o el asx.toList 0 cur w hc (by simp [has, hcs]; omega) (by intro v hv; exact List.all_eq_true.1 h1 v hv)
  simp only [Nat.add_zero, Array.length_toList, has] at hr
  subst hoi
  have hlen : ∀ (A B : List Value), A.length = i * s → B.length = s → A ++ B ++ (cur.toList.drop (i * s + s)) = A ++ (B ++ cur.toList.drop (i * s + s)) := fun A B _ _ => List.append_assoc _ _ _
  have hcl : cur.toList.length = cap * s := by simp [hcs]
  have hal : asx.toList.length = s := by simp [has]
  refine OP.ofS (w' := w.setRow g (cur.toList.take (i * s) ++ asx.toList ++ cur.toList.drop (i * s + s)).toArray) ?_ (k _ ⟨?_, .inr ⟨g, cap, _, rfl, hb, setRow_heap w g cur _ el (0, 0) hc, hnc, hcm, ?_, ?_⟩⟩ ⟨rfl, rfl, rfl, by simp, fun k _ hn => setRow_other w g k _ (fun h => hn (by rw [hv, h]))⟩ (by simp))
  · simp [execOp, Instr.storeAt, Instr.sureAddr, hx, hy, storeVar, Value.cells, has, ht.run_size, hr]
  · rw [List.length_append, List.length_append, List.length_take, List.length_drop, hal, hown.1, Nat.min_eq_left (by omega)]; omega
  · rw [List.size_toArray, List.length_append, List.length_append, List.length_take, List.length_drop, hal, hcl, Nat.min_eq_left (by omega)]; omega
  · rw [← htk]
    have e1 : (cur.toList.take (n * s)).take (i * s) = cur.toList.take (i * s) := by rw [List.take_take, Nat.min_eq_left (by omega)]
    have e2 : (cur.toList.take (n * s)).drop (i * s + s) = (cur.toList.drop (i * s + s)).take (n * s - (i * s + s)) := by rw [List.drop_take]
    rw [e1, e2]
    simp only []
    have l1 : (cur.toList.take (i * s)).length = i * s := by rw [List.length_take, hcl, Nat.min_eq_left (by omega)]
    have l2 : asx.toList.length = s := by simp [has]
    rw [List.take_append, List.take_of_length_le (by rw [List.length_append, l1, l2]; omega), List.length_append, l1, l2]
end

/-- many rows that the call owns, each in a block of its own -/
structure Many (w : World) (H0 : Nat) (el : TypeId) (s N : Nat) (V : Nat → Value) (n : Nat → Nat) (X : Nat → List Value) : Prop where
  row : ∀ j, j < N → w.ownsRow H0 el s (V j) (n j) (X j)
  off : ∀ i j, i < N → j < N → i ≠ j → ∀ k, (V i).ownBlock = some k → ¬ (V j).ownBlock = some k
section
variable {w w' : World} {H0 : Nat} {el : TypeId} {s N : Nat} {V V' : Nat → Value} {n n' : Nat → Nat} {X X' : Nat → List Value}
theorem Many.zero : Many w H0 el s 0 V n X := ⟨fun j h => by omega, fun i j h => by omega⟩
theorem Many.only {F : Nat → Prop} (h : Many w H0 el s N V n X) (ho : Only F w w') (hne : ∀ j, j < N → ∀ k, (V j).ownBlock = some k → ¬ F k) : Many w' H0 el s N V n X := ⟨fun j hj => own_only (h.row j hj) ho (hne j hj), h.off⟩
theorem Many.ext (h : Many w H0 el s N V n X) (ho : Ext w w') : Many w' H0 el s N V n X := h.only ho (fun _ _ _ _ h => h)
theorem Many.congr (h : Many w H0 el s N V n X) (hV : ∀ j, j < N → V' j = V j) (hn : ∀ j, j < N → n' j = n j) (hX : ∀ j, j < N → X' j = X j) : Many w H0 el s N V' n' X' :=
  ⟨fun j hj => by rw [hV j hj, hn j hj, hX j hj]; exact h.row j hj, fun i j hi hj hij => by rw [hV i hi, hV j hj]; exact h.off i j hi hj hij⟩
theorem Many.lt (h : Many w H0 el s N V n X) {j k : Nat} (hj : j < N) (hk : (V j).ownBlock = some k) : H0 ≤ k ∧ k < w.heap.size := (h.row j hj).lt k hk
theorem Many.snoc (h : Many w H0 el s N V n X) {b m : Nat} {v : Value} {xs : List Value} (hr : w.ownsRow b el s v m xs) (hb : H0 ≤ b) (hlt : ∀ j, j < N → ∀ k, (V j).ownBlock = some k → k < b) :
    Many w H0 el s (N + 1) (fun j => if j = N then v else V j) (fun j => if j = N then m else n j) (fun j => if j = N then xs else X j) := by
  refine ⟨fun j hj => ?_, fun i j hi hj hij k hk => ?_⟩
  · by_cases e : j = N
    · simp only [if_pos e]; exact own_mono hr hb
    · simp only [if_neg e]; exact h.row j (by omega)
  · by_cases e : i = N
    · have e2 : j ≠ N := by omega
      simp only [if_pos e, if_neg e2] at hk ⊢
      intro hk2
      have h1 := (hr.lt k hk).1
      have h2 := hlt j (by omega) k hk2
      omega
    · by_cases e2 : j = N
      · simp only [if_neg e, if_pos e2] at hk ⊢
        intro hk2
        have h1 := (hr.lt k hk2).1
        have h2 := hlt i (by omega) k hk
        omega
      · simp only [if_neg e, if_neg e2] at hk ⊢
        exact h.off i j (by omega) (by omega) hij k hk
theorem Many.set (h : Many w H0 el s N V n X) {j0 m : Nat} {xs : List Value} (hj : j0 < N) (ho : Only (fun k => (V j0).ownBlock = some k) w w') (hr : w'.ownsRow H0 el s (V j0) m xs) :
    Many w' H0 el s N V (fun j => if j = j0 then m else n j) (fun j => if j = j0 then xs else X j) := by
  refine ⟨fun j hj' => ?_, h.off⟩
  by_cases e : j = j0
  · simp only [if_pos e]; subst e; exact hr
  · simp only [if_neg e]
    exact own_only (h.row j hj') ho (h.off j j0 hj' hj e)
end

/-- two slices in blocks apart -/
def Dj (v u : Value) : Prop := ∀ k, v.ownBlock = some k → ¬ u.ownBlock = some k
theorem Dj.symm {v u : Value} (h : Dj v u) : Dj u v := fun k h1 h2 => h k h2 h1
theorem Dj.step {v v' u : Value} {g : Nat} (h : Dj v u) (hb : v'.ownBlock = v.ownBlock ∨ v'.ownBlock = some g) (hu : ∀ k, u.ownBlock = some k → k < g) : Dj v' u := fun k h1 h2 => by
  rcases hb with hb | hb
  · exact h k (by rw [← hb]; exact h1) h2
  · rw [hb] at h1
    have := hu k h2
    simp only [Option.some.injEq] at h1
    omega
theorem Dj.none {u : Value} : Dj (.slice none 0 0) u := fun k h => by simp [Value.ownBlock] at h
theorem Dj.own {w : World} {base b' : Nat} {el el' : TypeId} {s n s' n' : Nat} {v u : Value} {xs xs' : List Value} (h : w.ownsRow base el s v n xs) (hl : ∀ k, u.ownBlock = some k → k < base) : Dj v u := fun k h1 h2 => by
  have := (h.lt k h1).1
  have := hl k h2
  omega
theorem own_at {w : World} {base : Nat} {el : TypeId} {n cap g i : Nat} {u : Value} {xs : List Value} (h : w.ownsRow base el 1 (.slice (some ⟨g, 0, none⟩) n cap) n xs) (hi : xs[i]? = some u) : w.cell? ⟨g, 0 + i * 1, none⟩ = some u := by
  obtain ⟨cap', cur, hv, -, hc, hnc, -, hcs, ht⟩ := own_blk h rfl
  have h1 : cur.toList[i]? = some u := by
    rw [← ht, List.getElem?_take] at hi
    split at hi
    · exact hi
    · simp at hi
  rw [Nat.zero_add, Nat.mul_one]
  exact cell_of hc (by simpa using h1)
section
variable {w w' : World} {H0 : Nat} {el : TypeId} {s N : Nat} {V V' : Nat → Value} {n n' : Nat → Nat} {X X' : Nat → List Value}
/-- a row of another type is written -/
theorem Many.other (h : Many w H0 el s N V n X) {base : Nat} {T : TypeId} {sz m : Nat} {v : Value} {xs : List Value} (hr : w.ownsRow base T sz v m xs) (hne : T ≠ el) (ho : Only (fun k => v.ownBlock = some k) w w') : Many w' H0 el s N V n X :=
  h.only ho (fun j hj => own_row_off hr (h.row j hj) hne)
/-- a row grows, in its block or in a new one -/
theorem Many.grow (h : Many w H0 el s N V n X) {j0 m g : Nat} {v' : Value} {xs : List Value} (hj : j0 < N) (ho : Only (fun k => (V j0).ownBlock = some k) w w') (hb : v'.ownBlock = (V j0).ownBlock ∨ v'.ownBlock = some g) (hg : w.heap.size ≤ g) (hr : w'.ownsRow H0 el s v' m xs) :
    Many w' H0 el s N (fun j => if j = j0 then v' else V j) (fun j => if j = j0 then m else n j) (fun j => if j = j0 then xs else X j) := by
  have dj : ∀ j, j < N → j ≠ j0 → Dj v' (V j) := fun j hj' hne => Dj.step (v := V j0) (fun k h1 h2 => h.off j0 j hj hj' (fun e => hne e.symm) k h1 h2) hb (fun k hk => by have := (h.lt hj' hk).2; omega)
  refine ⟨fun j hj' => ?_, fun i j hi hj' hij k hk => ?_⟩
  · by_cases e : j = j0
    · simp only [if_pos e]; exact hr
    · simp only [if_neg e]
      exact own_only (h.row j hj') ho (h.off j j0 hj' hj e)
  · by_cases e : i = j0
    · have e2 : j ≠ j0 := by omega
      simp only [if_pos e, if_neg e2] at hk ⊢
      exact dj j hj' e2 k hk
    · by_cases e2 : j = j0
      · simp only [if_neg e, if_pos e2] at hk ⊢
        exact (dj i hi e).symm k hk
      · simp only [if_neg e, if_neg e2] at hk ⊢
        exact h.off i j hi hj' hij k hk
end
section
variable {P : Program} {e : Env} {w : World} {K : Value → World → Prop} {ty : TypeId}
theorem o_cvB8 {x : Operand} {t u : TypeId} {n : Nat} {z0 : Int} {s b s' b' : Nat} {z z' : Value} (ht : Ty P t (.int .i64) s b z) (hu : Ty P u (.int .u8) s' b' z') (hx : ev e x = .int .i64 z0) (hz : z0 = (n : Int)) (h : n < 256) (kk : K (bv (UInt8.ofNat n)) w) : OP P e (.convert t u x) ty w K :=
  o_cvI ht hu hx (by
    subst hz
    have h1 : IntKind.u8.wrap (n : Int) = (n : Int) := by
      rw [wrapU (by decide)]
      have h2 : 2 ^ ubits IntKind.u8 = 256 := by decide
      rw [h2, Nat.mod_eq_of_lt h]
    rw [h1]
    have h3 : bv (UInt8.ofNat n) = .int .u8 (n : Int) := by
      unfold bv; simp; omega
    rw [← h3]; exact kk)
end
theorem Many.snocG {w : World} {H0 : Nat} {el : TypeId} {s N b m : Nat} {V : Nat → Value} {n : Nat → Nat} {X : Nat → List Value} {v : Value} {xs : List Value} (h : Many w H0 el s N V n X) (hr : w.ownsRow b el s v m xs) (hb : H0 ≤ b) (hlt : ∀ j, j < N → ∀ k, (V j).ownBlock = some k → k < b) (hn : n N = m) (hX : X N = xs) :
    Many w H0 el s (N + 1) (fun j => if j = N then v else V j) n X := by
  refine (h.snoc hr hb hlt).congr (fun _ _ => rfl) (fun j hj => ?_) (fun j hj => ?_)
  · by_cases e : j = N
    · subst e; simp [hn]
    · simp [e]
  · by_cases e : j = N
    · subst e; simp [hX]
    · simp [e]
theorem own_cellsAt {w : World} {base : Nat} {el : TypeId} {s n cap g : Nat} {xs : List Value} (h : w.ownsRow base el s (.slice (some ⟨g, 0, none⟩) n cap) n xs) (i : Nat) : Cells w g (0 + i * s) ((xs.drop (i * s)).take s) := by
  obtain ⟨cap', cur, hv, -, hc, hnc, -, hcs, ht⟩ := own_blk h rfl
  refine Cells.sub (Cells.of hc 0 xs fun i u hu => ?_) _ _
  rw [← ht, List.getElem?_take] at hu
  split at hu
  · simpa using hu
  · simp at hu
/-- what a drawn region may do around one row that it appends to -/
structure Keeps (v : Value) (O : World → Prop) (G : World → Value → Prop) (w w' : World) : Prop where
  only : Only (fun k => v.ownBlock = some k) w w'
  old : O w → O w'
  good : ∀ u, G w u → G w' u
theorem Keeps.refl {v : Value} {O : World → Prop} {G : World → Value → Prop} (w : World) : Keeps v O G w w := ⟨Only.refl _ w, fun h => h, fun _ h => h⟩
theorem Keeps.trans {v : Value} {O : World → Prop} {G : World → Value → Prop} {a b c : World} (h : Keeps v O G a b) (k : Keeps v O G b c) : Keeps v O G a c := ⟨h.only.trans k.only, fun x => k.old (h.old x), fun u x => k.good u (h.good u x)⟩
theorem Keeps.ext {v : Value} {O : World → Prop} {G : World → Value → Prop} {w w' : World} (h : Ext w w') (hO : O w → O w') (hG : ∀ u, G w u → G w' u) : Keeps v O G w w' := ⟨h.mono (fun _ _ h => h.elim), hO, hG⟩
end Go.Vc

set_option linter.unusedSimpArgs false
set_option linter.unusedVariables false
namespace Go.Vc
open Go Go.RowKit
variable {D : List Deferred}

structure WA (P : Program) (l : List Oper) (Q : Exit → Env → World → Prop) (n : Nat) (fuel : Nat) (listed : List Bool) (e : Env) (w : World) : Prop where
  out : ∀ D a, Rel D n a e → wpAny P .any l.toArray (lift D n Q) fuel listed.toArray a w
/-- operation number i is done now -/
def WO (P : Program) (l : List Oper) (Q : Exit → Env → World → Prop) (n : Nat) (i : Nat) (K : Env → World → Prop) (e : Env) (w : World) : Prop :=
  ∀ D a, Rel D n a e → ∀ K' : Act → World → Prop, (∀ a' e' w', Rel D n a' e' → K e' w' → K' a' w') → wpOp P l.toArray (lift D n Q) i K' a w
section
variable {P : Program} {l : List Oper} {Q : Exit → Env → World → Prop} {n fuel : Nat} {listed : List Bool} {e : Env} {w : World}
theorem WO.c {i d : Nat} {op : Op} {ty : TypeId} {pos : String} {after : Array Edge} {K : Env → World → Prop} (ho : l[i]? = some ⟨some d, op, ty, pos, after, none⟩) (hd : Nat.blt d n = true) (h : OP P e op ty w (fun v w' => K (upd e d v) w')) : WO P l Q n i K e w := by
  intro D a ha K' hK
  unfold wpOp
  simp only [List.getElem?_toArray, ho]
  rw [if_pos (by simp [Region.wanted])]
  exact .inl (OP.wp ha.ev (h.mono fun v _ hw => hK _ _ _ (ha.put hd v) hw))
theorem WO.u {i : Nat} {op : Op} {ty : TypeId} {pos : String} {after : Array Edge} {K : Env → World → Prop} (ho : l[i]? = some ⟨none, op, ty, pos, after, none⟩) (h : OP P e op ty w (fun _ w' => K e w')) : WO P l Q n i K e w := by
  intro D a ha K' hK
  unfold wpOp
  simp only [List.getElem?_toArray, ho]
  rw [if_pos (by simp [Region.wanted])]
  exact .inl (OP.wp ha.ev (h.mono fun v _ hw => hK _ _ _ ha hw))
theorem WA.done (hr : Region.ready .any l.toArray listed.toArray = []) (h : Q .normal e w) : WA P l Q n fuel listed e w := ⟨fun D a ha => by
  cases fuel with
  | zero => exact ⟨hr, e, ha, h⟩
  | succ f => exact ⟨fun _ => ⟨e, ha, h⟩, fun i hi => by rw [hr] at hi; cases hi⟩⟩
theorem WA.step {r : List Nat} (hr : Region.ready .any l.toArray listed.toArray = r) (h0 : r ≠ []) (h : ∀ i ∈ r, WO P l Q n i (WA P l Q n fuel (listed.set i true)) e w) : WA P l Q n (fuel + 1) listed e w := ⟨fun D a ha => by
  subst hr
  refine ⟨fun h1 => absurd h1 h0, fun i hi => ?_⟩
  refine h i hi D a ha _ fun a' e' w' hr hw => ?_
  have := hw.out D a' hr
  simpa [List.setIfInBounds_toArray] using this⟩
end

def liftF (n : Nat) (Q : List Deferred → Exit → Env → World → Prop) : Exit → Act → World → Prop := fun x a w => ∃ D e', Rel D n a e' ∧ Q D x e' w
structure WF (P : Program) (c : Code) (Q : List Deferred → Exit → Env → World → Prop) (n : Nat) (D : List Deferred) (e : Env) (w : World) : Prop where
  out : ∀ a, Rel D n a e → c.wp P (liftF n Q) a w
structure WLF (P : Program) (all l : List Oper) (Q : List Deferred → Exit → Env → World → Prop) (n : Nat) (D : List Deferred) (e : Env) (w : World) : Prop where
  out : ∀ a, Rel D n a e → wpList P all.toArray (liftF n Q) l a w
def thnF (K : List Deferred → Env → World → Prop) (Q : List Deferred → Exit → Env → World → Prop) : List Deferred → Exit → Env → World → Prop
  | D, .normal, e, w => K D e w
  | D, x, e, w => Q D x e w
section
variable {P : Program} {Q : List Deferred → Exit → Env → World → Prop} {n : Nat} {e : Env} {w : World}
theorem WF.of {c : Code} (h : W P c (Q D) n e w) : WF P c Q n D e w := ⟨fun a ha => wp_mono (h.out D a ha) fun x a w ⟨e', hr, hq⟩ => ⟨D, e', hr, hq⟩⟩
theorem WF.seq {x y : Code} (h : WF P x (thnF (fun D e w => WF P y Q n D e w) Q) n D e w) : WF P (.seq x y) Q n D e w :=
  ⟨fun a ha => wp_seq (wp_mono (h.out a ha) fun x a w ⟨D', e', hr, hq⟩ => by
    cases x <;> first | exact hq.out a hr | exact ⟨D', e', hr, hq⟩)⟩
theorem WF.cond {c : Operand} {x y : Code} {b : Bool} (hc : ev e c = .bool b) (ht : b = true → WF P x Q n D e w) (hf : b = false → WF P y Q n D e w) : WF P (.cond c x y) Q n D e w :=
  ⟨fun a ha => wp_cond_split (by rw [ha.ev]; exact hc) (fun h => (ht h).out a ha) (fun h => (hf h).out a ha)⟩
theorem WF.region {id : Nat} {l : List Oper} (h : WLF P l l Q n D e w) : WF P (.region id l.toArray false) Q n D e w :=
  ⟨fun a ha => wp_region_lit (h.out a ha)⟩
theorem WLF.nil {all : List Oper} (h : Q D .normal e w) : WLF P all [] Q n D e w := ⟨fun a ha => ⟨D, e, ha, h⟩⟩
theorem WLF.c {all rest : List Oper} {d : Nat} {op : Op} {ty : TypeId} {pos : String} {after : Array Edge} (hd : Nat.blt d n = true)
    (h : OP P e op ty w (fun v w' => WLF P all rest Q n D (upd e d v) w')) : WLF P all (⟨some d, op, ty, pos, after, none⟩ :: rest) Q n D e w :=
  ⟨fun a ha => wpList_plain rfl fun _ hK => OP.wp ha.ev (h.mono fun v _ hw => hK _ _ (hw.out _ (ha.put hd v)))⟩
/-- a closure's call is deferred -/
theorem WLF.d {all rest : List Oper} {g : Operand} {f : FuncId} {caps : Array Value} {ty : TypeId} {pos : String} {after : Array Edge} (hg : ev e g = .func (.func f) #[] caps)
    (h : WLF P all rest Q n (⟨.fn (.func f) caps, #[]⟩ :: D) e w) : WLF P all (⟨none, .defer ⟨.value g, #[], #[]⟩, ty, pos, after, none⟩ :: rest) Q n D e w :=
  ⟨fun a ha => wpList_plain rfl fun K hK => by
    have hr : (execOp a.eval ⟨none, .defer ⟨.value g, #[], #[]⟩, ty, pos, after, none⟩).run P w = .ok (.defer ⟨.fn (.func f) caps, #[]⟩) w := by
      rw [ha.ev]
      simp [execOp, resolve, Deferred.ofValue, hg]
    unfold Oper.wp
    rw [hr]
    simp only [Oper.upon, Act.put]
    refine hK _ _ (h.out _ ⟨?_, ha.size, ha.get⟩)
    show (⟨.fn (.func f) caps, #[]⟩ :: a.defers : List Deferred) = _
    rw [ha.defers]⟩
/-- the end of a function with deferred calls -/
structure Lv (fn : Func) (P : Program) (R : Ending → World → Prop) (D : List Deferred) (u : FrameMode) (e : Env) (w : World) : Prop where
  out : ∀ a, Rel D fn.ntmps a e → Leaves P fn a.tmps R D u w
/-- the one deferred call, in the mode u; it hands back u' -/
theorem Lv.one {fn : Func} {R : Ending → World → Prop} {f : FuncId} {caps : Array Value} {u : FrameMode} (hc : ∀ args w, (callFunc f args).run P w = .ok (.enter f args) w) (hu : u ≠ .run) {S : FrameMode → World → Prop} (h : CallsD P f caps u w (fun e u' w' => match e with | .returned _ => S u' w' | _ => False))
    (k : ∀ u' w', S u' w' → Lv fn P R [] (settle u') e w') : Lv fn P R [⟨.fn (.func f) caps, #[]⟩] u e w :=
  ⟨fun a ha => leaves_cons hu (by simp [invoke, hc]) (h.mono fun en u' w' he => by
    cases en <;> simp only at he ⊢ <;> first
      | exact (k _ _ he).out { a with defers := [] } ⟨rfl, ha.size, ha.get⟩
      | exact he.elim)⟩
theorem Lv.ret {fn : Func} {R : Value → World → Prop} {R' : Ending → World → Prop} (h : Rt fn P R e w) (hR : ∀ v w, R v w → R' (.returned v) w) : Lv fn P R' [] .returning e w :=
  ⟨fun a ha => by obtain ⟨v, h1, h2⟩ := h.out [] a ha; exact ⟨v, h1, hR _ _ h2⟩⟩
end

section
variable {P : Program} {w : World} {n : Nat}
end
end Go.Vc

set_option linter.unusedSimpArgs false
set_option linter.unusedVariables false
namespace Go.Vc
open Go Go.RowKit
section
variable {P : Program} {all : List Oper} {e : Env} {w : World} {K : Value → World → Prop} {S : List PanicEntry → World → Prop} {op : Op} {ty : TypeId} {dst : Option Nat} {pos : String} {after : Array Edge}
theorem SGX.g {j : Nat} {b b' : Bool} (hg : gbool e all j = .bool b') (hb : b' = b) (h : OPX P e op ty w K S) : SGX P all e ⟨dst, op, ty, pos, after, some (j, b)⟩ w K S := fun D n a ha => by
  rw [if_pos (by simp [Region.wanted, yielded_of ha hg, hb])]; exact h
theorem SGX.s {j : Nat} {b b' : Bool} (hg : gbool e all j = .bool b') (hb : b' = !b) (h : K undef w) : SGX P all e ⟨dst, op, ty, pos, after, some (j, b)⟩ w K S := fun D n a ha => by
  rw [if_neg (by subst hb; simp [Region.wanted, yielded_of ha hg])]; exact h
end
section
variable {P : Program} {e : Env} {w : World} {K : Value → World → Prop} {ty : TypeId}
/-- a struct stored inside a block -/
theorem o_stAo {x y : Operand} {t T : TypeId} {d : TypeDesc} {s bs b o : Nat} {z : Value} {asx cs : Array Value} (ht : Ty P t d s bs z) (hx : ev e x = .pointer (some ⟨b, o, none⟩)) (hy : ev e y = .agg asx) (has : asx.size = s) (h1 : asx.toList.all (·.oneCell') = true)
    (hB : w.heap[b]? = some (.cells cs T (0, 0))) (hle : o + s ≤ cs.size) (k : ∀ w', w'.heap[b]? = some (.cells (cs.toList.take o ++ asx.toList ++ cs.toList.drop (o + s)).toArray T (0, 0)) → Only (fun k => k = b) w w' → w'.heap.size = w.heap.size → K undef w') : OP P e (.store t x y) ty w K := by
  have hr := run_storeCells_at P b o T asx.toList 0 cs w hB (by simp [has]; omega) (by intro v hv; exact List.all_eq_true.1 h1 v hv)
  simp only [Nat.add_zero, Array.length_toList, has] at hr
  refine OP.ofS (w' := w.setRow b (cs.toList.take o ++ asx.toList ++ cs.toList.drop (o + s)).toArray) ?_ (k _ (setRow_heap w b cs _ T (0, 0) hB) ⟨rfl, rfl, rfl, by simp, fun k _ hn => setRow_other w b k _ hn⟩ (by simp))
  simp [execOp, Instr.storeAt, Instr.sureAddr, hx, hy, storeVar, Value.cells, has, ht.run_size, hr]
end
section
variable {P : Program} {e : Env} {w : World} {K : Value → World → Prop} {ty : TypeId}
theorem o_stRj {x y : Operand} {t el : TypeId} {dd : TypeDesc} {bs g o i n s base : Nat} {z u v : Value} {xs : List Value} (ht : Ty P t dd 1 bs z) (hx : ev e x = .pointer (some ⟨g, o, none⟩)) (hoi : o = i) (hy : ev e y = u) (hu : u.oneCell' = true)
    (hown : w.ownsRow base el s v n xs) (hv : v.ownBlock = some g) (hi : i < n * s) (k : ∀ w', w'.ownsRow base el s v n (xs.set i u) → Only (fun k => v.ownBlock = some k) w w' → w'.heap.size = w.heap.size → K undef w') : OP P e (.store t x y) ty w K := by
  subst hoi
  obtain ⟨cap, cur, rfl, hb, hc, hnc, hcm, hcs, htk⟩ := own_blk hown hv
  have hm : n * s ≤ cap * s := Nat.mul_le_mul_right _ hnc
  refine o_stB ht hx hy hu hc (by omega) fun w' hC ho hs => k w' ⟨by simp [hown.1], .inr ⟨g, cap, _, rfl, hb, hC, hnc, hcm, by simp [hcs], ?_⟩⟩ (ho.mono (fun j _ h => by rw [hv, h])) hs
  rw [Array.toList_setIfInBounds, List.take_set, htk]
end
end Go.Vc

set_option maxRecDepth 100000
namespace Go.Proofs.YthlbhnefldaoiaaDoor
open Go Go.Vc Go.Proofs
theorem TI3 : Ty Tryd.prog 3 (.int .i64) 1 8 (.int .i64 0) := ⟨Tryd.underlying3, Tryd.t3, Tryd.type3, rfl, rfl, rfl⟩
theorem TI4 : Ty Tryd.prog 4 .bool 1 1 (.bool false) := ⟨Tryd.underlying4, Tryd.t4, Tryd.type4, rfl, rfl, rfl⟩
theorem TI5 : Ty Tryd.prog 5 (.int .u8) 1 1 (.int .u8 0) := ⟨Tryd.underlying5, Tryd.t5, Tryd.type5, rfl, rfl, rfl⟩
theorem TI9 : Ty Tryd.prog 9 .string 1 16 (.string ⟨#[]⟩) := ⟨Tryd.underlying9, Tryd.t9, Tryd.type9, rfl, rfl, rfl⟩
theorem TI23 : Ty Tryd.prog 23 (.slice 28) 1 24 (.slice none 0 0) := ⟨Tryd.underlying23, Tryd.t23, Tryd.type23, rfl, rfl, rfl⟩
theorem TI24 : Ty Tryd.prog 24 (.slice 3) 1 24 (.slice none 0 0) := ⟨Tryd.underlying24, Tryd.t24, Tryd.type24, rfl, rfl, rfl⟩
theorem TI26 : Ty Tryd.prog 26 (.struct #[(.mk "Encodes" 4 0 false "" "" 0), (.mk "Code" 23 1 false "" "" 8), (.mk "Entry" 24 2 false "" "" 32)]) 3 56 (.agg #[(.bool false), (.slice none 0 0), (.slice none 0 0)]) := ⟨Tryd.underlying26, Tryd.t26, Tryd.type26, rfl, rfl, rfl⟩
theorem TI28 : Ty Tryd.prog 28 (.struct #[(.mk "Op" 3 0 false "" "" 0), (.mk "A" 3 1 false "" "" 8), (.mk "B" 3 2 false "" "" 16), (.mk "C" 3 3 false "" "" 24)]) 4 32 (.agg #[(.int .i64 0), (.int .i64 0), (.int .i64 0), (.int .i64 0)]) := ⟨Tryd.underlying28, Tryd.t28, Tryd.type28, rfl, rfl, rfl⟩
theorem TI30 : Ty Tryd.prog 30 (.int .i64) 1 8 (.int .i64 0) := ⟨Tryd.underlying30, Tryd.t30, Tryd.type30, rfl, rfl, rfl⟩
theorem TI32 : Ty Tryd.prog 32 (.struct #[(.mk "Err" 30 0 false "" "" 0), (.mk "At" 3 1 false "" "" 8)]) 2 16 (.agg #[(.int .i64 0), (.int .i64 0)]) := ⟨Tryd.underlying32, Tryd.t32, Tryd.type32, rfl, rfl, rfl⟩
theorem TI34 : Ty Tryd.prog 34 (.slice 5) 1 24 (.slice none 0 0) := ⟨Tryd.underlying34, Tryd.t34, Tryd.type34, rfl, rfl, rfl⟩
theorem TI48 : Ty Tryd.prog 48 (.slice 34) 1 24 (.slice none 0 0) := ⟨Tryd.underlying48, Tryd.t48, Tryd.type48, rfl, rfl, rfl⟩
theorem TI49 : Ty Tryd.prog 49 (.slice 26) 1 24 (.slice none 0 0) := ⟨Tryd.underlying49, Tryd.t49, Tryd.type49, rfl, rfl, rfl⟩
theorem TI50 : Ty Tryd.prog 50 (.slice 23) 1 24 (.slice none 0 0) := ⟨Tryd.underlying50, Tryd.t50, Tryd.type50, rfl, rfl, rfl⟩
theorem TI51 : Ty Tryd.prog 51 (.slice 24) 1 24 (.slice none 0 0) := ⟨Tryd.underlying51, Tryd.t51, Tryd.type51, rfl, rfl, rfl⟩
theorem TI58 : Ty Tryd.prog 58 (.int .u64) 1 8 (.int .u64 0) := ⟨Tryd.underlying58, Tryd.t58, Tryd.type58, rfl, rfl, rfl⟩
theorem TI61 : Ty Tryd.prog 61 (.struct #[(.mk "name" 9 0 false "" "mortise/code" 0), (.mk "has" 9 1 false "" "mortise/code" 16)]) 2 32 (.agg #[(.string ⟨#[]⟩), (.string ⟨#[]⟩)]) := ⟨Tryd.underlying61, Tryd.t61, Tryd.type61, rfl, rfl, rfl⟩
theorem TI64 : Ty Tryd.prog 64 (.slice 67) 1 24 (.slice none 0 0) := ⟨Tryd.underlying64, Tryd.t64, Tryd.type64, rfl, rfl, rfl⟩
theorem TI67 : Ty Tryd.prog 67 (.pointer 3) 1 8 (.pointer none) := ⟨Tryd.underlying67, Tryd.t67, Tryd.type67, rfl, rfl, rfl⟩
theorem TI70 : Ty Tryd.prog 70 (.struct #[(.mk "b" 34 0 false "" "mortise/code" 0), (.mk "at" 3 1 false "" "mortise/code" 24), (.mk "f" 32 2 false "" "mortise/code" 32)]) 4 48 (.agg #[(.slice none 0 0), (.int .i64 0), (.int .i64 0), (.int .i64 0)]) := ⟨Tryd.underlying70, Tryd.t70, Tryd.type70, rfl, rfl, rfl⟩
theorem TI82 : Ty Tryd.prog 82 (.struct #[(.mk "Name" 9 0 false "" "" 0), (.mk "Is" 9 1 false "" "" 16)]) 2 32 (.agg #[(.string ⟨#[]⟩), (.string ⟨#[]⟩)]) := ⟨Tryd.underlying82, Tryd.t82, Tryd.type82, rfl, rfl, rfl⟩
theorem TI93 : Ty Tryd.prog 93 (.pointer 95) 1 8 (.pointer none) := ⟨Tryd.underlying93, Tryd.t93, Tryd.type93, rfl, rfl, rfl⟩
theorem TI95 : Ty Tryd.prog 95 (.struct #[(.mk "addr" 93 0 false "" "strings" 0), (.mk "buf" 34 1 false "" "strings" 8)]) 2 32 (.agg #[(.pointer none), (.slice none 0 0)]) := ⟨Tryd.underlying95, Tryd.t95, Tryd.type95, rfl, rfl, rfl⟩
theorem TI96 : Ty Tryd.prog 96 (.slice 9) 1 24 (.slice none 0 0) := ⟨Tryd.underlying96, Tryd.t96, Tryd.type96, rfl, rfl, rfl⟩
theorem TI109 : Ty Tryd.prog 109 (.int .u64) 1 8 (.int .u64 0) := ⟨Tryd.underlying109, Tryd.t109, Tryd.type109, rfl, rfl, rfl⟩
theorem TI114 : Ty Tryd.prog 114 (.slice 82) 1 24 (.slice none 0 0) := ⟨Tryd.underlying114, Tryd.t114, Tryd.type114, rfl, rfl, rfl⟩
end Go.Proofs.YthlbhnefldaoiaaDoor

set_option linter.unusedSimpArgs false
set_option linter.unusedVariables false
namespace Go.Vc
open Go Go.RowKit
theorem fold_set : ∀ (xs : List Value) (k off : Nat) (cs : Array Value), off + k + xs.length ≤ cs.size →
    ((xs.zipIdx k).foldl (fun cs (x : Value × Nat) => cs.setIfInBounds (off + x.2) x.1) cs) = (cs.toList.take (off + k) ++ xs ++ cs.toList.drop (off + k + xs.length)).toArray
  | [], k, off, cs, h => by simp
  | x :: xs, k, off, cs, h => by
    simp only [List.length_cons] at h
    rw [List.zipIdx_cons, List.foldl_cons, fold_set xs (k + 1) off _ (by simp; omega)]
    congr 1
    simp only [Array.toList_setIfInBounds]
    rw [List.drop_set_of_lt (by omega), show off + (k + 1) = (off + k) + 1 by omega, List.take_succ_eq_append_getElem (by simp; omega), List.take_set_of_le (by omega)]
    rw [List.append_assoc, List.append_assoc, List.append_assoc]
    simp only [List.getElem_set_self, List.singleton_append, List.cons_append, List.nil_append, List.length_cons]
    congr 4
    omega
theorem fill_rows {s : Nat} : ∀ (vs : List Value) (k : Nat) (cells : Array Value), (∀ v ∈ vs, v.cells.size = s) → (k + vs.length) * s = cells.size →
    Instr.fill (fun i => some (i * s, s)) cells ((vs.zipIdx k).map fun x => (x.2, x.1)) = some ((cells.toList.take (k * s) ++ vs.flatMap (fun v => v.cells.toList)).toArray)
  | [], k, cells, _, h => by
    simp at h
    have : cells.toList.take (k * s) = cells.toList := List.take_of_length_le (by simp [h])
    simp [Instr.fill, this]
  | v :: vs, k, cells, h1, h => by
    have hv := h1 v (List.mem_cons_self ..)
    have hsz : k * s + s ≤ cells.size := by
      rw [← h, List.length_cons, show k + (vs.length + 1) = (k + 1) + vs.length by omega, Nat.add_mul (k + 1), Nat.succ_mul]
      omega
    have hf : v.cells.zipIdx.foldl (fun cs (x : Value × Nat) => cs.setIfInBounds (k * s + x.2) x.1) cells = (cells.toList.take (k * s) ++ v.cells.toList ++ cells.toList.drop (k * s + s)).toArray := by
      have h2 := fold_set v.cells.toList 0 (k * s) cells (by simp; omega)
      rw [← Array.foldl_toList, Array.toList_zipIdx, h2]
      simp [hv]
    rw [List.zipIdx_cons, List.map_cons, Instr.fill]
    show (if (decide (v.cells.size ≠ s) || decide (k * s + v.cells.size > cells.size)) = true then none else Instr.fill (fun i => some (i * s, s)) (v.cells.zipIdx.foldl (fun cs (x : Value × Nat) => cs.setIfInBounds (k * s + x.2) x.1) cells) (List.map (fun x => (x.snd, x.fst)) (vs.zipIdx (k + 1)))) = _
    rw [if_neg (by simp [hv]; omega), hf, fill_rows vs (k + 1) _ (fun v hv => h1 v (List.mem_cons_of_mem _ hv)) (by
      simp [hv]
      simp only [List.length_cons] at h
      rw [← h, show k + (vs.length + 1) = (k + 1) + vs.length by omega, Nat.add_mul (k + 1), Nat.succ_mul, Nat.min_eq_left (by omega)]
      omega)]
    congr 2
    simp only [List.flatMap_cons]
    rw [← List.append_assoc]
    congr 1
    rw [List.take_append_of_le_length (by simp [hv]; rw [Nat.succ_mul]; omega), List.take_of_length_le (by simp [hv]; rw [Nat.succ_mul]; omega)]
section
variable {P : Program} {e : Env} {w : World} {K : Value → World → Prop} {ty : TypeId}
theorem o_bsA {t el : TypeId} {len s bs s' bs' : Nat} {z z' : Value} {d' : TypeDesc} {xs : List Operand} {vs : List Value} {cs : List Value} {parts : Array (Nat × Operand)} (ht : Ty P t (.slice el) s bs z) (hel : Ty P el d' s' bs' z') (hp : parts = ((xs.zipIdx 0).map fun x => (x.2, x.1)).toArray) (hx : xs.map (ev e) = vs) (hv : vs.all (fun v => v.cells.size == s') = true) (hl : vs.length = len) (h0 : 0 < len * s') (hs : len * s' ≤ 16777216) (hc : vs.flatMap (fun v => v.cells.toList) = cs)
    (k : K (.slice (some ⟨w.heap.size, 0, none⟩) len len) (w.alloc (.cells cs.toArray el))) : OP P e (.buildSlice t len parts) ty w K := by
  subst hp
  refine o_bs ht hel (by simp; omega) (cells := cs.toArray) ?_ (by simp; omega) k
  have hm : ((((xs.zipIdx 0).map fun x => (x.2, x.1)).toArray.map fun (x : Nat × Operand) => (x.1, ev e x.2))).toList = (vs.zipIdx 0).map fun x => (x.2, x.1) := by
    subst hx
    simp only [List.map_toArray, List.map_map]
    have gen : ∀ (l : List Operand) (k : Nat), (l.zipIdx k).map ((fun (x : Nat × Operand) => (x.1, ev e x.2)) ∘ fun x => (x.2, x.1)) = ((l.map (ev e)).zipIdx k).map fun x => (x.2, x.1) := by
      intro l
      induction l with
      | nil => intro k; rfl
      | cons a l ih => intro k; simp only [List.zipIdx_cons, List.map_cons, ih (k + 1)]; rfl
    exact gen xs 0
  rw [hm, fill_rows vs 0 _ (fun v hv' => by simpa using List.all_eq_true.1 hv v hv') (by simp [hl]), hc]
  simp
end
end Go.Vc

set_option linter.unusedSimpArgs false
set_option linter.unusedVariables false
namespace Go.Vc
open Go Go.RowKit
variable {D : List Deferred}
abbrev StTab := List (List Bool × List (Nat × Nat))
section
variable {P : Program} {l : List Oper} {Q : Exit → Env → World → Prop} {n : Nat} {I : Nat → Env → World → Prop}
def StR (P : Program) (l : List Oper) (Q : Exit → Env → World → Prop) (n : Nat) (I : Nat → Env → World → Prop) : List (Nat × Nat) → Env → World → Prop
  | [], _, _ => True
  | x :: r, e, w => WO P l Q n x.1 (I x.2) e w ∧ StR P l Q n I r e w
def StP (P : Program) (l : List Oper) (Q : Exit → Env → World → Prop) (n : Nat) (I : Nat → Env → World → Prop) : StTab → Nat → Prop
  | [], _ => True
  | x :: S, k => (∀ e w, I k e w → match x.2 with | [] => Q .normal e w | r => StR P l Q n I r e w) ∧ StP P l Q n I S (k + 1)
theorem StR.get {e : Env} {w : World} : ∀ {r : List (Nat × Nat)}, StR P l Q n I r e w → ∀ x ∈ r, WO P l Q n x.1 (I x.2) e w
  | [], _, x, hx => by cases hx
  | y :: r, h, x, hx => by
    rcases List.mem_cons.1 hx with rfl | hx
    · exact h.1
    · exact StR.get h.2 x hx
theorem StP.get : ∀ {S : StTab} {k : Nat}, StP P l Q n I S k → ∀ j x, S[j]? = some x → ∀ e w, I (k + j) e w → (x.2 = [] → Q .normal e w) ∧ ∀ y ∈ x.2, WO P l Q n y.1 (I y.2) e w
  | [], k, _, j, x, hx => by simp at hx
  | s :: S, k, h, 0, x, hx => fun e w hI => by
    simp only [List.getElem?_cons_zero, Option.some.injEq] at hx
    subst hx
    have h1 := h.1 e w hI
    cases hr : s.2 with
    | nil => rw [hr] at h1; exact ⟨fun _ => h1, fun y hy => by cases hy⟩
    | cons a b => rw [hr] at h1; exact ⟨fun h => (by cases h), fun y hy => StR.get h1 y hy⟩
  | s :: S, k, h, j + 1, x, hx => fun e w hI => by
    simp only [List.getElem?_cons_succ] at hx
    exact StP.get h.2 j x hx e w (by rw [show k + 1 + j = k + (j + 1) by omega]; exact hI)
end
end Go.Vc
