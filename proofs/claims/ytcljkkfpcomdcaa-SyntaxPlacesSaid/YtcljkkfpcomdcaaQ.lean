/-
  Regions that draw their order and only read: one walk, in the order of the text.
-/
import Derived.Test.YtcljkkfpcomdcaaMem
set_option linter.unusedSimpArgs false
set_option linter.unusedVariables false
namespace Go.Vc
open Go Go.RowKit
variable {D : List Deferred}

def notCall : Op → Bool
  | .move _ | .assign _ | .load .. | .binOp .. | .unOp .. | .convert .. | .slice .. | .fieldAddr .. | .field .. | .indexAddr .. | .index .. | .extract .. | .build .. => true
  | _ => false
def noEnter : Result Next → Bool
  | .ok (.value _) _ => true
  | .ok _ _ => false
  | _ => true
theorem noEnter_v {P : Program} {s : Sem Value} {w : World} : noEnter ((do pure (Next.value (← s)) : Sem Next).run P w) = true := by
  rw [Sem.run_bind]
  cases s.run P w <;> rfl
theorem noEnter_exec {P : Program} {ρ : Operand → Value} {op : Op} {ty : TypeId} {w : World} (h : notCall op = true) : noEnter ((execOp ρ ⟨none, op, ty, "", #[], none⟩).run P w) = true := by
  cases op <;> simp only [notCall] at h <;> first
    | rfl
    | exact noEnter_v
    | (simp at h; done)

structure WQ (P : Program) (all l : List Oper) (Q : Env → Prop) (n : Nat) (e : Env) (w : World) : Prop where
  out : ∀ D a, Rel D n a e → wpQuiet P all.toArray (fun w' => ∃ k, w' = w.drewN k) (fun a' => ∃ e', Rel D n a' e' ∧ Q e') l a

section
variable {P : Program} {Q : Env → Prop} {n : Nat} {e : Env} {w : World} {all rest : List Oper} {op : Op} {ty : TypeId} {pos : String} {after : Array Edge} {d : Nat} {v : Value}

/-- The operation's own run, as an equation. -/
def RV (P : Program) (e : Env) (op : Op) (ty : TypeId) (w : World) (v : Value) : Prop := (execOp (ev e) ⟨none, op, ty, "", #[], none⟩).run P w = .ok (.value v) w
def QO (P : Program) (e : Env) (op : Op) (ty : TypeId) (w : World) (v : Value) : Prop := ∀ k, Oper.quietUpon P (fun w' => ∃ k, w' = w.drewN k) (w.drewN k) v ((execOp (ev e) ⟨none, op, ty, "", #[], none⟩).run P (w.drewN k))
theorem QO.r (h : ∀ k, RV P e op ty (w.drewN k) v) : QO P e op ty w v := fun k => by rw [h k]; exact ⟨rfl, rfl⟩
theorem QO.o (hn : notCall op = true) (h : ∀ k, OP P e op ty (w.drewN k) (fun u w' => w' = w.drewN k ∧ v = u)) : QO P e op ty w v := fun k => by
  have h1 := h k
  have h2 := noEnter_exec (P := P) (ρ := ev e) (ty := ty) (w := w.drewN k) hn
  unfold OP at h1
  generalize (execOp (ev e) ⟨none, op, ty, "", #[], none⟩).run P (w.drewN k) = r at *
  cases r with
  | ok nx w' =>
    cases nx <;> simp only [Oper.quietUpon] <;> first
      | exact ⟨h1.1, h1.2.symm⟩
      | exact h1.elim
      | (simp [noEnter] at h2; done)
  | halt x w' => exact h1.elim
/-- A call that leaves the world as it was, but for draws. -/
theorem QO.call {f : FuncId} {l : List Operand} {vs : List Value} {ats : Array TypeId} (hc : ∀ args w, (callFunc f args).run P w = .ok (.enter f args) w) (ha : l.map (ev e) = vs)
    (h : ∀ k, Ca P f vs.toArray (w.drewN k) (fun u w' => u = v ∧ ∃ m, w' = w.drewN m)) : QO P e (.call ⟨.value (.func f), l.toArray, ats⟩) ty w v := fun k => by
  subst ha
  have : (execOp (ev e) ⟨none, .call ⟨.value (.func f), l.toArray, ats⟩, ty, "", #[], none⟩).run P (w.drewN k) = .ok (.enter f (l.map (ev e)).toArray) (w.drewN k) := by
    simp [execOp, resolve, Deferred.ofValue, ev, invoke, hc]
  rw [this]
  refine ⟨rfl, Calls.mono (h k) fun e w' he => ?_⟩
  cases e <;> simp only at he
  · exact ⟨by rw [he.1], he.2⟩
theorem Ca.same {P : Program} {f : FuncId} {args : Array Value} {w : World} {k : Nat} {v : Value} (h : Ca P f args (w.drewN k) (fun u w' => u = v ∧ w' = w.drewN k)) : Ca P f args (w.drewN k) (fun u w' => u = v ∧ ∃ m, w' = w.drewN m) :=
  h.mono fun _ _ ⟨h1, h2⟩ => ⟨h1, k, h2⟩
theorem Ca.drawn {P : Program} {f : FuncId} {args : Array Value} {w : World} {k : Nat} {v : Value} (h : Ca P f args (w.drewN k) (fun u w' => u = v ∧ ∃ m, w' = (w.drewN k).drewN m)) : Ca P f args (w.drewN k) (fun u w' => u = v ∧ ∃ m, w' = w.drewN m) :=
  h.mono fun _ _ ⟨h1, m, h2⟩ => ⟨h1, k + m, by rw [h2, World.drewN_drewN]⟩

theorem WQ.nil (h : Q e) : WQ P all [] Q n e w := ⟨fun D _ ha => ⟨e, ha, h⟩⟩
theorem WQ.c (hd : Nat.blt d n = true) (hq : QO P e op ty w v) (h : WQ P all rest Q n (upd e d v) w) : WQ P all (⟨some d, op, ty, pos, after, none⟩ :: rest) Q n e w :=
  ⟨fun D a ha => by
    refine wpQuiet_step fun K hK => ?_
    rw [if_pos (by simp [Region.wanted])]
    refine ⟨v, fun w' ⟨k, hk⟩ => ?_, hK _ (h.out D _ (ha.put hd v))⟩
    unfold Oper.quietAt
    rw [exec_of, ha.ev, hk]
    exact hq k⟩
theorem WQ.g {j : Nat} {b b' : Bool} (hg : gbool e all j = .bool b') (hb : b' = b) (hd : Nat.blt d n = true) (hq : QO P e op ty w v) (h : WQ P all rest Q n (upd e d v) w) : WQ P all (⟨some d, op, ty, pos, after, some (j, b)⟩ :: rest) Q n e w :=
  ⟨fun D a ha => by
    refine wpQuiet_step fun K hK => ?_
    rw [if_pos (by simp [Region.wanted, yielded_of ha hg, hb])]
    refine ⟨v, fun w' ⟨k, hk⟩ => ?_, hK _ (h.out D _ (ha.put hd v))⟩
    unfold Oper.quietAt
    rw [exec_of, ha.ev, hk]
    exact hq k⟩
theorem WQ.s {j : Nat} {b b' : Bool} (hg : gbool e all j = .bool b') (hb : b' = !b) (hd : Nat.blt d n = true) (h : WQ P all rest Q n (upd e d undef) w) : WQ P all (⟨some d, op, ty, pos, after, some (j, b)⟩ :: rest) Q n e w :=
  ⟨fun D a ha => by
    refine wpQuiet_step fun K hK => ?_
    rw [if_neg (by subst hb; simp [Region.wanted, yielded_of ha hg])]
    exact hK _ (h.out D _ (ha.put hd undef))⟩
theorem WQ.z {j : Nat} {b : Bool} (hg : gbool e all j = undef) (hd : Nat.blt d n = true) (h : WQ P all rest Q n (upd e d undef) w) : WQ P all (⟨some d, op, ty, pos, after, some (j, b)⟩ :: rest) Q n e w :=
  ⟨fun D a ha => by
    refine wpQuiet_step fun K hK => ?_
    rw [if_neg (by simp [Region.wanted, yielded_undef ha hg])]
    exact hK _ (h.out D _ (ha.put hd undef))⟩
theorem WQ.sp {l : List Oper} (j : Nat) {b : Bool} (_hg : gbool e all j = .bool b) (ht : b = true → WQ P all l Q n e w) (hf : b = false → WQ P all l Q n e w) : WQ P all l Q n e w := by
  cases b
  · exact hf rfl
  · exact ht rfl

/-- The region: behind it the world is as it was, but for draws. -/
theorem W.quiet {id : Nat} {l : List Oper} {Q : Exit → Env → World → Prop} (hm : P.follows .mixedOrders = true) (hB : Region.lexB .any l.toArray = true)
    (h : WQ P l l (fun e' => ∀ k, Q .normal e' (w.drewN k)) n e w) : W P (.region id l.toArray true) Q n e w :=
  ⟨fun D a ha => wp_region_quiet_lit hm hB (by
    have h1 := h.out D a ha
    have mono : ∀ (l' : List Oper) (a : Act), wpQuiet P l.toArray (fun w' => ∃ k, w' = w.drewN k) (fun a' => ∃ e', Rel D n a' e' ∧ ∀ k, Q .normal e' (w.drewN k)) l' a → wpQuiet P l.toArray (fun w' => ∃ k, w' = w.drewN k) (fun a' => ∀ w', (∃ k, w' = w.drewN k) → lift D n Q .normal a' w') l' a := by
      intro l'
      induction l' with
      | nil => intro a ⟨e', hr, hq⟩ w' ⟨k, hk⟩; subst hk; exact ⟨e', hr, hq k⟩
      | cons o l' ih =>
        intro a h
        simp only [wpQuiet] at h ⊢
        split
        · rename_i hw; rw [if_pos hw] at h; exact Oper.quiet_mono ih h
        · rename_i hw; rw [if_neg hw] at h; exact ih _ h
    exact mono l a h1)⟩

theorem r_nil {x : Operand} {a : Addr} (hx : ev e x = .pointer (some a)) : RV P e (.nilCheck x) ty w (.pointer (some a)) := by simp [RV, execOp, hx]
theorem r_len {x : Operand} {t el : TypeId} {s bs m c : Nat} {z : Value} {a : Option Addr} (ht : Ty P t (.slice el) s bs z) (hx : ev e x = .slice a m c) : RV P e (.call ⟨.builtin .len, #[x], #[t]⟩) ty w (.int .i64 (m : Int)) := by
  simp [RV, execOp, resolve, invoke, builtin, Builtin.len_, ht.run_und, hx, goInt]
theorem r_lenR {x : Operand} {t el : TypeId} {s bs s' n : Nat} {z v : Value} {xs : List Value} {w2 : World} (ht : Ty P t (.slice el) s bs z) (hx : ev e x = v) (hS : Sl w2 s' v n xs) : RV P e (.call ⟨.builtin .len, #[x], #[t]⟩) ty w (.int .i64 (n : Int)) := by
  obtain ⟨a, c, rfl⟩ := hS.isSlice
  exact r_len ht hx
theorem r_lenS {x : Operand} {t : TypeId} {s bs : Nat} {z : Value} {a : ByteArray} (ht : Ty P t .string s bs z) (hx : ev e x = .string a) : RV P e (.call ⟨.builtin .len, #[x], #[t]⟩) ty w (.int .i64 (a.size : Int)) := by
  simp [RV, execOp, resolve, invoke, builtin, Builtin.len_, ht.run_und, hx, goInt]
theorem r_pick {c a b : Operand} {t : Bool} (hc : ev e c = .bool t) : RV P e (.pick c a b) ty w (if t then ev e a else ev e b) := by
  simp [RV, execOp, hc, asBool]
theorem r_pickA {c a : Operand} {t u : Bool} (hc : ev e c = .bool t) (ha : ev e a = .bool u) : RV P e (.pick c a (.const (.bool false))) ty w (.bool (t && u)) := by
  have h := r_pick (P := P) (ty := ty) (w := w) (a := a) (b := .const (.bool false)) hc
  rw [ha] at h; cases t <;> exact h
theorem r_pickO {c b : Operand} {t u : Bool} (hc : ev e c = .bool t) (hb : ev e b = .bool u) : RV P e (.pick c (.const (.bool true)) b) ty w (.bool (t || u)) := by
  have h := r_pick (P := P) (ty := ty) (w := w) (a := .const (.bool true)) (b := b) hc
  rw [hb] at h; cases t <;> exact h
theorem r_pickF {c a : Operand} {t : Bool} (hc : ev e c = .bool t) (ht : t = false) : RV P e (.pick c a (.const (.bool false))) ty w (.bool false) := by
  subst ht; exact r_pick hc
theorem r_pickT {c b : Operand} {t : Bool} (hc : ev e c = .bool t) (ht : t = true) : RV P e (.pick c (.const (.bool true)) b) ty w (.bool true) := by
  subst ht; exact r_pick hc
end
end Go.Vc
