/-
  Calls that may panic; regions that draw their order, with some operations in a fixed order among themselves that change memory (or panic), and a tail that waits for all.
-/
import Derived.Test.YtcljkkfpcomdcaaDrawt
set_option linter.unusedSimpArgs false
set_option linter.unusedVariables false
namespace Go.Vc
open Go Go.RowKit
variable {D : List Deferred}

/-! ### calls that may panic -/
def CaX (P : Program) (f : FuncId) (args : Array Value) (w : World) (R : Value → World → Prop) (S : List PanicEntry → World → Prop) : Prop :=
  Calls P f args w (fun e w' => match e with | .returned v => R v w' | .panicked ch => S ch w' | .outgrown => False)
theorem CaX.mono {P : Program} {f : FuncId} {args : Array Value} {w : World} {R R' : Value → World → Prop} {S S' : List PanicEntry → World → Prop} (h : CaX P f args w R S) (hr : ∀ v w', R v w' → R' v w') (hs : ∀ ch w', S ch w' → S' ch w') : CaX P f args w R' S' :=
  Calls.mono h fun e w' he => by cases e <;> simp only at he ⊢ <;> first | exact hr _ _ he | exact hs _ _ he | exact he
theorem Ca.x {P : Program} {f : FuncId} {args : Array Value} {w : World} {R : Value → World → Prop} {S : List PanicEntry → World → Prop} (h : Ca P f args w R) : CaX P f args w R S :=
  Calls.mono h fun e w' he => by cases e <;> simp only at he ⊢ <;> first | exact he | exact he.elim
theorem CaX.ca {P : Program} {f : FuncId} {args : Array Value} {w : World} {R : Value → World → Prop} (h : CaX P f args w R (fun _ _ => False)) : Ca P f args w R :=
  Calls.mono h fun e w' he => by cases e <;> simp only at he ⊢ <;> first | exact he | exact he.elim
def postX (fn : Func) (P : Program) (R : Value → World → Prop) (S : List PanicEntry → World → Prop) : Exit → Env → World → Prop
  | .normal, e, w | .ret, e, w => Rt fn P R e w
  | .panic ch, _, w => S ch w
  | _, _, _ => False
theorem CaX.of {P : Program} {f : FuncId} {fn : Func} {c : Code} {l : List Value} {w : World} {R : Value → World → Prop} {S : List PanicEntry → World → Prop} {n : Nat} (hf : P.funcs[f]? = some fn) (hm : fn.ntmps = n) (hb : fn.body = some c)
    (hn : Nat.ble l.length n = true) (h : W P c (postX fn P R S) n (envOf l) w) : CaX P f l.toArray w R S := by
  subst hm
  have hn' : l.length ≤ fn.ntmps := by simpa using hn
  refine calls_of_wp hf hb (wp_mono (h.out [] _ ?_) ?_)
  · have := Rel.mk' l (fn.ntmps - l.length)
    rw [Nat.add_sub_cancel' hn'] at this
    simpa using this
  · rintro x a w ⟨e', hr, hq⟩
    cases x <;> simp only [postX] at hq <;> first
      | exact hq.elim
      | exact ⟨hr.defers, hq⟩
      | (obtain ⟨v, h1, h2⟩ := hq.out _ a hr; exact ⟨hr.defers, v, h1, h2⟩)
section
variable {P : Program} {e : Env} {w : World} {n : Nat} {Q : Exit → Env → World → Prop}
def OPX (P : Program) (e : Env) (op : Op) (ty : TypeId) (w : World) (K : Value → World → Prop) (S : List PanicEntry → World → Prop) : Prop :=
  match (execOp (ev e) ⟨none, op, ty, "", #[], none⟩).run P w with
  | .ok (.value v) w' => K v w'
  | .ok .skip w' => K undef w'
  | .ok (.enter f args) w' => CaX P f args w' K S
  | .halt (.panic v) w' => S [{ v, recovered := false }] w'
  | _ => False
theorem OPX.wp {o : Oper} {a : Act} {K : Act → World → Prop} {Q : Exit → Act → World → Prop} (ha : a.eval = ev e) (h : OPX P e o.op o.type w (fun v w' => K (a.put o.dst v) w') (fun ch w' => Q (.panic ch) a w')) : o.wp P a w K Q := by
  unfold Oper.wp
  rw [exec_of, ha]
  unfold OPX at h
  revert h
  generalize (execOp (ev e) ⟨none, o.op, o.type, "", #[], none⟩).run P w = r
  intro h
  cases r with
  | ok nx w' =>
    cases nx <;> simp only [Oper.upon] <;> simp only at h <;> first
      | exact h
      | exact h.elim
      | exact Calls.mono h (fun e w'' he => by cases e <;> simp only at he <;> first | exact he | exact he.elim)
  | halt x w' => cases x <;> simp only [Oper.upon] <;> simp only at h <;> first | exact h | exact h.elim
theorem OPX.mono {op : Op} {ty : TypeId} {K K' : Value → World → Prop} {S S' : List PanicEntry → World → Prop} (h : OPX P e op ty w K S) (hk : ∀ v w', K v w' → K' v w') (hs : ∀ ch w', S ch w' → S' ch w') : OPX P e op ty w K' S' := by
  unfold OPX at *
  revert h
  generalize (execOp (ev e) ⟨none, op, ty, "", #[], none⟩).run P w = r
  intro h
  cases r with
  | ok nx w' =>
    cases nx <;> simp only at h ⊢ <;> first
      | exact hk _ _ h
      | exact h
      | exact CaX.mono h hk hs
  | halt x w' => cases x <;> simp only at h ⊢ <;> first | exact hs _ _ h | exact h
theorem OP.x {op : Op} {ty : TypeId} {K : Value → World → Prop} {S : List PanicEntry → World → Prop} (h : OP P e op ty w K) : OPX P e op ty w K S := by
  unfold OP at h
  unfold OPX
  revert h
  generalize (execOp (ev e) ⟨none, op, ty, "", #[], none⟩).run P w = r
  intro h
  cases r with
  | ok nx w' =>
    cases nx <;> simp only at h ⊢ <;> first
      | exact h
      | exact Ca.x h
  | halt x w' => exact h.elim
theorem WL.cx {all rest : List Oper} {d : Nat} {op : Op} {ty : TypeId} {pos : String} {after : Array Edge} (hd : Nat.blt d n = true)
    (h : OPX P e op ty w (fun v w' => WL P all rest Q n (upd e d v) w') (fun ch w' => Q (.panic ch) e w')) : WL P all (⟨some d, op, ty, pos, after, none⟩ :: rest) Q n e w :=
  ⟨fun D a ha => wpList_plain rfl fun _ hK => OPX.wp ha.ev (h.mono (fun v _ hw => hK _ _ (hw.out D _ (ha.put hd v))) (fun ch w' hq => ⟨e, ha, hq⟩))⟩
theorem WL.ux {all rest : List Oper} {op : Op} {ty : TypeId} {pos : String} {after : Array Edge}
    (h : OPX P e op ty w (fun _ w' => WL P all rest Q n e w') (fun ch w' => Q (.panic ch) e w')) : WL P all (⟨none, op, ty, pos, after, none⟩ :: rest) Q n e w :=
  ⟨fun D a ha => wpList_plain rfl fun _ hK => OPX.wp ha.ev (h.mono (fun _ _ hw => hK _ _ (hw.out D _ ha)) (fun ch w' hq => ⟨e, ha, hq⟩))⟩
variable {K : Value → World → Prop} {S : List PanicEntry → World → Prop} {ty : TypeId}
theorem ox_call {f : FuncId} {l : List Operand} {vs : List Value} {ats : Array TypeId} (hc : ∀ args w, (callFunc f args).run P w = .ok (.enter f args) w) (ha : l.map (ev e) = vs) (h : CaX P f vs.toArray w K S) : OPX P e (.call ⟨.value (.func f), l.toArray, ats⟩) ty w K S := by
  subst ha
  unfold OPX
  have : (execOp (ev e) ⟨none, .call ⟨.value (.func f), l.toArray, ats⟩, ty, "", #[], none⟩).run P w = .ok (.enter f (l.map (ev e)).toArray) w := by
    simp [execOp, resolve, Deferred.ofValue, ev, invoke, hc]
  rw [this]
  exact h
/-- a closure is called: what it captured lies behind its arguments -/
theorem ox_callC {g : Operand} {f : FuncId} {caps : Array Value} {l : List Operand} {vs : List Value} {ats : Array TypeId} (hg : ev e g = .func (.func f) #[] caps) (hc : ∀ args w, (callFunc f args).run P w = .ok (.enter f args) w) (ha : l.map (ev e) = vs) (h : CaX P f (vs ++ caps.toList).toArray w K S) : OPX P e (.call ⟨.value g, l.toArray, ats⟩) ty w K S := by
  subst ha
  unfold OPX
  have : (execOp (ev e) ⟨none, .call ⟨.value g, l.toArray, ats⟩, ty, "", #[], none⟩).run P w = .ok (.enter f ((l.map (ev e)) ++ caps.toList).toArray) w := by
    simp [execOp, resolve, Deferred.ofValue, hg, invoke, hc]
  rw [this]
  exact h
theorem o_callC {g : Operand} {f : FuncId} {caps : Array Value} {l : List Operand} {vs : List Value} {ats : Array TypeId} (hg : ev e g = .func (.func f) #[] caps) (hc : ∀ args w, (callFunc f args).run P w = .ok (.enter f args) w) (ha : l.map (ev e) = vs) (h : Ca P f (vs ++ caps.toList).toArray w K) : OP P e (.call ⟨.value g, l.toArray, ats⟩) ty w K := by
  subst ha
  unfold OP
  have : (execOp (ev e) ⟨none, .call ⟨.value g, l.toArray, ats⟩, ty, "", #[], none⟩).run P w = .ok (.enter f ((l.map (ev e)) ++ caps.toList).toArray) w := by
    simp [execOp, resolve, Deferred.ofValue, hg, invoke, hc]
  rw [this]
  exact h
theorem ox_panic {x : Operand} {T : TypeId} {v : Value} (hx : ev e x = .iface T v) (h : S [{ v := .iface T v, recovered := false }] w) : OPX P e (.panic x) ty w K S := by
  unfold OPX
  have : (execOp (ev e) ⟨none, .panic x, ty, "", #[], none⟩).run P w = .halt (.panic (.iface T v)) w := by
    simp [execOp, hx, run_panic_iface]
  rw [this]
  exact h
end

/-! ### regions -/
def SGX (P : Program) (all : List Oper) (e : Env) (o : Oper) (w : World) (K : Value → World → Prop) (S : List PanicEntry → World → Prop) : Prop :=
  ∀ D n a, Rel D n a e → if Region.wanted o (yielded all.toArray a.tmps) then OPX P e o.op o.type w K S else K undef w
theorem SGX.n {P : Program} {all : List Oper} {e : Env} {w : World} {K : Value → World → Prop} {S : List PanicEntry → World → Prop} {op : Op} {ty : TypeId} {dst : Option Nat} {pos : String} {after : Array Edge} (h : OPX P e op ty w K S) : SGX P all e ⟨dst, op, ty, pos, after, none⟩ w K S := fun D n a ha => by
  rw [if_pos (by simp [Region.wanted])]; exact h
/-- operation i waits for j, by one edge or by some -/
def anc (all : List Oper) : Nat → Nat → Nat → Bool
  | 0, _, _ => false
  | f + 1, i, j => match all[i]? with
    | some o => o.after.toList.any (fun e => Region.binds .any e && (e.on == j || anc all f e.on j))
    | none => false
theorem anc_listed {all : List Oper} {listed : Array Bool} (hclosed : ∀ j oj, all[j]? = some oj → listed.getD j false = true → ∀ e ∈ oj.after.toList, Region.binds .any e = true → listed.getD e.on false = true) :
    ∀ f i j o, all[i]? = some o → (∀ e ∈ o.after.toList, Region.binds .any e = true → listed.getD e.on false = true) → anc all f i j = true → listed.getD j false = true
  | 0, _, _, _, _, _, h => by cases h
  | f + 1, i, j, o, ho, hw, h => by
    rw [anc, ho] at h
    simp only [List.any_eq_true, Bool.and_eq_true, Bool.or_eq_true, beq_iff_eq] at h
    obtain ⟨e, he, hb, hj⟩ := h
    have h1 := hw e he hb
    rcases hj with hj | hj
    · rw [← hj]; exact h1
    · cases f with
      | zero => cases hj
      | succ f =>
        have hj2 := hj
        rw [anc] at hj2
        cases ho2 : all[e.on]? with
        | none => rw [ho2] at hj2; cases hj2
        | some o2 => exact anc_listed hclosed (f + 1) e.on j o2 ho2 (hclosed _ _ ho2 h1) hj
def stOk (all : List Oper) (mu : List Nat) (i s : Nat) : Bool :=
  match s with
  | 0 => true
  | s + 1 => match mu[s]? with
    | some j => j == i || anc all 40 i j
    | none => false
def WDS (P : Program) (all : List Oper) (Q : Exit → Env → World → Prop) (Rs : Nat → World → World → Prop) (Wd : Nat → World → Prop) (mu : List Nat) (w0 : World) (F : Known → Prop) : List Oper → Nat → Known → Prop
  | [], _, kn => F kn
  | o :: l, i, kn => ∃ d φ s, o.dst = some d ∧ Mono (Rs s) φ ∧ stOk all mu i s = true ∧
      ((i ∉ mu ∧ ∀ e w, Rs 0 w0 w → Holds kn (rds all o) e w → SG P all e o w (fun v w' => φ v w' ∧ Ext w w')) ∨
       ∃ t, mu[t]? = some i ∧ ∀ e w, Rs 0 w0 w → Wd t w → Holds kn (rds all o) e w → SGX P all e o w (fun v w' => φ v w' ∧ Rs t w w' ∧ Wd (t + 1) w') (fun ch w' => Q (.panic ch) e w')) ∧
      WDS P all Q Rs Wd mu w0 F l (i + 1) ((d, φ) :: kn)
section
variable {P : Program} {all : List Oper} {Q : Exit → Env → World → Prop} {Rs : Nat → World → World → Prop} {Wd : Nat → World → Prop} {mu : List Nat} {w0 : World} {F : Known → Prop} {o : Oper} {l : List Oper} {kn : Known} {d i : Nat}
theorem WDS.p {V : Value} (hd : o.dst = some d) (hi : i ∉ mu) (h : ∀ e w, Rs 0 w0 w → Holds kn (rds all o) e w → SG P all e o w (fun v w' => v = V ∧ Ext w w')) (k : WDS P all Q Rs Wd mu w0 F l (i + 1) ((d, fun v _ => v = V) :: kn)) : WDS P all Q Rs Wd mu w0 F (o :: l) i kn :=
  ⟨d, fun v _ => v = V, 0, hd, fun _ _ _ _ h => h, rfl, .inl ⟨hi, h⟩, k⟩
theorem WDS.q (s : Nat) (φ : Value → World → Prop) (hm : Mono (Rs s) φ) (hs : stOk all mu i s = true) (hd : o.dst = some d) (hi : i ∉ mu) (h : ∀ e w, Rs 0 w0 w → Holds kn (rds all o) e w → SG P all e o w (fun v w' => φ v w' ∧ Ext w w')) (k : WDS P all Q Rs Wd mu w0 F l (i + 1) ((d, φ) :: kn)) : WDS P all Q Rs Wd mu w0 F (o :: l) i kn :=
  ⟨d, φ, s, hd, hm, hs, .inl ⟨hi, h⟩, k⟩
theorem WDS.m (t s : Nat) (φ : Value → World → Prop) (hm : Mono (Rs s) φ) (hs : stOk all mu i s = true) (hd : o.dst = some d) (hi : mu[t]? = some i) (h : ∀ e w, Rs 0 w0 w → Wd t w → Holds kn (rds all o) e w → SGX P all e o w (fun v w' => φ v w' ∧ Rs t w w' ∧ Wd (t + 1) w') (fun ch w' => Q (.panic ch) e w')) (k : WDS P all Q Rs Wd mu w0 F l (i + 1) ((d, φ) :: kn)) : WDS P all Q Rs Wd mu w0 F (o :: l) i kn :=
  ⟨d, φ, s, hd, hm, hs, .inr ⟨t, hi, h⟩, k⟩
theorem WDS.unroll : ∀ (l : List Oper) (i : Nat) (kn : Known), WDS P all Q Rs Wd mu w0 F l i kn → ∃ KN : Known, F KN ∧ (∀ x ∈ kn, x ∈ KN) ∧ KN.map Prod.fst = ((l.map fun o => o.dst.getD 0).reverse ++ kn.map Prod.fst) ∧
    (∀ x ∈ KN, x ∈ kn ∨ ∃ j o s, l[j]? = some o ∧ o.dst = some x.1 ∧ Mono (Rs s) x.2 ∧ stOk all mu (i + j) s = true) ∧
    ∀ j o, l[j]? = some o → ∃ d φ, o.dst = some d ∧ (d, φ) ∈ KN ∧
      ((i + j ∉ mu ∧ ∀ e w, Rs 0 w0 w → (∀ x ∈ KN, x.1 ∈ rds all o → x.2 (e x.1) w) → SG P all e o w (fun v w' => φ v w' ∧ Ext w w')) ∨
       ∃ t, mu[t]? = some (i + j) ∧ ∀ e w, Rs 0 w0 w → Wd t w → (∀ x ∈ KN, x.1 ∈ rds all o → x.2 (e x.1) w) → SGX P all e o w (fun v w' => φ v w' ∧ Rs t w w' ∧ Wd (t + 1) w') (fun ch w' => Q (.panic ch) e w'))
  | [], i, kn, h => ⟨kn, h, fun _ h => h, by simp, fun _ h => .inl h, fun j o ho => by simp at ho⟩
  | o :: l, i, kn, h => by
    obtain ⟨d, φ, s, hd, hm, hst, hs, hk⟩ := h
    obtain ⟨KN, h1, h2, h3, h4, h5⟩ := WDS.unroll l (i + 1) _ hk
    refine ⟨KN, h1, fun x hx => h2 x (List.mem_cons_of_mem _ hx), ?_, fun x hx => ?_, fun j o' ho' => ?_⟩
    · rw [h3]; simp [hd]
    · rcases h4 x hx with hx' | ⟨j, o', s', ho', hd', hm', hst'⟩
      · rcases List.mem_cons.1 hx' with rfl | hx'
        · exact .inr ⟨0, o, s, rfl, hd, hm, by simpa using hst⟩
        · exact .inl hx'
      · exact .inr ⟨j + 1, o', s', by simpa using ho', hd', hm', by rw [show i + (j + 1) = i + 1 + j by omega]; exact hst'⟩
    · cases j with
      | zero =>
        simp only [List.getElem?_cons_zero, Option.some.injEq] at ho'
        subst ho'
        refine ⟨d, φ, hd, h2 _ (List.mem_cons_self ..), ?_⟩
        rcases hs with ⟨hi, hs⟩ | ⟨t, hi, hs⟩
        · exact .inl ⟨by simpa using hi, fun e w hR hx => hs e w hR (Holds.of fun x hx' hs' => hx x (h2 x (List.mem_cons_of_mem _ hx')) hs')⟩
        · exact .inr ⟨t, by simpa using hi, fun e w hR hW hx => hs e w hR hW (Holds.of fun x hx' hs' => hx x (h2 x (List.mem_cons_of_mem _ hx')) hs')⟩
      | succ j =>
        simp only [List.getElem?_cons_succ] at ho'
        rw [show i + (j + 1) = i + 1 + j by omega]
        exact h5 j o' ho'
end
def muOk (all : List Oper) (m : Nat) (mu : List Nat) : Bool :=
  decide mu.Nodup && mu.all (fun i => Nat.blt i m) && (List.range (mu.length - 1)).all (fun u => anc all 40 (mu.getD (u + 1) 0) (mu.getD u 0))
theorem Rs_le {Rs : Nat → World → World → Prop} (hA : ∀ s a b, Rs (s + 1) a b → Rs s a b) {a b : World} : ∀ {t s : Nat}, s ≤ t → Rs t a b → Rs s a b
  | 0, s, h, hR => by have : s = 0 := by omega
                      subst this; exact hR
  | t + 1, s, h, hR => by
    by_cases e : s = t + 1
    · subst e; exact hR
    · exact Rs_le hA (by omega) (hA t a b hR)
theorem W.drawC {P : Program} {Q : Exit → Env → World → Prop} {n : Nat} {e : Env} {w : World} {id : Nat} {l : List Oper} (m : Nat) (mu : List Nat) (Rs : Nat → World → World → Prop) (Wd : Nat → World → Prop) (kn : Known) (hm : P.follows .mixedOrders = true) (hok : drawOkT l m (kn.map Prod.fst) n = true) (hmuOk : muOk l m mu = true)
    (hE : ∀ s a b, Ext a b → Rs s a b) (hA : ∀ s a b, Rs (s + 1) a b → Rs s a b) (htrans : ∀ a b c, Rs 0 a b → Rs 0 b c → Rs 0 a c) (hW : ∀ t a b, Wd t a → Ext a b → Wd t b) (hW0 : Wd 0 w.drew) (hmono' : MonoAll (Rs 0) kn) (h0 : HoldsAll kn e w.drew)
    (h : WDS P l Q Rs Wd mu w.drew (fun KN => ∀ e' w', Rs 0 w.drew w' → Wd mu.length w' → HoldsAll KN e' w' → WL P l (l.drop m) Q n e' w') (l.take m) 0 kn) : W P (.region id l.toArray true) Q n e w := by
  have hmono := hmono'.mem
  obtain ⟨KN, hF, hsub, hfst, hor', hstep'⟩ := WDS.unroll (l.take m) 0 kn h
  have hor : ∀ x ∈ KN, x ∈ kn ∨ ∃ j o s, (l.take m)[j]? = some o ∧ o.dst = some x.1 ∧ Mono (Rs s) x.2 ∧ stOk l mu j s = true := fun x hx => by
    rcases hor' x hx with h | ⟨j, o, s, h1, h2, h3, h4⟩
    · exact .inl h
    · exact .inr ⟨j, o, s, h1, h2, h3, by simpa using h4⟩
  simp only [Nat.zero_add] at hstep'
  simp only [muOk, Bool.and_eq_true, decide_eq_true_eq, List.all_eq_true] at hmuOk
  obtain ⟨⟨hmun, hmum⟩, hmuc⟩ := hmuOk
  simp only [drawOkT, Bool.and_eq_true, decide_eq_true_eq, List.all_eq_true] at hok
  obtain ⟨⟨⟨⟨⟨⟨⟨hnd, hdst⟩, hedge⟩, hwt⟩, hml⟩, hsk⟩, hch⟩, hseq⟩ := hok
  have hnd' : (KN.map Prod.fst).Nodup := by rw [hfst]; exact hnd
  have hinj := nodup_inj hnd'
  have hndT : ((l.take m).map (fun o => o.dst.getD 0)).Nodup := by have := (List.nodup_append.1 hnd).1; rw [List.Nodup, List.pairwise_reverse] at this; exact this.imp (fun h => h.symm)
  have hkn_out : ∀ x ∈ kn, ∀ (j : Nat) (o : Oper), j < m → l[j]? = some o → o.dst = some x.1 → False := fun x hx j o hjm hj hd => by
    have h1 : (l.take m)[j]? = some o := by rw [List.getElem?_take]; simpa [hjm] using hj
    have h2 : x.1 ∈ ((l.take m).map (fun o => o.dst.getD 0)).reverse := List.mem_reverse.2 (List.mem_map.2 ⟨o, List.mem_of_getElem? h1, by rw [hd]; rfl⟩)
    exact (List.nodup_append.1 hnd).2.2 _ h2 _ (List.mem_map.2 ⟨x, hx, rfl⟩) rfl
  have hdst_inj : ∀ (j2 j : Nat) (o2 o : Oper) (c : Nat), j2 < m → j < m → l[j2]? = some o2 → l[j]? = some o → o2.dst = some c → o.dst = some c → j2 = j := fun j2 j o2 o c h2m hjm hj2 hj hd2 hd => by
    have h1 : ((l.take m).map (fun o => o.dst.getD 0))[j]? = some c := by rw [List.getElem?_map, List.getElem?_take, if_pos hjm, hj, Option.map_some, hd]; rfl
    have h2 : ((l.take m).map (fun o => o.dst.getD 0))[j2]? = some c := by rw [List.getElem?_map, List.getElem?_take, if_pos h2m, hj2, Option.map_some, hd2]; rfl
    exact (List.getElem?_inj (List.getElem?_eq_some_iff.1 h2).1 hndT).1 (h2.trans h1.symm)
  have hback : ∀ (i : Nat) o, l[i]? = some o → ∀ e ∈ o.after.toList, Region.binds .any e = true → e.on < i := by
    intro i o ho e he hb
    have := (hedge (o, i) (List.mem_zipIdx_iff_getElem?.2 ho)) e he
    rw [hb] at this
    simpa using this
  have hwait : ∀ (i j : Nat) o p, (l.take m)[i]? = some o → (l.take m)[j]? = some p → p.dst.getD 0 ∈ rds l o → ∃ e ∈ o.after.toList, Region.binds .any e = true ∧ e.on = j := by
    intro i j o p ho hp hin
    have := (hwt (o, i) (List.mem_zipIdx_iff_getElem?.2 ho)) (p, j) (List.mem_zipIdx_iff_getElem?.2 hp)
    simp only [Bool.or_eq_true, Bool.not_eq_true', List.any_eq_true, Bool.and_eq_true, beq_iff_eq] at this
    rcases this with h | ⟨e, he, hb, hj⟩
    · simp only [List.contains_eq_mem, decide_eq_false_iff_not] at h; exact absurd hin h
    · exact ⟨e, he, hb, hj⟩
  have hsink : ∀ k, k < m → ∃ j, k < j ∧ j ≤ m ∧ Region.waitsFor .any l.toArray j k = true := by
    intro k hk
    unfold Region.sinkB at hsk
    rw [List.all_eq_true] at hsk
    have := hsk k (List.mem_range.2 hk)
    rw [List.any_eq_true] at this
    obtain ⟨j, hj, h⟩ := this
    simp only [Bool.and_eq_true, decide_eq_true_eq] at h
    exact ⟨j, h.1, by have := List.mem_range.1 hj; omega, h.2⟩
  have hchain : ∀ t, t < l.length → t ≤ m ∨ Region.waitsFor .any l.toArray t (t - 1) = true := by
    intro t ht
    unfold Region.chainB at hch
    rw [List.all_eq_true] at hch
    have := hch t (List.mem_range.2 (by simpa using ht))
    simpa using this
  refine ⟨fun D a ha => wp_region_any hm ?_⟩
  have main : ∀ (fuel : Nat) (listed : Array Bool) (a : Act) (w' : World) (e' : Env) (tt : Nat), listed.size = l.length → (∀ i, listed.getD i true = false → i < l.length) → (∀ t, m ≤ t → t < l.length → listed.getD t true = false) → (∀ j oj, l[j]? = some oj → listed.getD j false = true → ∀ e ∈ oj.after.toList, Region.binds .any e = true → listed.getD e.on false = true) → (l.length ≤ fuel + (List.range l.length).countP (fun i => listed.getD i true)) → Rel D n a e' → Rs 0 w.drew w' → tt ≤ mu.length → Wd tt w' → (∀ u j, mu[u]? = some j → (listed.getD j false = true ↔ u < tt)) →
      (∀ x ∈ KN, (x ∈ kn ∨ ∃ j o, l[j]? = some o ∧ o.dst = some x.1 ∧ listed.getD j false = true) → x.2 (e' x.1) w') →
      wpAny P .any l.toArray (lift D n Q) fuel listed a w' := by
    intro fuel
    induction fuel with
    | zero =>
      intro listed a w' e' tt hsz hin htail hclosed hcnt hr hR htt hWd hmu hx
      have := cnt_le l.length m (fun k => listed.getD k true) (fun k hk h => by rcases Nat.lt_or_ge k m with h1 | h1; exact h1; rw [htail k h1 hk] at h; cases h)
      omega
    | succ fuel ih =>
      intro listed a w' e' tt hsz hin htail hclosed hcnt hr hR htt hWd hmu hx
      refine ⟨fun hre => (by
        have := all_listed hsz hback hre m hml
        rw [htail m (Nat.le_refl _) hml] at this
        cases this), fun i hi => ?_⟩
      obtain ⟨hiu, oi, hoi, hall⟩ := mem_ready.1 hi
      have hoi' : l[i]? = some oi := by simpa using hoi
      have hil : i < l.length := (List.getElem?_eq_some_iff.1 hoi').1
      by_cases him : i < m
      rotate_left
      · -- the tail
        have hi_m : i = m := by
          rcases Nat.lt_or_ge m i with h | h
          · exfalso
            have hc := hchain i hil
            rcases hc with hc | hc
            · omega
            · obtain ⟨ed, hed, hb, hej⟩ := waits hoi' hc
              have h1 := hall ed (by simpa using hed) hb
              rw [hej] at h1
              have h2 := htail (i - 1) (by omega) (by omega)
              exact tf h1 h2
          · omega
        subst hi_m
        have heads : ∀ d k, i - k = d → k < i → listed.getD k false = true := by
          intro d
          induction d using Nat.strongRecOn with
          | _ d ihd =>
            intro k hkd hki
            obtain ⟨j, hkj, hjm, hw⟩ := hsink k hki
            by_cases hji : j = i
            · subst hji
              obtain ⟨ed, hed, hb, hej⟩ := waits hoi' hw
              have h1 := hall ed (by simpa using hed) hb
              rwa [hej] at h1
            · have hj := ihd (i - j) (by omega) j rfl (by omega)
              have hjl : j < l.length := by omega
              obtain ⟨ed, hed, hb, hej⟩ := waits (List.getElem?_eq_getElem hjl) hw
              have h1 := hclosed j _ (List.getElem?_eq_getElem hjl) hj ed hed hb
              rwa [hej] at h1
        have hL : listed = (List.replicate i true ++ List.replicate (l.length - i) false).toArray := by
          apply Array.ext_getElem?
          intro k
          by_cases hkl : k < l.length
          · have hks : k < listed.size := by omega
            by_cases hki : k < i
            · have h1 := heads _ k rfl hki
              rw [Array.getD_eq_getD_getElem?, Array.getElem?_eq_getElem hks] at h1
              rw [Array.getElem?_eq_getElem hks]
              simp only [Option.getD_some] at h1
              rw [h1]
              simp [List.getElem?_append, hki]
            · have h1 := htail k (by omega) hkl
              rw [Array.getD_eq_getD_getElem?, Array.getElem?_eq_getElem hks] at h1
              rw [Array.getElem?_eq_getElem hks]
              simp only [Option.getD_some] at h1
              rw [h1, List.getElem?_toArray, List.getElem?_append_right (by rw [List.length_replicate]; omega), List.getElem?_replicate, if_pos (by rw [List.length_replicate]; omega)]
          · rw [Array.getElem?_eq_none (by omega), Array.getElem?_eq_none (by simp; omega)]
        have htl2 : tt = mu.length := by
          rcases Nat.lt_or_ge tt mu.length with h | h
          · exfalso
            have hj := List.getElem?_eq_getElem h
            have hjm : mu[tt] < i := by
              have := hmum _ (List.getElem_mem h)
              simpa using this
            have := (hmu tt _ hj).1 (heads _ _ rfl hjm)
            omega
          · omega
        subst htl2
        have hwl := hF e' w' hR hWd (HoldsAll.of fun x hxm => hx x hxm (by
          rcases hor x hxm with h | ⟨j, o, s, hj, hdo, -, -⟩
          · exact .inl h
          · have hjm : j < i := by
              have := (List.getElem?_eq_some_iff.1 hj).1
              simp at this; omega
            have hj' : l[j]? = some o := by rw [List.getElem?_take] at hj; simpa [hjm] using hj
            exact .inr ⟨j, o, hj', hdo, heads _ j rfl hjm⟩))
        have hsq := wpAny_seqF (P := P) (ops := l.toArray) (Q' := lift D n Q) (l.drop i) i listed a w' (fuel + 1) (by rw [List.length_drop]; have := cnt_le l.length i (fun k => listed.getD k true) (fun k hk h => by rcases Nat.lt_or_ge k i with h1 | h1; exact h1; rw [htail k h1 hk] at h; cases h); omega) (fun j => by rw [List.getElem?_drop]; simp) (by rw [hL, List.length_drop]; exact hseq) (hwl.out D a hr)
        exact hsq.2 i hi
      have hoiT : (l.take m)[i]? = some oi := by rw [List.getElem?_take]; simpa [him] using hoi'
      obtain ⟨d, φ, hd, hmem, hs⟩ := hstep' i oi hoiT
      have hdn := (hdst oi (List.mem_of_getElem? hoiT))
      have hdn : Nat.blt d n = true := by simpa [hd] using hdn.2
      have hpre : ∀ x ∈ KN, x.1 ∈ rds l oi → x.2 (e' x.1) w' := by
        intro x hxm hxr
        refine hx x hxm ?_
        rcases hor x hxm with h | ⟨j, o, s, hj, hdo, -, -⟩
        · exact .inl h
        · obtain ⟨ed, hed, hb, hej⟩ := hwait i j oi o hoiT hj (by rw [hdo]; exact hxr)
          have hjm : j < m := by
            have := (List.getElem?_eq_some_iff.1 hj).1
            simp at this; omega
          have hj' : l[j]? = some o := by rw [List.getElem?_take] at hj; simpa [hjm] using hj
          refine .inr ⟨j, o, hj', hdo, ?_⟩
          have := hall ed (by simpa using hed) hb
          rw [hej] at this
          exact this
      have next : ∀ v w2 t2, φ v w2 → Rs 0 w' w2 → t2 ≤ mu.length → Wd t2 w2 → (∀ u j, mu[u]? = some j → ((listed.setIfInBounds i true).getD j false = true ↔ u < t2)) →
          (∀ x ∈ KN, (x ∈ kn ∨ ∃ j o, l[j]? = some o ∧ o.dst = some x.1 ∧ listed.getD j false = true) → x.2 (e' x.1) w' → x.2 (e' x.1) w2) → wpAny P .any l.toArray (lift D n Q) fuel (listed.setIfInBounds i true) (a.put oi.dst v) w2 := by
        intro v w2 t2 hφ hR2 ht2 hWd2 hmu2 hstab
        rw [hd]
        refine ih _ _ _ (upd e' d v) t2 (by simpa using hsz) (fun k hk => ?_) (fun t ht htl => ?_) ?_ ?_ (hr.put hdn v) (htrans _ _ _ hR hR2) ht2 hWd2 hmu2 ?_
        · refine hin k ?_
          by_cases hki : k = i
          · subst hki; exact hiu
          · rw [Array.getD_eq_getD_getElem?, Array.getElem?_setIfInBounds_ne (by omega)] at hk
            rw [Array.getD_eq_getD_getElem?]; exact hk
        · rw [Array.getD_eq_getD_getElem?, Array.getElem?_setIfInBounds_ne (by omega)]
          have := htail t ht htl
          rw [Array.getD_eq_getD_getElem?] at this; exact this
        · intro j oj hoj hl e he hb
          by_cases hji : j = i
          · subst hji
            rw [hoi'] at hoj
            simp only [Option.some.injEq] at hoj
            subst hoj
            have h1 := hall e (by simpa using he) hb
            exact set_true h1
          · have h2 : listed.getD j false = true := by
              rw [Array.getD_eq_getD_getElem?, Array.getElem?_setIfInBounds_ne (by omega)] at hl
              rw [Array.getD_eq_getD_getElem?]; exact hl
            exact set_true (hclosed j oj hoj h2 e he hb)
        · have hcount : (List.range l.length).countP (fun k => listed.getD k true) + 1 ≤ (List.range l.length).countP (fun k => (listed.setIfInBounds i true).getD k true) := by
            have key : ∀ (r : List Nat), r.Nodup → i ∈ r → r.countP (fun k => listed.getD k true) + 1 ≤ r.countP (fun k => (listed.setIfInBounds i true).getD k true) := by
              intro r
              induction r with
              | nil => intro _ h; cases h
              | cons k r ihr =>
                intro hn hmem
                simp only [List.nodup_cons] at hn
                rw [List.countP_cons, List.countP_cons]
                by_cases hki : k = i
                · subst hki
                  have e1 : listed.getD k true = false := hiu
                  have e2 : (listed.setIfInBounds k true).getD k true = true := by
                    rw [Array.getD_eq_getD_getElem?, Array.getElem?_setIfInBounds]; simp; split <;> rfl
                  rw [e1, e2]
                  have : r.countP (fun k => listed.getD k true) ≤ r.countP (fun k' => (listed.setIfInBounds k true).getD k' true) := by
                    refine List.countP_mono_left fun k' hk' => ?_
                    intro h
                    by_cases hkk : k' = k
                    · subst hkk; exact absurd hk' hn.1
                    · rw [Array.getD_eq_getD_getElem?, Array.getElem?_setIfInBounds_ne (by omega)]
                      rw [Array.getD_eq_getD_getElem?] at h; exact h
                  rw [if_neg (by decide), if_pos rfl]; omega
                · have e1 : (listed.setIfInBounds i true).getD k true = listed.getD k true := by
                    rw [Array.getD_eq_getD_getElem?, Array.getElem?_setIfInBounds_ne (by omega), Array.getD_eq_getD_getElem?]
                  have := ihr hn.2 (by rcases List.mem_cons.1 hmem with h | h; exact absurd h.symm hki; exact h)
                  rw [e1]; omega
            exact key _ List.nodup_range (List.mem_range.2 hil)
          omega
        · intro x hxm hcond
          by_cases hxd : x.1 = d
          · have := hinj x hxm (d, φ) hmem hxd
            subst this
            simp only [upd]
            rw [show Nat.beq d d = true from Nat.beq_refl d]
            exact hφ
          · have hnb : Nat.beq x.1 d = false := beq_false hxd
            simp only [upd, hnb]
            have hc : x ∈ kn ∨ ∃ j o, l[j]? = some o ∧ o.dst = some x.1 ∧ listed.getD j false = true := ?_
            · exact hstab x hxm hc (hx x hxm hc)
            rcases hcond with h | ⟨j, o, hj, hdo, hl⟩
            · exact .inl h
            · refine .inr ⟨j, o, hj, hdo, ?_⟩
              have hji : j ≠ i := by
                intro hji
                subst hji
                rw [hj] at hoi'
                simp only [Option.some.injEq] at hoi'
                subst hoi'
                rw [hdo] at hd
                simp only [Option.some.injEq] at hd
                exact hxd hd
              rw [Array.getD_eq_getD_getElem?, Array.getElem?_setIfInBounds_ne (by omega)] at hl
              rw [Array.getD_eq_getD_getElem?]; exact hl
      have hset : ∀ j, j ≠ i → (listed.setIfInBounds i true).getD j false = listed.getD j false := fun j hj => by
        rw [Array.getD_eq_getD_getElem?, Array.getElem?_setIfInBounds_ne (by omega), ← Array.getD_eq_getD_getElem?]
      have hnl : listed.getD i false ≠ true := fun h => tf h hiu
      have hall' : ∀ e ∈ oi.after.toList, Region.binds .any e = true → listed.getD e.on false = true := fun e he hb => hall e (by simpa using he) hb
      have hKj : ∀ x ∈ KN, x ∈ kn ∨ ∃ j o s, j < m ∧ l[j]? = some o ∧ o.dst = some x.1 ∧ Mono (Rs s) x.2 ∧ stOk l mu j s = true := fun x hxm => by
        rcases hor x hxm with h | ⟨j, o, s, hj, hdo, h1, h2⟩
        · exact .inl h
        · have hjm : j < m := by
            have := (List.getElem?_eq_some_iff.1 hj).1
            simp at this; omega
          refine .inr ⟨j, o, s, hjm, ?_, hdo, h1, h2⟩
          rw [List.getElem?_take] at hj; simpa [hjm] using hj
      unfold wpOp
      rw [hoi]
      show (if Region.wanted oi (yielded l.toArray a.tmps) = true then _ else _)
      rcases hs with ⟨hni, hs⟩ | ⟨t, hti, hs⟩
      · have hsg := hs e' w' hR hpre D n a hr
        have nx : ∀ v w2, φ v w2 ∧ Ext w' w2 → wpAny P .any l.toArray (lift D n Q) fuel (listed.setIfInBounds i true) (a.put oi.dst v) w2 := fun v w2 ⟨h1, h2⟩ =>
          next v w2 tt h1 (hE _ _ _ h2) htt (hW _ _ _ hWd h2) (fun u j hj => by
            have hji : j ≠ i := fun h => hni (h ▸ List.mem_of_getElem? hj)
            rw [hset j hji]; exact hmu u j hj) (fun x hxm _ hx1 => by
            rcases hKj x hxm with h | ⟨j, o, s, -, -, -, h3, -⟩
            · exact hmono x h _ _ _ (hE _ _ _ h2) hx1
            · exact h3 _ _ _ (hE _ _ _ h2) hx1)
        split
        · rename_i hw
          rw [if_pos hw] at hsg
          exact .inl (OP.wp hr.ev (hsg.mono nx))
        · rename_i hw
          rw [if_neg hw] at hsg
          exact nx undef w' hsg
      · have hti2 : t < mu.length := (List.getElem?_eq_some_iff.1 hti).1
        have htt2 : t = tt := by
          have h1 : ¬ t < tt := fun h => hnl ((hmu t i hti).2 h)
          rcases Nat.lt_or_ge tt t with h | h
          · exfalso
            have h2 := hmuc (t - 1) (List.mem_range.2 (by omega))
            have h3 : mu.getD (t - 1 + 1) 0 = i := by rw [show t - 1 + 1 = t by omega, List.getD_eq_getElem?_getD, hti]; rfl
            have h4 : mu[t - 1]? = some mu[t - 1] := List.getElem?_eq_getElem (by omega)
            have h5 : mu.getD (t - 1) 0 = mu[t - 1] := by rw [List.getD_eq_getElem?_getD, h4]; rfl
            rw [h3, h5] at h2
            have h6 := anc_listed hclosed 40 i _ oi hoi' hall' h2
            have := (hmu (t - 1) _ h4).1 h6
            omega
          · omega
        subst htt2
        have hsg := hs e' w' hR hWd hpre D n a hr
        have nx : ∀ v w2, (φ v w2 ∧ Rs t w' w2 ∧ Wd (t + 1) w2) → wpAny P .any l.toArray (lift D n Q) fuel (listed.setIfInBounds i true) (a.put oi.dst v) w2 := fun v w2 ⟨h1, h2, h3⟩ =>
          next v w2 (t + 1) h1 (Rs_le hA (Nat.zero_le _) h2) (by omega) h3 (fun u j hj => by
            by_cases hji : j = i
            · subst hji
              have hut : u = t := by
                have e1 := (List.getElem?_eq_some_iff.1 hj).1
                exact (List.getElem?_inj e1 hmun).1 (hj.trans hti.symm)
              subst hut
              have e2 : (listed.setIfInBounds j true).getD j false = true := by
                rw [Array.getD_eq_getD_getElem?, Array.getElem?_setIfInBounds]; simp [show j < listed.size by omega]
              simp [e2]
            · have hut : u ≠ t := fun h => by
                subst h; rw [hj] at hti; simp only [Option.some.injEq] at hti; exact hji hti
              rw [hset j hji, hmu u j hj]; omega) (fun x hxm hc hx1 => by
            rcases hKj x hxm with h | ⟨j, o, s, hjm, hj, hdo, h3, h4⟩
            · exact hmono x h _ _ _ (Rs_le hA (Nat.zero_le _) h2) hx1
            · refine h3 _ _ _ (Rs_le hA ?_ h2) hx1
              rcases hc with h | ⟨j2, o2, hj2, hdo2, hl2⟩
              · exfalso
                exact hkn_out x h j o hjm hj hdo
              · have h2m : j2 < m := by
                  rcases Nat.lt_or_ge j2 m with h | h
                  · exact h
                  · exact (tf hl2 (htail j2 h (List.getElem?_eq_some_iff.1 hj2).1)).elim
                have hjj : j2 = j := hdst_inj j2 j o2 o _ h2m hjm hj2 hj hdo2 hdo
                subst hjj
                rw [hj2] at hj
                simp only [Option.some.injEq] at hj
                subst hj
                cases s with
                | zero => exact Nat.zero_le _
                | succ s =>
                  simp only [stOk] at h4
                  cases hs2 : mu[s]? with
                  | none => rw [hs2] at h4; cases h4
                  | some jm =>
                    rw [hs2] at h4
                    simp only [Bool.or_eq_true, beq_iff_eq] at h4
                    have : listed.getD jm false = true := by
                      rcases h4 with h4 | h4
                      · rw [h4]; exact hl2
                      · exact anc_listed hclosed 40 j2 jm o2 hj2 (hclosed j2 o2 hj2 hl2) h4
                    have := (hmu s jm hs2).1 this
                    omega)
        split
        · rename_i hw
          rw [if_pos hw] at hsg
          exact .inl (OPX.wp hr.ev (hsg.mono nx (fun ch w2 hq => ⟨e', hr, hq⟩)))
        · rename_i hw
          rw [if_neg hw] at hsg
          exact nx undef w' hsg
  refine main _ _ a w.drew e 0 (by simp) (fun i hi => ?_) (fun t ht htl => ?_) (fun j oj hoj hl => ?_) (by simp) ha (hE _ _ _ (Only.refl _ _)) (Nat.zero_le _) hW0 (fun u j hj => ?_) (fun x hxm hc => ?_)
  · rw [Array.getD_eq_getD_getElem?, Array.getElem?_replicate] at hi
    split at hi
    · rename_i h; simpa using h
    · simp at hi
  · rw [Array.getD_eq_getD_getElem?, Array.getElem?_replicate]
    simp [htl]
  · rw [Array.getD_eq_getD_getElem?, Array.getElem?_replicate] at hl
    split at hl <;> simp at hl
  · refine ⟨fun hl => ?_, fun h => by omega⟩
    rw [Array.getD_eq_getD_getElem?, Array.getElem?_replicate] at hl
    split at hl <;> simp at hl
  · rcases hc with h | ⟨j, o, hj, hdo, hl⟩
    · exact h0.mem x h
    · rw [Array.getD_eq_getD_getElem?, Array.getElem?_replicate] at hl
      split at hl <;> simp at hl

/-! ### the same, by what each of the operations may write -/
def U : List (Nat → Prop) → Nat → Prop
  | [], _ => False
  | F :: Fs, k => F k ∨ U Fs k
theorem U.mem {k : Nat} : ∀ {Fs : List (Nat → Prop)}, U Fs k ↔ ∃ F ∈ Fs, F k
  | [] => by simp [U]
  | F :: Fs => by simp [U, U.mem (Fs := Fs)]
def RsOf (Fs : List (Nat → Prop)) (s : Nat) : World → World → Prop := Only (U (Fs.drop s))
def WdOf (Fs : List (Nat → Prop)) (w0 : World) (t : Nat) : World → Prop := Only (U (Fs.take t)) w0
section
variable {P : Program} {all : List Oper} {Q : Exit → Env → World → Prop} {Fs : List (Nat → Prop)} {mu : List Nat} {w0 : World} {F : Known → Prop} {o : Oper} {l : List Oper} {kn : Known} {d i : Nat}
theorem WDS.mf (t s : Nat) (φ : Value → World → Prop) (hm : Mono (RsOf Fs s) φ) (hs : stOk all mu i s = true) (hd : o.dst = some d) (hi : mu[t]? = some i) {Ft : Nat → Prop} (hF : Fs[t]? = some Ft)
    (h : ∀ e w, Only (U Fs) w0 w → Only (U (Fs.take t)) w0 w → Holds kn (rds all o) e w → SGX P all e o w (fun v w' => φ v w' ∧ Only Ft w w') (fun ch w' => Q (.panic ch) e w')) (k : WDS P all Q (RsOf Fs) (WdOf Fs w0) mu w0 F l (i + 1) ((d, φ) :: kn)) : WDS P all Q (RsOf Fs) (WdOf Fs w0) mu w0 F (o :: l) i kn := by
  refine WDS.m t s φ hm hs hd hi (fun e w hR hW hk => ?_) k
  have h1 := h e w hR hW hk
  have ht : t < Fs.length := (List.getElem?_eq_some_iff.1 hF).1
  have key : ∀ v w', (φ v w' ∧ Only Ft w w') → φ v w' ∧ RsOf Fs t w w' ∧ WdOf Fs w0 (t + 1) w' := by
    rintro v w' ⟨h2, h3⟩
    refine ⟨h2, h3.mono (fun k _ hk => U.mem.2 ⟨Ft, List.mem_of_getElem? (i := 0) (by rw [List.getElem?_drop]; simpa using hF), hk⟩), ?_⟩
    refine hW.trans' h3 (fun k hk => ?_) (fun k _ hk => ?_)
    · obtain ⟨G, hG, hk⟩ := U.mem.1 hk
      obtain ⟨j, hj⟩ := List.getElem?_of_mem hG
      refine U.mem.2 ⟨G, ?_, hk⟩
      have hjt : j < t := by
        have := (List.getElem?_eq_some_iff.1 hj).1
        simp at this; omega
      rw [List.getElem?_take, if_pos hjt] at hj
      exact List.mem_of_getElem? (i := j) (by rw [List.getElem?_take, if_pos (by omega)]; exact hj)
    · exact U.mem.2 ⟨Ft, List.mem_of_getElem? (i := t) (by rw [List.getElem?_take, if_pos (by omega)]; exact hF), hk⟩
  intro D n a ha
  have h2 := h1 D n a ha
  split
  · rename_i hw
    rw [if_pos hw] at h2
    exact h2.mono key (fun _ _ h => h)
  · rename_i hw
    rw [if_neg hw] at h2
    exact key _ _ h2
end
theorem W.drawF {P : Program} {Q : Exit → Env → World → Prop} {n : Nat} {e : Env} {w : World} {id : Nat} {l : List Oper} (m : Nat) (mu : List Nat) (Fs : List (Nat → Prop)) (kn : Known) (hm : P.follows .mixedOrders = true) (hok : drawOkT l m (kn.map Prod.fst) n = true) (hmuOk : muOk l m mu = true)
    (hmono' : MonoAll (RsOf Fs 0) kn) (h0 : HoldsAll kn e w.drew)
    (h : WDS P l Q (RsOf Fs) (WdOf Fs w.drew) mu w.drew (fun KN => ∀ e' w', Only (U Fs) w.drew w' → HoldsAll KN e' w' → WL P l (l.drop m) Q n e' w') (l.take m) 0 kn) : W P (.region id l.toArray true) Q n e w := by
  refine W.drawC m mu (RsOf Fs) (WdOf Fs w.drew) kn hm hok hmuOk (fun s a b h => h.mono (fun _ _ h => h.elim)) (fun s a b h => h.mono (fun k _ hk => ?_)) (fun a b c h k => Only.trans h k) (fun t a b h k => Only.ext h k) (Only.refl _ _) hmono' h0 ?_
  · obtain ⟨G, hG, hk⟩ := U.mem.1 hk
    refine U.mem.2 ⟨G, ?_, hk⟩
    obtain ⟨j, hj⟩ := List.getElem?_of_mem hG
    rw [List.getElem?_drop] at hj
    exact List.mem_of_getElem? (i := j + 1) (by rw [List.getElem?_drop, show s + (j + 1) = s + 1 + j by omega]; exact hj)
  · have key : ∀ (l' : List Oper) (i : Nat) (kn' : Known), WDS P l Q (RsOf Fs) (WdOf Fs w.drew) mu w.drew (fun KN => ∀ e' w', Only (U Fs) w.drew w' → HoldsAll KN e' w' → WL P l (l.drop m) Q n e' w') l' i kn' →
        WDS P l Q (RsOf Fs) (WdOf Fs w.drew) mu w.drew (fun KN => ∀ e' w', RsOf Fs 0 w.drew w' → WdOf Fs w.drew mu.length w' → HoldsAll KN e' w' → WL P l (l.drop m) Q n e' w') l' i kn' := by
      intro l'
      induction l' with
      | nil => intro i kn' h e' w' h1 _ h3; exact h e' w' h1 h3
      | cons o l' ih =>
        rintro i kn' ⟨d, φ, s, h1, h2, h3, h4, h5⟩
        exact ⟨d, φ, s, h1, h2, h3, h4, ih _ _ h5⟩
    exact key _ _ _ h

/-! ### interface values, function values, slices with their capacity -/
section
variable {P : Program} {e : Env} {w : World} {K : Value → World → Prop} {ty : TypeId}
theorem o_mkI {x : Operand} {t : TypeId} {d : TypeDesc} {s bs : Nat} {z v : Value} (ht : Ty P t d s bs z) (hd : (match d with | .interface _ => false | _ => true) = true) (hx : ev e x = v) (k : K (.iface t v) w) : OP P e (.makeInterface t x) ty w K := by
  refine OP.of ?_ k
  cases d <;> first | (cases hd; done) | simp [execOp, Instr.makeInterface, ht.run_und, hx]
theorem o_mkF {fn : Fn} {caps : List Operand} {vs : List Value} (hc : caps.map (ev e) = vs) (k : K (.func fn #[] vs.toArray) w) : OP P e (.makeFunc fn #[] caps.toArray) ty w K := by
  subst hc
  exact OP.of (by simp [execOp, Instr.makeFunc]) k
/-- 'x, ok := y.(T)' at a type that is no interface: it holds -/
theorem o_taT {x : Operand} {t u : TypeId} {d : TypeDesc} {s bs : Nat} {z v : Value} (hu : Ty P u d s bs z) (hd : (match d with | .interface _ => false | _ => true) = true) (hx : ev e x = .iface u v) (k : K (.tuple #[v, .bool true]) w) : OP P e (.typeAssert x t u true) ty w K := by
  refine OP.of ?_ k
  cases d <;> first | (cases hd; done) | simp [execOp, Instr.typeAssert, hu.run_und, hx]
theorem o_eqIN {x y : Operand} {t u T : TypeId} {b : Value} {ms : Array (String × TypeId)} (hu : P.underlying t = some (.interface ms)) (hx : ev e x = .iface T b) (hy : ev e y = .nilIface) (k : K (.bool false) w) : OP P e (.binOp .eql t x y u) ty w K := by
  obtain ⟨d, hd⟩ := equal_d t (.iface T b) .nilIface
  refine OP.of ?_ k
  simp [execOp, eqGuard, binOp, hx, hy, hd, Op.equalIn, run_underlying hu]
theorem o_eqNN {x : Operand} {t u : TypeId} {ms : Array (String × TypeId)} (hu : P.underlying t = some (.interface ms)) (hx : ev e x = .nilIface) (k : K (.bool true) w) : OP P e (.binOp .eql t x (.const .nilIface) u) ty w K := by
  obtain ⟨d, hd⟩ := equal_d t .nilIface .nilIface
  refine OP.of ?_ k
  have hy : ev e (.const .nilIface) = .nilIface := rfl
  simp [execOp, eqGuard, binOp, hx, hy, hd, Op.equalIn, run_underlying hu]
/-- 's[:len(s):len(s)]' -/
theorem o_clip {x y z : Operand} {t el : TypeId} {s bs s' bs' n c : Nat} {z1 z2 : Value} {d' : TypeDesc} {a : Option Addr} {k1 k2 : IntKind} (ht : Ty P t (.slice el) s bs z1) (hel : Ty P el d' s' bs' z2) (hx : ev e x = .slice a n c) (hy : ev e y = .int k1 (n : Int)) (hz : ev e z = .int k2 (n : Int)) (hnc : n ≤ c)
    (k : K (.slice a n n) w) : OP P e (.slice t x none (some y) (some z)) ty w K := by
  refine OP.of ?_ k
  have h0 : ∀ a : Option Addr, a.map (fun x => x.add (0 * s')) = a := fun a => by cases a <;> simp [Addr.add]
  simp [execOp, Instr.sliceAt, Instr.slice, ht.run_und, hx, Instr.sliceBounds, hy, hz, bound_run hnc, bound_run (Nat.le_refl n), hel.run_size]
  intro _
  have := h0 a
  simpa using this
end
end Go.Vc
