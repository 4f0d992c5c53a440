/-
  Regions that draw their order and hold calls that make memory: a fact for each slot, stable under what other operations may do; each operation once, in the order of the text.
-/
import Derived.Test.YtcljkkfpcomdcaaTail
set_option linter.unusedSimpArgs false
set_option linter.unusedVariables false
namespace Go.Vc
open Go Go.RowKit
variable {D : List Deferred}

abbrev Known := List (Nat × (Value → World → Prop))
def rds (all : List Oper) (o : Oper) : List Nat := o.looksAt all.toArray
def Holds : Known → List Nat → Env → World → Prop
  | [], _, _, _ => True
  | (d, φ) :: kn, S, e, w => match S.contains d with
    | true => φ (e d) w ∧ Holds kn S e w
    | false => Holds kn S e w
def HoldsAll : Known → Env → World → Prop
  | [], _, _ => True
  | (d, φ) :: kn, e, w => φ (e d) w ∧ HoldsAll kn e w
theorem Holds.of {S : List Nat} {e : Env} {w : World} : ∀ {kn : Known}, (∀ x ∈ kn, x.1 ∈ S → x.2 (e x.1) w) → Holds kn S e w
  | [], _ => trivial
  | (d, φ) :: kn, h => by
    unfold Holds
    have ih := Holds.of (kn := kn) (fun x hx hs => h x (List.mem_cons_of_mem _ hx) hs)
    split
    · rename_i hc
      exact ⟨h (d, φ) (List.mem_cons_self ..) (by simpa using hc), ih⟩
    · exact ih
theorem HoldsAll.of {e : Env} {w : World} : ∀ {kn : Known}, (∀ x ∈ kn, x.2 (e x.1) w) → HoldsAll kn e w
  | [], _ => trivial
  | (d, φ) :: kn, h => ⟨h (d, φ) (List.mem_cons_self ..), HoldsAll.of (kn := kn) (fun x hx => h x (List.mem_cons_of_mem _ hx))⟩
theorem HoldsAll.mem {e : Env} {w : World} : ∀ {kn : Known}, HoldsAll kn e w → ∀ x ∈ kn, x.2 (e x.1) w
  | [], _, x, hx => by cases hx
  | (d, φ) :: kn, h, x, hx => by
    rcases List.mem_cons.1 hx with rfl | hx
    · exact h.1
    · exact h.2.mem x hx

/-- An operation under its guard. -/
def SG (P : Program) (all : List Oper) (e : Env) (o : Oper) (w : World) (K : Value → World → Prop) : Prop :=
  ∀ D n a, Rel D n a e → if Region.wanted o (yielded all.toArray a.tmps) then OP P e o.op o.type w K else K undef w
section
variable {P : Program} {all : List Oper} {e : Env} {w : World} {K : Value → World → Prop} {op : Op} {ty : TypeId} {dst : Option Nat} {pos : String} {after : Array Edge}
theorem SG.n (h : OP P e op ty w K) : SG P all e ⟨dst, op, ty, pos, after, none⟩ w K := fun D n a ha => by
  rw [if_pos (by simp [Region.wanted])]; exact h
theorem SG.g {j : Nat} {b b' : Bool} (hg : gbool e all j = .bool b') (hb : b' = b) (h : OP P e op ty w K) : SG P all e ⟨dst, op, ty, pos, after, some (j, b)⟩ w K := fun D n a ha => by
  rw [if_pos (by simp [Region.wanted, yielded_of ha hg, hb])]; exact h
theorem SG.s {j : Nat} {b b' : Bool} (hg : gbool e all j = .bool b') (hb : b' = !b) (h : K undef w) : SG P all e ⟨dst, op, ty, pos, after, some (j, b)⟩ w K := fun D n a ha => by
  rw [if_neg (by subst hb; simp [Region.wanted, yielded_of ha hg])]; exact h
theorem SG.z {j : Nat} {b : Bool} (hg : gbool e all j = undef) (h : K undef w) : SG P all e ⟨dst, op, ty, pos, after, some (j, b)⟩ w K := fun D n a ha => by
  rw [if_neg (by simp [Region.wanted, yielded_undef ha hg])]; exact h
end

def Mono (R : World → World → Prop) (φ : Value → World → Prop) : Prop := ∀ v w w', R w w' → φ v w → φ v w'

def MonoAll (R : World → World → Prop) : Known → Prop
  | [] => True
  | x :: l => Mono R x.2 ∧ MonoAll R l
theorem MonoAll.mem {R : World → World → Prop} : ∀ {kn : Known}, MonoAll R kn → ∀ x ∈ kn, Mono R x.2
  | [], _, x, hx => by cases hx
  | y :: kn, h, x, hx => by
    rcases List.mem_cons.1 hx with rfl | hx
    · exact h.1
    · exact h.2.mem x hx
theorem Mono.eq {R : World → World → Prop} {V : Value} : Mono R (fun v _ => v = V) := fun _ _ _ _ h => h
def WD (P : Program) (all : List Oper) (R : World → World → Prop) (w0 : World) (F : Known → Prop) : List Oper → Known → Prop
  | [], kn => F kn
  | o :: l, kn => ∃ d φ, o.dst = some d ∧ Mono R φ ∧ (∀ e w, R w0 w → Holds kn (rds all o) e w → SG P all e o w (fun v w' => φ v w' ∧ R w w')) ∧ WD P all R w0 F l ((d, φ) :: kn)

section
variable {P : Program} {all : List Oper} {R : World → World → Prop} {w0 : World} {F : Known → Prop} {o : Oper} {l : List Oper} {kn : Known} {d : Nat}
theorem WD.p {V : Value} (hd : o.dst = some d) (h : ∀ e w, R w0 w → Holds kn (rds all o) e w → SG P all e o w (fun v w' => v = V ∧ R w w')) (k : WD P all R w0 F l ((d, fun v _ => v = V) :: kn)) : WD P all R w0 F (o :: l) kn :=
  ⟨d, fun v _ => v = V, hd, fun _ _ _ _ h => h, h, k⟩
theorem WD.q (φ : Value → World → Prop) (hm : Mono R φ) (hd : o.dst = some d) (h : ∀ e w, R w0 w → Holds kn (rds all o) e w → SG P all e o w (fun v w' => φ v w' ∧ R w w')) (k : WD P all R w0 F l ((d, φ) :: kn)) : WD P all R w0 F (o :: l) kn :=
  ⟨d, φ, hd, hm, h, k⟩

theorem WD.unroll : ∀ (l : List Oper) (kn : Known), WD P all R w0 F l kn → ∃ KN : Known, F KN ∧ (∀ x ∈ kn, x ∈ KN) ∧ KN.map Prod.fst = ((l.map fun o => o.dst.getD 0).reverse ++ kn.map Prod.fst) ∧ (∀ x ∈ KN, x ∈ kn ∨ (Mono R x.2 ∧ ∃ o ∈ l, o.dst = some x.1)) ∧
    ∀ o ∈ l, ∃ d φ, o.dst = some d ∧ (d, φ) ∈ KN ∧ ∀ e w, R w0 w → (∀ x ∈ KN, x.1 ∈ rds all o → x.2 (e x.1) w) → SG P all e o w (fun v w' => φ v w' ∧ R w w')
  | [], kn, h => ⟨kn, h, fun _ h => h, by simp, fun _ h => .inl h, fun o ho => by cases ho⟩
  | o :: l, kn, h => by
    obtain ⟨d, φ, hd, hm, hs, hk⟩ := h
    obtain ⟨KN, h1, h2, h3, h4, h5⟩ := WD.unroll l _ hk
    refine ⟨KN, h1, fun x hx => h2 x (List.mem_cons_of_mem _ hx), ?_, fun x hx => ?_, fun o' ho' => ?_⟩
    · rw [h3]; simp [hd]
    · rcases h4 x hx with hx' | ⟨h, o', ho', h'⟩
      · rcases List.mem_cons.1 hx' with rfl | hx'
        · exact .inr ⟨hm, o, List.mem_cons_self .., hd⟩
        · exact .inl hx'
      · exact .inr ⟨h, o', List.mem_cons_of_mem _ ho', h'⟩
    · rcases List.mem_cons.1 ho' with rfl | ho'
      · exact ⟨d, φ, hd, h2 _ (List.mem_cons_self ..), fun e w hR hx => hs e w hR (Holds.of fun x hx' hs' => hx x (h2 x (List.mem_cons_of_mem _ hx')) hs')⟩
      · exact h5 o' ho'
end

/-- What is asked of the region's text: no slot is written twice, nor one of those that come in; whoever reads a slot waits for its writer; edges point back. -/
def drawOk (all : List Oper) (ins : List Nat) (n : Nat) : Bool :=
  decide ((all.map fun o => o.dst.getD 0).reverse ++ ins).Nodup &&
  all.all (fun o => o.dst.isSome && Nat.blt (o.dst.getD 0) n) &&
  all.zipIdx.all (fun (o, i) => o.after.toList.all (fun e => !Region.binds .any e || Nat.blt e.on i) &&
    all.zipIdx.all (fun (p, j) => !(rds all o).contains (p.dst.getD 0) || o.after.toList.any (fun e => Region.binds .any e && e.on == j)))

theorem nodup_inj {KN : Known} (h : (KN.map Prod.fst).Nodup) : ∀ x ∈ KN, ∀ y ∈ KN, x.1 = y.1 → x = y := by
  induction KN with
  | nil => intro x hx; cases hx
  | cons a KN ih =>
    simp only [List.map_cons, List.nodup_cons] at h
    intro x hx y hy hxy
    rcases List.mem_cons.1 hx with h1 | h1 <;> rcases List.mem_cons.1 hy with h2 | h2
    · rw [h1, h2]
    · subst h1; exact absurd (List.mem_map.2 ⟨y, h2, hxy.symm⟩) h.1
    · subst h2; exact absurd (List.mem_map.2 ⟨x, h1, hxy⟩) h.1
    · exact ih h.2 x h1 y h2 hxy

theorem all_listed {all : List Oper} {listed : Array Bool} (hsz : listed.size = all.length) (hb : ∀ (i : Nat) o, all[i]? = some o → ∀ e ∈ o.after.toList, Region.binds .any e = true → e.on < i)
    (hr : Region.ready .any all.toArray listed = []) : ∀ i, i < all.length → listed.getD i true = true := by
  intro i
  induction i using Nat.strongRecOn with
  | _ i ih =>
    intro hi
    cases hl : listed.getD i true with
    | true => rfl
    | false =>
      exfalso
      have hmem : i ∈ Region.ready .any all.toArray listed := by
        unfold Region.ready
        simp only [List.mem_filter, List.mem_range, List.size_toArray, hi, true_and, hl, Bool.not_false, Bool.true_and, List.getElem?_toArray]
        rw [List.getElem?_eq_getElem hi]
        simp only [Option.map_some, Option.getD_some]
        rw [Array.all_eq_true']
        intro e he
        cases hbi : Region.binds .any e with
        | false => simp
        | true =>
          have hlt := hb i _ (List.getElem?_eq_getElem hi) e (by simpa using he) hbi
          have := ih e.on hlt (by omega)
          simp only [Bool.not_true, Bool.false_or]
          have h2 : e.on < listed.size := by omega
          simpa [Array.getD, h2] using this
      rw [hr] at hmem
      cases hmem

theorem W.draw {P : Program} {Q : Exit → Env → World → Prop} {n : Nat} {e : Env} {w : World} {id : Nat} {l : List Oper} (R : World → World → Prop) (kn : Known) (hm : P.follows .mixedOrders = true) (hok : drawOk l (kn.map Prod.fst) n = true)
    (hrefl : ∀ w, R w w) (htrans : ∀ a b c, R a b → R b c → R a c) (hmono' : MonoAll R kn) (h0 : HoldsAll kn e w.drew)
    (h : WD P l R w.drew (fun KN => ∀ e' w', R w.drew w' → HoldsAll KN e' w' → Q .normal e' w') l kn) : W P (.region id l.toArray true) Q n e w := by
  have hmono := hmono'.mem
  obtain ⟨KN, hF, hsub, hfst, hor, hstep⟩ := WD.unroll l kn h
  simp only [drawOk, Bool.and_eq_true, decide_eq_true_eq, List.all_eq_true] at hok
  obtain ⟨⟨hnd, hdst⟩, hedge⟩ := hok
  have hnd' : (KN.map Prod.fst).Nodup := by rw [hfst]; exact hnd
  have hinj := nodup_inj hnd'
  have hmonoK : ∀ x ∈ KN, Mono R x.2 := fun x hx => by
    rcases hor x hx with hx | ⟨hm, _⟩
    · exact hmono x hx
    · exact hm
  have hback : ∀ (i : Nat) o, l[i]? = some o → ∀ e ∈ o.after.toList, Region.binds .any e = true → e.on < i := by
    intro i o ho e he hb
    have := (hedge (o, i) (List.mem_zipIdx_iff_getElem?.2 ho)).1 e he
    rw [hb] at this
    simpa using this
  have hwait : ∀ (i j : Nat) o p, l[i]? = some o → l[j]? = some p → p.dst.getD 0 ∈ rds l o → ∃ e ∈ o.after.toList, Region.binds .any e = true ∧ e.on = j := by
    intro i j o p ho hp hin
    have := (hedge (o, i) (List.mem_zipIdx_iff_getElem?.2 ho)).2 (p, j) (List.mem_zipIdx_iff_getElem?.2 hp)
    simp only [Bool.or_eq_true, Bool.not_eq_true', List.any_eq_true, Bool.and_eq_true, beq_iff_eq] at this
    rcases this with h | ⟨e, he, hb, hj⟩
    · simp only [List.contains_eq_mem, decide_eq_false_iff_not] at h; exact absurd hin h
    · exact ⟨e, he, hb, hj⟩
  refine ⟨fun D a ha => wp_region_any hm ?_⟩
  -- the invariant
  have main : ∀ (fuel : Nat) (listed : Array Bool) (a : Act) (w' : World) (e' : Env), listed.size = l.length → (∀ i, listed.getD i true = false → i < l.length) → (l.length ≤ fuel + (List.range l.length).countP (fun i => listed.getD i true)) → Rel D n a e' → R w.drew w' →
      (∀ x ∈ KN, (x ∈ kn ∨ ∃ j o, l[j]? = some o ∧ o.dst = some x.1 ∧ listed.getD j false = true) → x.2 (e' x.1) w') →
      wpAny P .any l.toArray (lift D n Q) fuel listed a w' := by
    intro fuel
    have fin : ∀ (listed : Array Bool) (a : Act) (w' : World) (e' : Env), listed.size = l.length → Rel D n a e' → R w.drew w' → (∀ x ∈ KN, (x ∈ kn ∨ ∃ j o, l[j]? = some o ∧ o.dst = some x.1 ∧ listed.getD j false = true) → x.2 (e' x.1) w') → (∀ i, i < l.length → listed.getD i true = true) → lift D n Q .normal a w' := by
      intro listed a w' e' hsz hr hR hx hall
      refine ⟨e', hr, hF e' w' hR (HoldsAll.of fun x hxm => hx x hxm ?_)⟩
      rcases hor x hxm with h | ⟨_, o, ho, hd⟩
      · exact .inl h
      · obtain ⟨j, hj⟩ := List.getElem?_of_mem ho
        have hjl : j < l.length := (List.getElem?_eq_some_iff.1 hj).1
        refine .inr ⟨j, o, hj, hd, ?_⟩
        have := hall j hjl
        have h2 : j < listed.size := by omega
        simpa [Array.getD, h2] using this
    induction fuel with
    | zero =>
      intro listed a w' e' hsz hin hcnt hr hR hx
      have hall : ∀ i, i < l.length → listed.getD i true = true := by
        intro i hi
        have hle := List.countP_le_length (p := fun i => listed.getD i true) (l := List.range l.length)
        have heq : (List.range l.length).countP (fun i => listed.getD i true) = (List.range l.length).length := by simp at hle ⊢; simp at hcnt; omega
        exact List.countP_eq_length.1 heq i (List.mem_range.2 hi)
      refine ⟨?_, fin listed a w' e' hsz hr hR hx hall⟩
      unfold Region.ready
      rw [List.filter_eq_nil_iff]
      intro i hi
      have hi' : i < l.length := by simpa using hi
      rw [hall i hi']
      simp
    | succ fuel ih =>
      intro listed a w' e' hsz hin hcnt hr hR hx
      refine ⟨fun hre => fin listed a w' e' hsz hr hR hx (all_listed hsz hback hre), fun i hi => ?_⟩
      obtain ⟨hiu, oi, hoi, hall⟩ := mem_ready.1 hi
      have hoi' : l[i]? = some oi := by simpa using hoi
      have hil : i < l.length := (List.getElem?_eq_some_iff.1 hoi').1
      obtain ⟨d, φ, hd, hmem, hs⟩ := hstep oi (List.mem_of_getElem? hoi')
      have hdn := (hdst oi (List.mem_of_getElem? hoi'))
      have hdn : Nat.blt d n = true := by simpa [hd] using hdn.2
      have hpre : ∀ x ∈ KN, x.1 ∈ rds l oi → x.2 (e' x.1) w' := by
        intro x hxm hxr
        refine hx x hxm ?_
        rcases hor x hxm with h | ⟨_, o, ho, hdo⟩
        · exact .inl h
        · obtain ⟨j, hj⟩ := List.getElem?_of_mem ho
          obtain ⟨ed, hed, hb, hej⟩ := hwait i j oi o hoi' hj (by rw [hdo]; exact hxr)
          refine .inr ⟨j, o, hj, hdo, ?_⟩
          have := hall ed (by simpa using hed) hb
          rw [hej] at this
          exact this
      have hsg := hs e' w' hR hpre _ n a hr
      have next : ∀ v w2, φ v w2 ∧ R w' w2 → wpAny P .any l.toArray (lift D n Q) fuel (listed.setIfInBounds i true) (a.put oi.dst v) w2 := by
        rintro v w2 ⟨hφ, hR2⟩
        rw [hd]
        refine ih _ _ _ (upd e' d v) (by simpa using hsz) (fun k hk => ?_) ?_ (hr.put hdn v) (htrans _ _ _ hR hR2) ?_
        · refine hin k ?_
          by_cases hki : k = i
          · subst hki; exact hiu
          · rw [Array.getD_eq_getD_getElem?, Array.getElem?_setIfInBounds_ne (by omega)] at hk
            rw [Array.getD_eq_getD_getElem?]; exact hk
        · have hcount : (List.range l.length).countP (fun k => listed.getD k true) + 1 ≤ (List.range l.length).countP (fun k => (listed.setIfInBounds i true).getD k true) := by
            have key : ∀ (r : List Nat), r.Nodup → i ∈ r → r.countP (fun k => listed.getD k true) + 1 ≤ r.countP (fun k => (listed.setIfInBounds i true).getD k true) := by
              intro r
              induction r with
              | nil => intro _ h; cases h
              | cons k r ihr =>
                intro hn hmem
                simp only [List.nodup_cons] at hn
                rw [List.countP_cons, List.countP_cons]
                by_cases hki : k = i
                · subst hki
                  have e1 : listed.getD k true = false := hiu
                  have e2 : (listed.setIfInBounds k true).getD k true = true := by
                    rw [Array.getD_eq_getD_getElem?, Array.getElem?_setIfInBounds]; simp; split <;> rfl
                  rw [e1, e2]
                  have : r.countP (fun k => listed.getD k true) ≤ r.countP (fun k' => (listed.setIfInBounds k true).getD k' true) := by
                    refine List.countP_mono_left fun k' hk' => ?_
                    intro h
                    by_cases hkk : k' = k
                    · subst hkk; exact absurd hk' hn.1
                    · rw [Array.getD_eq_getD_getElem?, Array.getElem?_setIfInBounds_ne (by omega)]
                      rw [Array.getD_eq_getD_getElem?] at h; exact h
                  rw [if_neg (by decide), if_pos rfl]; omega
                · have e1 : (listed.setIfInBounds i true).getD k true = listed.getD k true := by
                    rw [Array.getD_eq_getD_getElem?, Array.getElem?_setIfInBounds_ne (by omega), Array.getD_eq_getD_getElem?]
                  have := ihr hn.2 (by rcases List.mem_cons.1 hmem with h | h; exact absurd h.symm hki; exact h)
                  rw [e1]; omega
            exact key _ List.nodup_range (List.mem_range.2 hil)
          omega
        · intro x hxm hcond
          by_cases hxd : x.1 = d
          · have := hinj x hxm (d, φ) hmem hxd
            subst this
            simp only [upd]
            rw [show Nat.beq d d = true from Nat.beq_refl d]
            exact hφ
          · have hnb : Nat.beq x.1 d = false := beq_false hxd
            simp only [upd, hnb]
            refine hmonoK x hxm _ _ _ hR2 (hx x hxm ?_)
            rcases hcond with h | ⟨j, o, hj, hdo, hl⟩
            · exact .inl h
            · refine .inr ⟨j, o, hj, hdo, ?_⟩
              have hji : j ≠ i := by
                intro hji
                subst hji
                rw [hj] at hoi'
                simp only [Option.some.injEq] at hoi'
                subst hoi'
                rw [hdo] at hd
                simp only [Option.some.injEq] at hd
                exact hxd hd
              rw [Array.getD_eq_getD_getElem?, Array.getElem?_setIfInBounds_ne (by omega)] at hl
              rw [Array.getD_eq_getD_getElem?]; exact hl
      unfold wpOp
      rw [hoi]
      show (if Region.wanted oi (yielded l.toArray a.tmps) = true then _ else _)
      split
      · rename_i hw
        rw [if_pos hw] at hsg
        exact .inl (OP.wp hr.ev (hsg.mono next))
      · rename_i hw
        rw [if_neg hw] at hsg
        exact next undef w' hsg
  refine main _ _ a w.drew e (by simp) (fun i hi => ?_) (by simp) ha (hrefl _) (fun x hxm hc => ?_)
  · rw [Array.getD_eq_getD_getElem?, Array.getElem?_replicate] at hi
    split at hi
    · rename_i h; simpa using h
    · simp at hi
  · rcases hc with h | ⟨j, o, hj, hdo, hl⟩
    · exact h0.mem x h
    · rw [Array.getD_eq_getD_getElem?, Array.getElem?_replicate] at hl
      split at hl <;> simp at hl
end Go.Vc
