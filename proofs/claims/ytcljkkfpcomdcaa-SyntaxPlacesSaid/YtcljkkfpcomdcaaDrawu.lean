/-
  Regions that draw their order: a head in any order, one operation that waits for all of it, and the rest, which waits for that one, in any order.
-/
import Derived.Test.YtcljkkfpcomdcaaDrawt
set_option linter.unusedSimpArgs false
set_option linter.unusedVariables false
namespace Go.Vc
open Go Go.RowKit
variable {D : List Deferred}

theorem cnt_ge (L m : Nat) (p : Nat → Bool) (h : ∀ k, k < L → k < m → p k = true) : min L m ≤ (List.range L).countP p := by
  have gen : ∀ L, (∀ k, k < L → k < m → p k = true) → min L m ≤ (List.range L).countP p := by
    intro L
    induction L with
    | zero => intro _; simp
    | succ L ih =>
      intro h
      have h1 := ih (fun k hk => h k (by omega))
      rw [List.range_succ, List.countP_append]
      by_cases hp : L < m
      · have := h L (by omega) hp
        simp [this]; omega
      · omega
  exact gen L h
/-- the operations behind the first m: all of them, in whatever order -/
def Rest (P : Program) (l : List Oper) (Q : Exit → Env → World → Prop) (n m : Nat) (e : Env) (w : World) : Prop :=
  ∀ D a, Rel D n a e → ∀ fuel, l.length - m ≤ fuel → wpAny P .any l.toArray (lift D n Q) fuel (List.replicate m true ++ List.replicate (l.length - m) false).toArray a w
def drawOkR (all : List Oper) (m : Nat) (ins : List Nat) (n : Nat) : Bool :=
  decide (((all.drop m).map fun o => o.dst.getD 0).reverse ++ ins).Nodup &&
  (all.drop m).all (fun o => o.dst.isSome && Nat.blt (o.dst.getD 0) n) &&
  all.zipIdx.all (fun (o, i) => o.after.toList.all (fun e => !Region.binds .any e || Nat.blt e.on i)) &&
  ((all.drop m).zipIdx m).all (fun (o, i) => ((all.drop m).zipIdx m).all (fun (p, j) => !(rds all o).contains (p.dst.getD 0) || o.after.toList.any (fun e => Region.binds .any e && e.on == j))) &&
  decide (m ≤ all.length)
theorem Rest.draw {P : Program} {Q : Exit → Env → World → Prop} {n m : Nat} {e : Env} {w0 : World} {l : List Oper} (R : World → World → Prop) (kn : Known) (hok : drawOkR l m (kn.map Prod.fst) n = true)
    (hrefl : ∀ w, R w w) (htrans : ∀ a b c, R a b → R b c → R a c) (hmono' : MonoAll R kn) (h0 : HoldsAll kn e w0)
    (h : WD P l R w0 (fun KN => ∀ e' w', R w0 w' → HoldsAll KN e' w' → Q .normal e' w') (l.drop m) kn) : Rest P l Q n m e w0 := by
  have hmono := hmono'.mem
  obtain ⟨KN, hF, hsub, hfst, hor, hstep⟩ := WD.unroll (l.drop m) kn h
  simp only [drawOkR, Bool.and_eq_true, decide_eq_true_eq, List.all_eq_true] at hok
  obtain ⟨⟨⟨⟨hnd, hdst⟩, hedge⟩, hwt⟩, hml⟩ := hok
  have hnd' : (KN.map Prod.fst).Nodup := by rw [hfst]; exact hnd
  have hinj := nodup_inj hnd'
  have hmonoK : ∀ x ∈ KN, Mono R x.2 := fun x hx => by
    rcases hor x hx with hx | ⟨hm, _⟩
    · exact hmono x hx
    · exact hm
  have hback : ∀ (i : Nat) o, l[i]? = some o → ∀ e ∈ o.after.toList, Region.binds .any e = true → e.on < i := by
    intro i o ho e he hb
    have := (hedge (o, i) (List.mem_zipIdx_iff_getElem?.2 ho)) e he
    rw [hb] at this
    simpa using this
  have hmz : ∀ (i : Nat) o, m ≤ i → l[i]? = some o → (o, i) ∈ (l.drop m).zipIdx m := by
    intro i o hi ho
    rw [List.mem_zipIdx_iff_le_and_getElem?_sub]
    refine ⟨hi, ?_⟩
    rw [List.getElem?_drop, show m + (i - m) = i by omega]; exact ho
  have hwait : ∀ (i j : Nat) o p, m ≤ i → m ≤ j → l[i]? = some o → l[j]? = some p → p.dst.getD 0 ∈ rds l o → ∃ e ∈ o.after.toList, Region.binds .any e = true ∧ e.on = j := by
    intro i j o p hi hj ho hp hin
    have := (hwt (o, i) (hmz i o hi ho)) (p, j) (hmz j p hj hp)
    simp only [Bool.or_eq_true, Bool.not_eq_true', List.any_eq_true, Bool.and_eq_true, beq_iff_eq] at this
    rcases this with h | ⟨e, he, hb, hj⟩
    · simp only [List.contains_eq_mem, decide_eq_false_iff_not] at h; exact absurd hin h
    · exact ⟨e, he, hb, hj⟩
  intro D
  -- the invariant
  have main : ∀ (fuel : Nat) (listed : Array Bool) (a : Act) (w' : World) (e' : Env), listed.size = l.length → (∀ i, listed.getD i true = false → i < l.length) → (∀ i, i < m → listed.getD i true = true) → (l.length ≤ fuel + (List.range l.length).countP (fun i => listed.getD i true)) → Rel D n a e' → R w0 w' →
      (∀ x ∈ KN, (x ∈ kn ∨ ∃ j o, m ≤ j ∧ l[j]? = some o ∧ o.dst = some x.1 ∧ listed.getD j false = true) → x.2 (e' x.1) w') →
      wpAny P .any l.toArray (lift D n Q) fuel listed a w' := by
    intro fuel
    have fin : ∀ (listed : Array Bool) (a : Act) (w' : World) (e' : Env), listed.size = l.length → Rel D n a e' → R w0 w' → (∀ x ∈ KN, (x ∈ kn ∨ ∃ j o, m ≤ j ∧ l[j]? = some o ∧ o.dst = some x.1 ∧ listed.getD j false = true) → x.2 (e' x.1) w') → (∀ i, i < l.length → listed.getD i true = true) → lift D n Q .normal a w' := by
      intro listed a w' e' hsz hr hR hx hall
      refine ⟨e', hr, hF e' w' hR (HoldsAll.of fun x hxm => hx x hxm ?_)⟩
      rcases hor x hxm with h | ⟨_, o, ho, hd⟩
      · exact .inl h
      · obtain ⟨j0, hj0⟩ := List.getElem?_of_mem ho
        obtain ⟨j, hmj, hj⟩ : ∃ j, m ≤ j ∧ l[j]? = some o := ⟨m + j0, by omega, by rw [List.getElem?_drop] at hj0; exact hj0⟩
        have hjl : j < l.length := (List.getElem?_eq_some_iff.1 hj).1
        refine .inr ⟨j, o, hmj, hj, hd, ?_⟩
        have := hall j hjl
        have h2 : j < listed.size := by omega
        simpa [Array.getD, h2] using this
    induction fuel with
    | zero =>
      intro listed a w' e' hsz hin hfirst hcnt hr hR hx
      have hall : ∀ i, i < l.length → listed.getD i true = true := by
        intro i hi
        have hle := List.countP_le_length (p := fun i => listed.getD i true) (l := List.range l.length)
        have heq : (List.range l.length).countP (fun i => listed.getD i true) = (List.range l.length).length := by simp at hle ⊢; simp at hcnt; omega
        exact List.countP_eq_length.1 heq i (List.mem_range.2 hi)
      refine ⟨?_, fin listed a w' e' hsz hr hR hx hall⟩
      unfold Region.ready
      rw [List.filter_eq_nil_iff]
      intro i hi
      have hi' : i < l.length := by simpa using hi
      rw [hall i hi']
      simp
    | succ fuel ih =>
      intro listed a w' e' hsz hin hfirst hcnt hr hR hx
      refine ⟨fun hre => fin listed a w' e' hsz hr hR hx (all_listed hsz hback hre), fun i hi => ?_⟩
      obtain ⟨hiu, oi, hoi, hall⟩ := mem_ready.1 hi
      have hoi' : l[i]? = some oi := by simpa using hoi
      have hil : i < l.length := (List.getElem?_eq_some_iff.1 hoi').1
      have him : m ≤ i := by
        rcases Nat.lt_or_ge i m with h | h
        · have := hfirst i h; rw [hiu] at this; cases this
        · exact h
      have hmemi : oi ∈ l.drop m := List.mem_of_getElem? (i := i - m) (by rw [List.getElem?_drop, show m + (i - m) = i by omega]; exact hoi')
      obtain ⟨d, φ, hd, hmem, hs⟩ := hstep oi hmemi
      have hdn := (hdst oi hmemi)
      have hdn : Nat.blt d n = true := by simpa [hd] using hdn.2
      have hpre : ∀ x ∈ KN, x.1 ∈ rds l oi → x.2 (e' x.1) w' := by
        intro x hxm hxr
        refine hx x hxm ?_
        rcases hor x hxm with h | ⟨_, o, ho, hdo⟩
        · exact .inl h
        · obtain ⟨j0, hj0⟩ := List.getElem?_of_mem ho
          obtain ⟨j, hmj, hj⟩ : ∃ j, m ≤ j ∧ l[j]? = some o := ⟨m + j0, by omega, by rw [List.getElem?_drop] at hj0; exact hj0⟩
          obtain ⟨ed, hed, hb, hej⟩ := hwait i j oi o him hmj hoi' hj (by rw [hdo]; exact hxr)
          refine .inr ⟨j, o, hmj, hj, hdo, ?_⟩
          have := hall ed (by simpa using hed) hb
          rw [hej] at this
          exact this
      have hsg := hs e' w' hR hpre _ n a hr
      have next : ∀ v w2, φ v w2 ∧ R w' w2 → wpAny P .any l.toArray (lift D n Q) fuel (listed.setIfInBounds i true) (a.put oi.dst v) w2 := by
        rintro v w2 ⟨hφ, hR2⟩
        rw [hd]
        refine ih _ _ _ (upd e' d v) (by simpa using hsz) (fun k hk => ?_) (fun k hk => ?_) ?_ (hr.put hdn v) (htrans _ _ _ hR hR2) ?_
        · refine hin k ?_
          by_cases hki : k = i
          · subst hki; exact hiu
          · rw [Array.getD_eq_getD_getElem?, Array.getElem?_setIfInBounds_ne (by omega)] at hk
            rw [Array.getD_eq_getD_getElem?]; exact hk
        · have h1 := hfirst k hk
          rw [Array.getD_eq_getD_getElem?, Array.getElem?_setIfInBounds_ne (by omega), ← Array.getD_eq_getD_getElem?]
          exact h1
        · have hcount : (List.range l.length).countP (fun k => listed.getD k true) + 1 ≤ (List.range l.length).countP (fun k => (listed.setIfInBounds i true).getD k true) := by
            have key : ∀ (r : List Nat), r.Nodup → i ∈ r → r.countP (fun k => listed.getD k true) + 1 ≤ r.countP (fun k => (listed.setIfInBounds i true).getD k true) := by
              intro r
              induction r with
              | nil => intro _ h; cases h
              | cons k r ihr =>
                intro hn hmem
                simp only [List.nodup_cons] at hn
                rw [List.countP_cons, List.countP_cons]
                by_cases hki : k = i
                · subst hki
                  have e1 : listed.getD k true = false := hiu
                  have e2 : (listed.setIfInBounds k true).getD k true = true := by
                    rw [Array.getD_eq_getD_getElem?, Array.getElem?_setIfInBounds]; simp; split <;> rfl
                  rw [e1, e2]
                  have : r.countP (fun k => listed.getD k true) ≤ r.countP (fun k' => (listed.setIfInBounds k true).getD k' true) := by
                    refine List.countP_mono_left fun k' hk' => ?_
                    intro h
                    by_cases hkk : k' = k
                    · subst hkk; exact absurd hk' hn.1
                    · rw [Array.getD_eq_getD_getElem?, Array.getElem?_setIfInBounds_ne (by omega)]
                      rw [Array.getD_eq_getD_getElem?] at h; exact h
                  rw [if_neg (by decide), if_pos rfl]; omega
                · have e1 : (listed.setIfInBounds i true).getD k true = listed.getD k true := by
                    rw [Array.getD_eq_getD_getElem?, Array.getElem?_setIfInBounds_ne (by omega), Array.getD_eq_getD_getElem?]
                  have := ihr hn.2 (by rcases List.mem_cons.1 hmem with h | h; exact absurd h.symm hki; exact h)
                  rw [e1]; omega
            exact key _ List.nodup_range (List.mem_range.2 hil)
          omega
        · intro x hxm hcond
          by_cases hxd : x.1 = d
          · have := hinj x hxm (d, φ) hmem hxd
            subst this
            simp only [upd]
            rw [show Nat.beq d d = true from Nat.beq_refl d]
            exact hφ
          · have hnb : Nat.beq x.1 d = false := beq_false hxd
            simp only [upd, hnb]
            refine hmonoK x hxm _ _ _ hR2 (hx x hxm ?_)
            rcases hcond with h | ⟨j, o, hmj, hj, hdo, hl⟩
            · exact .inl h
            · refine .inr ⟨j, o, hmj, hj, hdo, ?_⟩
              have hji : j ≠ i := by
                intro hji
                subst hji
                rw [hj] at hoi'
                simp only [Option.some.injEq] at hoi'
                subst hoi'
                rw [hdo] at hd
                simp only [Option.some.injEq] at hd
                exact hxd hd
              rw [Array.getD_eq_getD_getElem?, Array.getElem?_setIfInBounds_ne (by omega)] at hl
              rw [Array.getD_eq_getD_getElem?]; exact hl
      unfold wpOp
      rw [hoi]
      show (if Region.wanted oi (yielded l.toArray a.tmps) = true then _ else _)
      split
      · rename_i hw
        rw [if_pos hw] at hsg
        exact .inl (OP.wp hr.ev (hsg.mono next))
      · rename_i hw
        rw [if_neg hw] at hsg
        exact next undef w' hsg
  intro a ha fuel hfuel
  have hLs : (List.replicate m true ++ List.replicate (l.length - m) false).toArray.size = l.length := by simp; omega
  have hLt : ∀ i, i < m → (List.replicate m true ++ List.replicate (l.length - m) false).toArray.getD i true = true := fun i hi => by
    rw [Array.getD_eq_getD_getElem?, List.getElem?_toArray, List.getElem?_append_left (by simpa using hi), List.getElem?_replicate, if_pos hi]; rfl
  refine main fuel _ a w0 e hLs (fun i hi => ?_) hLt ?_ ha (hrefl _) (fun x hxm hc => ?_)
  · rcases Nat.lt_or_ge i l.length with h | h
    · exact h
    · rw [Array.getD_eq_getD_getElem?, Array.getElem?_eq_none (by rw [hLs]; exact h)] at hi; cases hi
  · have := cnt_ge l.length m (fun i => (List.replicate m true ++ List.replicate (l.length - m) false).toArray.getD i true) (fun k _ hk => hLt k hk)
    omega
  · rcases hc with h | ⟨j, o, hmj, hj, hdo, hl⟩
    · exact h0.mem x h
    · exfalso
      have hjl : j < l.length := (List.getElem?_eq_some_iff.1 hj).1
      rw [Array.getD_eq_getD_getElem?, List.getElem?_toArray, List.getElem?_append_right (by rw [List.length_replicate]; omega), List.getElem?_replicate, List.length_replicate, if_pos (by omega)] at hl
      cases hl
def drawOkM (all : List Oper) (m : Nat) (ins : List Nat) (n : Nat) : Bool :=
  decide (((all.take m).map fun o => o.dst.getD 0).reverse ++ ins).Nodup &&
  (all.take m).all (fun o => o.dst.isSome && Nat.blt (o.dst.getD 0) n) &&
  all.zipIdx.all (fun (o, i) => o.after.toList.all (fun e => !Region.binds .any e || Nat.blt e.on i)) &&
  (all.take m).zipIdx.all (fun (o, i) => (all.take m).zipIdx.all (fun (p, j) => !(rds all o).contains (p.dst.getD 0) || o.after.toList.any (fun e => Region.binds .any e && e.on == j))) &&
  decide (m < all.length) && Region.sinkB .any all.toArray m && (List.range all.length).all (fun t => decide (t ≤ m) || (List.range t).any (fun j => decide (m ≤ j) && Region.waitsFor .any all.toArray t j))
theorem W.drawM {P : Program} {Q : Exit → Env → World → Prop} {n : Nat} {e : Env} {w : World} {id : Nat} {l : List Oper} {o : Oper} {d0 : Nat} (m : Nat) (hom : l[m]? = some o) (hod : o.dst = some d0) (hodn : Nat.blt d0 n = true) (R : World → World → Prop) (kn : Known) (hm : P.follows .mixedOrders = true) (hok : drawOkM l m (kn.map Prod.fst) n = true)
    (hrefl : ∀ w, R w w) (htrans : ∀ a b c, R a b → R b c → R a c) (hmono' : MonoAll R kn) (h0 : HoldsAll kn e w.drew)
    (h : WD P l R w.drew (fun KN => ∀ e' w', R w.drew w' → HoldsAll KN e' w' → SG P l e' o w' (fun v w2 => Rest P l Q n (m + 1) (upd e' d0 v) w2)) (l.take m) kn) : W P (.region id l.toArray true) Q n e w := by
  have hmono := hmono'.mem
  obtain ⟨KN, hF, hsub, hfst, hor, hstep⟩ := WD.unroll (l.take m) kn h
  simp only [drawOkM, Bool.and_eq_true, decide_eq_true_eq, List.all_eq_true] at hok
  obtain ⟨⟨⟨⟨⟨⟨hnd, hdst⟩, hedge⟩, hwt⟩, hml⟩, hsk⟩, hch⟩ := hok
  have hnd' : (KN.map Prod.fst).Nodup := by rw [hfst]; exact hnd
  have hinj := nodup_inj hnd'
  have hmonoK : ∀ x ∈ KN, Mono R x.2 := fun x hx => by
    rcases hor x hx with hx | ⟨hm, _⟩
    · exact hmono x hx
    · exact hm
  have hback : ∀ (i : Nat) o, l[i]? = some o → ∀ e ∈ o.after.toList, Region.binds .any e = true → e.on < i := by
    intro i o ho e he hb
    have := (hedge (o, i) (List.mem_zipIdx_iff_getElem?.2 ho)) e he
    rw [hb] at this
    simpa using this
  have hwait : ∀ (i j : Nat) o p, (l.take m)[i]? = some o → (l.take m)[j]? = some p → p.dst.getD 0 ∈ rds l o → ∃ e ∈ o.after.toList, Region.binds .any e = true ∧ e.on = j := by
    intro i j o p ho hp hin
    have := (hwt (o, i) (List.mem_zipIdx_iff_getElem?.2 ho)) (p, j) (List.mem_zipIdx_iff_getElem?.2 hp)
    simp only [Bool.or_eq_true, Bool.not_eq_true', List.any_eq_true, Bool.and_eq_true, beq_iff_eq] at this
    rcases this with h | ⟨e, he, hb, hj⟩
    · simp only [List.contains_eq_mem, decide_eq_false_iff_not] at h; exact absurd hin h
    · exact ⟨e, he, hb, hj⟩
  have hsink : ∀ k, k < m → ∃ j, k < j ∧ j ≤ m ∧ Region.waitsFor .any l.toArray j k = true := by
    intro k hk
    unfold Region.sinkB at hsk
    rw [List.all_eq_true] at hsk
    have := hsk k (List.mem_range.2 hk)
    rw [List.any_eq_true] at this
    obtain ⟨j, hj, h⟩ := this
    simp only [Bool.and_eq_true, decide_eq_true_eq] at h
    exact ⟨j, h.1, by have := List.mem_range.1 hj; omega, h.2⟩
  have hchain : ∀ t, t < l.length → t ≤ m ∨ ∃ j, m ≤ j ∧ j < t ∧ Region.waitsFor .any l.toArray t j = true := by
    intro t ht
    have := hch t (List.mem_range.2 ht)
    simp only [Bool.or_eq_true, decide_eq_true_eq, List.any_eq_true, Bool.and_eq_true] at this
    rcases this with h | ⟨j, hj, h1, h2⟩
    · exact .inl h
    · exact .inr ⟨j, h1, List.mem_range.1 hj, h2⟩
  refine ⟨fun D a ha => wp_region_any hm ?_⟩
  have main : ∀ (fuel : Nat) (listed : Array Bool) (a : Act) (w' : World) (e' : Env), listed.size = l.length → (∀ i, listed.getD i true = false → i < l.length) → (∀ t, m ≤ t → t < l.length → listed.getD t true = false) → (∀ j oj, l[j]? = some oj → listed.getD j false = true → ∀ e ∈ oj.after.toList, Region.binds .any e = true → listed.getD e.on false = true) → (l.length ≤ fuel + (List.range l.length).countP (fun i => listed.getD i true)) → Rel D n a e' → R w.drew w' →
      (∀ x ∈ KN, (x ∈ kn ∨ ∃ j o, l[j]? = some o ∧ o.dst = some x.1 ∧ listed.getD j false = true) → x.2 (e' x.1) w') →
      wpAny P .any l.toArray (lift D n Q) fuel listed a w' := by
    intro fuel
    induction fuel with
    | zero =>
      intro listed a w' e' hsz hin htail hclosed hcnt hr hR hx
      have := cnt_le l.length m (fun k => listed.getD k true) (fun k hk h => by rcases Nat.lt_or_ge k m with h1 | h1; exact h1; rw [htail k h1 hk] at h; cases h)
      omega
    | succ fuel ih =>
      intro listed a w' e' hsz hin htail hclosed hcnt hr hR hx
      refine ⟨fun hre => (by
        have := all_listed hsz hback hre m hml
        rw [htail m (Nat.le_refl _) hml] at this
        cases this), fun i hi => ?_⟩
      obtain ⟨hiu, oi, hoi, hall⟩ := mem_ready.1 hi
      have hoi' : l[i]? = some oi := by simpa using hoi
      have hil : i < l.length := (List.getElem?_eq_some_iff.1 hoi').1
      by_cases him : i < m
      rotate_left
      · -- the tail
        have hi_m : i = m := by
          rcases Nat.lt_or_ge m i with h | h
          · exfalso
            have hc := hchain i hil
            rcases hc with hc | ⟨j, hmj, hji, hc⟩
            · omega
            · obtain ⟨ed, hed, hb, hej⟩ := waits hoi' hc
              have h1 := hall ed (by simpa using hed) hb
              rw [hej] at h1
              have h2 := htail j hmj (by omega)
              exact tf h1 h2
          · omega
        subst hi_m
        have heads : ∀ d k, i - k = d → k < i → listed.getD k false = true := by
          intro d
          induction d using Nat.strongRecOn with
          | _ d ihd =>
            intro k hkd hki
            obtain ⟨j, hkj, hjm, hw⟩ := hsink k hki
            by_cases hji : j = i
            · subst hji
              obtain ⟨ed, hed, hb, hej⟩ := waits hoi' hw
              have h1 := hall ed (by simpa using hed) hb
              rwa [hej] at h1
            · have hj := ihd (i - j) (by omega) j rfl (by omega)
              have hjl : j < l.length := by omega
              obtain ⟨ed, hed, hb, hej⟩ := waits (List.getElem?_eq_getElem hjl) hw
              have h1 := hclosed j _ (List.getElem?_eq_getElem hjl) hj ed hed hb
              rwa [hej] at h1
        have hL : listed = (List.replicate i true ++ List.replicate (l.length - i) false).toArray := by
          apply Array.ext_getElem?
          intro k
          by_cases hkl : k < l.length
          · have hks : k < listed.size := by omega
            by_cases hki : k < i
            · have h1 := heads _ k rfl hki
              rw [Array.getD_eq_getD_getElem?, Array.getElem?_eq_getElem hks] at h1
              rw [Array.getElem?_eq_getElem hks]
              simp only [Option.getD_some] at h1
              rw [h1]
              simp [List.getElem?_append, hki]
            · have h1 := htail k (by omega) hkl
              rw [Array.getD_eq_getD_getElem?, Array.getElem?_eq_getElem hks] at h1
              rw [Array.getElem?_eq_getElem hks]
              simp only [Option.getD_some] at h1
              rw [h1, List.getElem?_toArray, List.getElem?_append_right (by rw [List.length_replicate]; omega), List.getElem?_replicate, if_pos (by rw [List.length_replicate]; omega)]
          · rw [Array.getElem?_eq_none (by omega), Array.getElem?_eq_none (by simp; omega)]
        have hsg := hF e' w' hR (HoldsAll.of fun x hxm => hx x hxm (by
          rcases hor x hxm with h | ⟨_, o, ho, hdo⟩
          · exact .inl h
          · obtain ⟨j, hj⟩ := List.getElem?_of_mem ho
            have hjm : j < i := by
              have := (List.getElem?_eq_some_iff.1 hj).1
              simp at this; omega
            have hj' : l[j]? = some o := by rw [List.getElem?_take] at hj; simpa [hjm] using hj
            exact .inr ⟨j, o, hj', hdo, heads _ j rfl hjm⟩))
        have hoo : oi = o := by rw [hoi'] at hom; exact Option.some.inj hom
        subst hoo
        have hsg2 := hsg _ n a hr
        have hset : listed.setIfInBounds i true = (List.replicate (i + 1) true ++ List.replicate (l.length - (i + 1)) false).toArray := by
          rw [hL]
          apply Array.ext_getElem?
          intro k
          rw [Array.getElem?_setIfInBounds]
          simp only [List.getElem?_toArray, List.getElem?_append, List.length_replicate, List.getElem?_replicate, List.size_toArray, List.length_append]
          by_cases h1 : i = k
          · subst h1
            rw [if_pos rfl, if_pos (by omega), if_pos (by omega), if_pos (by omega)]
          · rw [if_neg h1]
            by_cases h2 : k < i
            · rw [if_pos h2, if_pos h2, if_pos (by omega), if_pos (by omega)]
            · by_cases h3 : k < l.length
              · rw [if_neg h2, if_pos (show k - i < l.length - i by omega), if_neg (show ¬ k < i + 1 by omega), if_pos (show k - (i + 1) < l.length - (i + 1) by omega)]
              · rw [if_neg h2, if_neg (show ¬ k - i < l.length - i by omega), if_neg (show ¬ k < i + 1 by omega), if_neg (show ¬ k - (i + 1) < l.length - (i + 1) by omega)]
        have hct := cnt_le l.length i (fun k => listed.getD k true) (fun k hk h => by rcases Nat.lt_or_ge k i with h1 | h1; exact h1; rw [htail k h1 hk] at h; cases h)
        have nextM : ∀ v w2, Rest P l Q n (i + 1) (upd e' d0 v) w2 → wpAny P .any l.toArray (lift D n Q) fuel (listed.setIfInBounds i true) (a.put oi.dst v) w2 := by
          intro v w2 hrest
          rw [hod, hset]
          exact hrest _ _ (hr.put hodn v) fuel (by omega)
        unfold wpOp
        rw [hoi]
        show (if Region.wanted oi (yielded l.toArray a.tmps) = true then _ else _)
        split
        · rename_i hw
          rw [if_pos hw] at hsg2
          exact .inl (OP.wp hr.ev (hsg2.mono nextM))
        · rename_i hw
          rw [if_neg hw] at hsg2
          exact nextM undef w' hsg2
      have hoiT : (l.take m)[i]? = some oi := by rw [List.getElem?_take]; simpa [him] using hoi'
      obtain ⟨d, φ, hd, hmem, hs⟩ := hstep oi (List.mem_of_getElem? hoiT)
      have hdn := (hdst oi (List.mem_of_getElem? hoiT))
      have hdn : Nat.blt d n = true := by simpa [hd] using hdn.2
      have hpre : ∀ x ∈ KN, x.1 ∈ rds l oi → x.2 (e' x.1) w' := by
        intro x hxm hxr
        refine hx x hxm ?_
        rcases hor x hxm with h | ⟨_, o, ho, hdo⟩
        · exact .inl h
        · obtain ⟨j, hj⟩ := List.getElem?_of_mem ho
          obtain ⟨ed, hed, hb, hej⟩ := hwait i j oi o hoiT hj (by rw [hdo]; exact hxr)
          have hjm : j < m := by
            have := (List.getElem?_eq_some_iff.1 hj).1
            simp at this; omega
          have hj' : l[j]? = some o := by rw [List.getElem?_take] at hj; simpa [hjm] using hj
          refine .inr ⟨j, o, hj', hdo, ?_⟩
          have := hall ed (by simpa using hed) hb
          rw [hej] at this
          exact this
      have hsg := hs e' w' hR hpre _ n a hr
      have next : ∀ v w2, φ v w2 ∧ R w' w2 → wpAny P .any l.toArray (lift D n Q) fuel (listed.setIfInBounds i true) (a.put oi.dst v) w2 := by
        rintro v w2 ⟨hφ, hR2⟩
        rw [hd]
        refine ih _ _ _ (upd e' d v) (by simpa using hsz) (fun k hk => ?_) (fun t ht htl => ?_) ?_ ?_ (hr.put hdn v) (htrans _ _ _ hR hR2) ?_
        · refine hin k ?_
          by_cases hki : k = i
          · subst hki; exact hiu
          · rw [Array.getD_eq_getD_getElem?, Array.getElem?_setIfInBounds_ne (by omega)] at hk
            rw [Array.getD_eq_getD_getElem?]; exact hk
        · rw [Array.getD_eq_getD_getElem?, Array.getElem?_setIfInBounds_ne (by omega)]
          have := htail t ht htl
          rw [Array.getD_eq_getD_getElem?] at this; exact this
        · intro j oj hoj hl e he hb
          by_cases hji : j = i
          · subst hji
            rw [hoi'] at hoj
            simp only [Option.some.injEq] at hoj
            subst hoj
            have h1 := hall e (by simpa using he) hb
            exact set_true h1
          · have h2 : listed.getD j false = true := by
              rw [Array.getD_eq_getD_getElem?, Array.getElem?_setIfInBounds_ne (by omega)] at hl
              rw [Array.getD_eq_getD_getElem?]; exact hl
            exact set_true (hclosed j oj hoj h2 e he hb)
        · have hcount : (List.range l.length).countP (fun k => listed.getD k true) + 1 ≤ (List.range l.length).countP (fun k => (listed.setIfInBounds i true).getD k true) := by
            have key : ∀ (r : List Nat), r.Nodup → i ∈ r → r.countP (fun k => listed.getD k true) + 1 ≤ r.countP (fun k => (listed.setIfInBounds i true).getD k true) := by
              intro r
              induction r with
              | nil => intro _ h; cases h
              | cons k r ihr =>
                intro hn hmem
                simp only [List.nodup_cons] at hn
                rw [List.countP_cons, List.countP_cons]
                by_cases hki : k = i
                · subst hki
                  have e1 : listed.getD k true = false := hiu
                  have e2 : (listed.setIfInBounds k true).getD k true = true := by
                    rw [Array.getD_eq_getD_getElem?, Array.getElem?_setIfInBounds]; simp; split <;> rfl
                  rw [e1, e2]
                  have : r.countP (fun k => listed.getD k true) ≤ r.countP (fun k' => (listed.setIfInBounds k true).getD k' true) := by
                    refine List.countP_mono_left fun k' hk' => ?_
                    intro h
                    by_cases hkk : k' = k
                    · subst hkk; exact absurd hk' hn.1
                    · rw [Array.getD_eq_getD_getElem?, Array.getElem?_setIfInBounds_ne (by omega)]
                      rw [Array.getD_eq_getD_getElem?] at h; exact h
                  rw [if_neg (by decide), if_pos rfl]; omega
                · have e1 : (listed.setIfInBounds i true).getD k true = listed.getD k true := by
                    rw [Array.getD_eq_getD_getElem?, Array.getElem?_setIfInBounds_ne (by omega), Array.getD_eq_getD_getElem?]
                  have := ihr hn.2 (by rcases List.mem_cons.1 hmem with h | h; exact absurd h.symm hki; exact h)
                  rw [e1]; omega
            exact key _ List.nodup_range (List.mem_range.2 hil)
          omega
        · intro x hxm hcond
          by_cases hxd : x.1 = d
          · have := hinj x hxm (d, φ) hmem hxd
            subst this
            simp only [upd]
            rw [show Nat.beq d d = true from Nat.beq_refl d]
            exact hφ
          · have hnb : Nat.beq x.1 d = false := beq_false hxd
            simp only [upd, hnb]
            refine hmonoK x hxm _ _ _ hR2 (hx x hxm ?_)
            rcases hcond with h | ⟨j, o, hj, hdo, hl⟩
            · exact .inl h
            · refine .inr ⟨j, o, hj, hdo, ?_⟩
              have hji : j ≠ i := by
                intro hji
                subst hji
                rw [hj] at hoi'
                simp only [Option.some.injEq] at hoi'
                subst hoi'
                rw [hdo] at hd
                simp only [Option.some.injEq] at hd
                exact hxd hd
              rw [Array.getD_eq_getD_getElem?, Array.getElem?_setIfInBounds_ne (by omega)] at hl
              rw [Array.getD_eq_getD_getElem?]; exact hl
      unfold wpOp
      rw [hoi]
      show (if Region.wanted oi (yielded l.toArray a.tmps) = true then _ else _)
      split
      · rename_i hw
        rw [if_pos hw] at hsg
        exact .inl (OP.wp hr.ev (hsg.mono next))
      · rename_i hw
        rw [if_neg hw] at hsg
        exact next undef w' hsg
  refine main _ _ a w.drew e (by simp) (fun i hi => ?_) (fun t ht htl => ?_) (fun j oj hoj hl => ?_) (by simp) ha (hrefl _) (fun x hxm hc => ?_)
  · rw [Array.getD_eq_getD_getElem?, Array.getElem?_replicate] at hi
    split at hi
    · rename_i h; simpa using h
    · simp at hi
  · rw [Array.getD_eq_getD_getElem?, Array.getElem?_replicate]
    simp [htl]
  · rw [Array.getD_eq_getD_getElem?, Array.getElem?_replicate] at hl
    split at hl <;> simp at hl
  · rcases hc with h | ⟨j, o, hj, hdo, hl⟩
    · exact h0.mem x h
    · rw [Array.getD_eq_getD_getElem?, Array.getElem?_replicate] at hl
      split at hl <;> simp at hl
end Go.Vc
