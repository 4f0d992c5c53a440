/-
  Regions that draw their order: a head as in Draw, in any order, and a tail that waits for all of it.
-/
import Derived.Test.YtcljkkfpcomdcaaDraw
set_option linter.unusedSimpArgs false
set_option linter.unusedVariables false
namespace Go.Vc
open Go Go.RowKit
variable {D : List Deferred}

theorem set_true {listed : Array Bool} {i k : Nat} (h : listed.getD k false = true) : (listed.setIfInBounds i true).getD k false = true := by
  rw [Array.getD_eq_getD_getElem?] at h ⊢
  rw [Array.getElem?_setIfInBounds]
  split
  · split
    · rfl
    · rename_i h1 h2; subst h1; rw [Array.getElem?_eq_none (by omega)] at h; simp at h
  · exact h
theorem tf {listed : Array Bool} {k : Nat} (h1 : listed.getD k false = true) (h2 : listed.getD k true = false) : False := by
  rw [Array.getD_eq_getD_getElem?] at h1 h2
  cases h : listed[k]? with
  | none => rw [h] at h1; cases h1
  | some b => rw [h] at h1 h2; simp only [Option.getD_some] at h1 h2; rw [h1] at h2; cases h2
theorem cnt_le (L m : Nat) (p : Nat → Bool) (h : ∀ k, k < L → p k = true → k < m) : (List.range L).countP p ≤ m := by
  have gen : ∀ L, (∀ k, k < L → p k = true → k < m) → (List.range L).countP p ≤ min L m := by
    intro L
    induction L with
    | zero => intro _; simp
    | succ L ih =>
      intro h
      have h1 := ih (fun k hk => h k (by omega))
      rw [List.range_succ, List.countP_append]
      by_cases hp : p L = true
      · have := h L (by omega) hp
        simp [hp]; omega
      · simp [hp]; omega
  have := gen L h
  omega
theorem waits {l : List Oper} {j i : Nat} {o : Oper} (ho : l[j]? = some o) (h : Region.waitsFor .any l.toArray j i = true) : ∃ e ∈ o.after.toList, Region.binds .any e = true ∧ e.on = i := by
  obtain ⟨oj, hoj, e, he, hb, hi⟩ := Region.waitsFor_spec h
  rw [List.getElem?_toArray, ho] at hoj
  simp only [Option.some.injEq] at hoj
  subst hoj
  exact ⟨e, by simpa using he, hb, hi⟩
theorem wpAny_seqF {P : Program} {md : Region.Mode} {ops : Array Oper} {Q' : Exit → Act → World → Prop} : ∀ (l : List Oper) (k : Nat) (listed : Array Bool) (a : Act) (w : World) (fuel : Nat), l.length ≤ fuel → (∀ j, l[j]? = ops[k + j]?) →
    Region.seqB md ops l.length k listed = true → wpList P ops Q' l a w → wpAny P md ops Q' fuel listed a w
  | [], k, listed, a, w, fuel, _, _, hB, h => by
    have hr : Region.ready md ops listed = [] := by simpa [Region.seqB] using hB
    cases fuel with
    | zero => exact ⟨hr, h⟩
    | succ f => exact ⟨fun _ => h, fun i hi => by rw [hr] at hi; cases hi⟩
  | o :: l, k, listed, a, w, fuel, hf, hl, hB, h => by
    cases fuel with
    | zero => simp at hf
    | succ f =>
      have h0 : ops[k]? = some o := by simpa using (hl 0).symm
      simp only [List.length_cons, Region.seqB, Bool.and_eq_true, decide_eq_true_eq] at hB
      refine ⟨fun h1 => (by rw [hB.1] at h1; cases h1), fun i hi => ?_⟩
      rw [hB.1] at hi
      have hik : i = k := by simpa using hi
      subst hik
      have hw : wpOp P ops Q' i (wpList P ops Q' l) a w := by unfold wpOp; simp only [h0]; exact h
      exact wpOp_mono (fun a' w' h' => wpAny_seqF l (i + 1) _ a' w' f (by simpa using hf) (fun j => by have := hl (j + 1); simpa [Nat.add_assoc, Nat.add_comm 1 j] using this) hB.2 h') hw
def drawOkT (all : List Oper) (m : Nat) (ins : List Nat) (n : Nat) : Bool :=
  decide (((all.take m).map fun o => o.dst.getD 0).reverse ++ ins).Nodup &&
  (all.take m).all (fun o => o.dst.isSome && Nat.blt (o.dst.getD 0) n) &&
  all.zipIdx.all (fun (o, i) => o.after.toList.all (fun e => !Region.binds .any e || Nat.blt e.on i)) &&
  (all.take m).zipIdx.all (fun (o, i) => (all.take m).zipIdx.all (fun (p, j) => !(rds all o).contains (p.dst.getD 0) || o.after.toList.any (fun e => Region.binds .any e && e.on == j))) &&
  decide (m < all.length) && Region.sinkB .any all.toArray m && Region.chainB .any all.toArray m &&
  Region.seqB .any all.toArray (all.length - m) m (List.replicate m true ++ List.replicate (all.length - m) false).toArray
theorem W.drawT {P : Program} {Q : Exit → Env → World → Prop} {n : Nat} {e : Env} {w : World} {id : Nat} {l : List Oper} (m : Nat) (R : World → World → Prop) (kn : Known) (hm : P.follows .mixedOrders = true) (hok : drawOkT l m (kn.map Prod.fst) n = true)
    (hrefl : ∀ w, R w w) (htrans : ∀ a b c, R a b → R b c → R a c) (hmono' : MonoAll R kn) (h0 : HoldsAll kn e w.drew)
    (h : WD P l R w.drew (fun KN => ∀ e' w', R w.drew w' → HoldsAll KN e' w' → WL P l (l.drop m) Q n e' w') (l.take m) kn) : W P (.region id l.toArray true) Q n e w := by
  have hmono := hmono'.mem
  obtain ⟨KN, hF, hsub, hfst, hor, hstep⟩ := WD.unroll (l.take m) kn h
  simp only [drawOkT, Bool.and_eq_true, decide_eq_true_eq, List.all_eq_true] at hok
  obtain ⟨⟨⟨⟨⟨⟨⟨hnd, hdst⟩, hedge⟩, hwt⟩, hml⟩, hsk⟩, hch⟩, hseq⟩ := hok
  have hnd' : (KN.map Prod.fst).Nodup := by rw [hfst]; exact hnd
  have hinj := nodup_inj hnd'
  have hmonoK : ∀ x ∈ KN, Mono R x.2 := fun x hx => by
    rcases hor x hx with hx | ⟨hm, _⟩
    · exact hmono x hx
    · exact hm
  have hback : ∀ (i : Nat) o, l[i]? = some o → ∀ e ∈ o.after.toList, Region.binds .any e = true → e.on < i := by
    intro i o ho e he hb
    have := (hedge (o, i) (List.mem_zipIdx_iff_getElem?.2 ho)) e he
    rw [hb] at this
    simpa using this
  have hwait : ∀ (i j : Nat) o p, (l.take m)[i]? = some o → (l.take m)[j]? = some p → p.dst.getD 0 ∈ rds l o → ∃ e ∈ o.after.toList, Region.binds .any e = true ∧ e.on = j := by
    intro i j o p ho hp hin
    have := (hwt (o, i) (List.mem_zipIdx_iff_getElem?.2 ho)) (p, j) (List.mem_zipIdx_iff_getElem?.2 hp)
    simp only [Bool.or_eq_true, Bool.not_eq_true', List.any_eq_true, Bool.and_eq_true, beq_iff_eq] at this
    rcases this with h | ⟨e, he, hb, hj⟩
    · simp only [List.contains_eq_mem, decide_eq_false_iff_not] at h; exact absurd hin h
    · exact ⟨e, he, hb, hj⟩
  have hsink : ∀ k, k < m → ∃ j, k < j ∧ j ≤ m ∧ Region.waitsFor .any l.toArray j k = true := by
    intro k hk
    unfold Region.sinkB at hsk
    rw [List.all_eq_true] at hsk
    have := hsk k (List.mem_range.2 hk)
    rw [List.any_eq_true] at this
    obtain ⟨j, hj, h⟩ := this
    simp only [Bool.and_eq_true, decide_eq_true_eq] at h
    exact ⟨j, h.1, by have := List.mem_range.1 hj; omega, h.2⟩
  have hchain : ∀ t, t < l.length → t ≤ m ∨ Region.waitsFor .any l.toArray t (t - 1) = true := by
    intro t ht
    unfold Region.chainB at hch
    rw [List.all_eq_true] at hch
    have := hch t (List.mem_range.2 (by simpa using ht))
    simpa using this
  refine ⟨fun D a ha => wp_region_any hm ?_⟩
  have main : ∀ (fuel : Nat) (listed : Array Bool) (a : Act) (w' : World) (e' : Env), listed.size = l.length → (∀ i, listed.getD i true = false → i < l.length) → (∀ t, m ≤ t → t < l.length → listed.getD t true = false) → (∀ j oj, l[j]? = some oj → listed.getD j false = true → ∀ e ∈ oj.after.toList, Region.binds .any e = true → listed.getD e.on false = true) → (l.length ≤ fuel + (List.range l.length).countP (fun i => listed.getD i true)) → Rel D n a e' → R w.drew w' →
      (∀ x ∈ KN, (x ∈ kn ∨ ∃ j o, l[j]? = some o ∧ o.dst = some x.1 ∧ listed.getD j false = true) → x.2 (e' x.1) w') →
      wpAny P .any l.toArray (lift D n Q) fuel listed a w' := by
    intro fuel
    induction fuel with
    | zero =>
      intro listed a w' e' hsz hin htail hclosed hcnt hr hR hx
      have := cnt_le l.length m (fun k => listed.getD k true) (fun k hk h => by rcases Nat.lt_or_ge k m with h1 | h1; exact h1; rw [htail k h1 hk] at h; cases h)
      omega
    | succ fuel ih =>
      intro listed a w' e' hsz hin htail hclosed hcnt hr hR hx
      refine ⟨fun hre => (by
        have := all_listed hsz hback hre m hml
        rw [htail m (Nat.le_refl _) hml] at this
        cases this), fun i hi => ?_⟩
      obtain ⟨hiu, oi, hoi, hall⟩ := mem_ready.1 hi
      have hoi' : l[i]? = some oi := by simpa using hoi
      have hil : i < l.length := (List.getElem?_eq_some_iff.1 hoi').1
      by_cases him : i < m
      rotate_left
      · -- the tail
        have hi_m : i = m := by
          rcases Nat.lt_or_ge m i with h | h
          · exfalso
            have hc := hchain i hil
            rcases hc with hc | hc
            · omega
            · obtain ⟨ed, hed, hb, hej⟩ := waits hoi' hc
              have h1 := hall ed (by simpa using hed) hb
              rw [hej] at h1
              have h2 := htail (i - 1) (by omega) (by omega)
              exact tf h1 h2
          · omega
        subst hi_m
        have heads : ∀ d k, i - k = d → k < i → listed.getD k false = true := by
          intro d
          induction d using Nat.strongRecOn with
          | _ d ihd =>
            intro k hkd hki
            obtain ⟨j, hkj, hjm, hw⟩ := hsink k hki
            by_cases hji : j = i
            · subst hji
              obtain ⟨ed, hed, hb, hej⟩ := waits hoi' hw
              have h1 := hall ed (by simpa using hed) hb
              rwa [hej] at h1
            · have hj := ihd (i - j) (by omega) j rfl (by omega)
              have hjl : j < l.length := by omega
              obtain ⟨ed, hed, hb, hej⟩ := waits (List.getElem?_eq_getElem hjl) hw
              have h1 := hclosed j _ (List.getElem?_eq_getElem hjl) hj ed hed hb
              rwa [hej] at h1
        have hL : listed = (List.replicate i true ++ List.replicate (l.length - i) false).toArray := by
          apply Array.ext_getElem?
          intro k
          by_cases hkl : k < l.length
          · have hks : k < listed.size := by omega
            by_cases hki : k < i
            · have h1 := heads _ k rfl hki
              rw [Array.getD_eq_getD_getElem?, Array.getElem?_eq_getElem hks] at h1
              rw [Array.getElem?_eq_getElem hks]
              simp only [Option.getD_some] at h1
              rw [h1]
              simp [List.getElem?_append, hki]
            · have h1 := htail k (by omega) hkl
              rw [Array.getD_eq_getD_getElem?, Array.getElem?_eq_getElem hks] at h1
              rw [Array.getElem?_eq_getElem hks]
              simp only [Option.getD_some] at h1
              rw [h1, List.getElem?_toArray, List.getElem?_append_right (by rw [List.length_replicate]; omega), List.getElem?_replicate, if_pos (by rw [List.length_replicate]; omega)]
          · rw [Array.getElem?_eq_none (by omega), Array.getElem?_eq_none (by simp; omega)]
        have hwl := hF e' w' hR (HoldsAll.of fun x hxm => hx x hxm (by
          rcases hor x hxm with h | ⟨_, o, ho, hdo⟩
          · exact .inl h
          · obtain ⟨j, hj⟩ := List.getElem?_of_mem ho
            have hjm : j < i := by
              have := (List.getElem?_eq_some_iff.1 hj).1
              simp at this; omega
            have hj' : l[j]? = some o := by rw [List.getElem?_take] at hj; simpa [hjm] using hj
            exact .inr ⟨j, o, hj', hdo, heads _ j rfl hjm⟩))
        have hsq := wpAny_seqF (P := P) (ops := l.toArray) (Q' := lift D n Q) (l.drop i) i listed a w' (fuel + 1) (by rw [List.length_drop]; have := cnt_le l.length i (fun k => listed.getD k true) (fun k hk h => by rcases Nat.lt_or_ge k i with h1 | h1; exact h1; rw [htail k h1 hk] at h; cases h); omega) (fun j => by rw [List.getElem?_drop]; simp) (by rw [hL, List.length_drop]; exact hseq) (hwl.out D a hr)
        exact hsq.2 i hi
      have hoiT : (l.take m)[i]? = some oi := by rw [List.getElem?_take]; simpa [him] using hoi'
      obtain ⟨d, φ, hd, hmem, hs⟩ := hstep oi (List.mem_of_getElem? hoiT)
      have hdn := (hdst oi (List.mem_of_getElem? hoiT))
      have hdn : Nat.blt d n = true := by simpa [hd] using hdn.2
      have hpre : ∀ x ∈ KN, x.1 ∈ rds l oi → x.2 (e' x.1) w' := by
        intro x hxm hxr
        refine hx x hxm ?_
        rcases hor x hxm with h | ⟨_, o, ho, hdo⟩
        · exact .inl h
        · obtain ⟨j, hj⟩ := List.getElem?_of_mem ho
          obtain ⟨ed, hed, hb, hej⟩ := hwait i j oi o hoiT hj (by rw [hdo]; exact hxr)
          have hjm : j < m := by
            have := (List.getElem?_eq_some_iff.1 hj).1
            simp at this; omega
          have hj' : l[j]? = some o := by rw [List.getElem?_take] at hj; simpa [hjm] using hj
          refine .inr ⟨j, o, hj', hdo, ?_⟩
          have := hall ed (by simpa using hed) hb
          rw [hej] at this
          exact this
      have hsg := hs e' w' hR hpre _ n a hr
      have next : ∀ v w2, φ v w2 ∧ R w' w2 → wpAny P .any l.toArray (lift D n Q) fuel (listed.setIfInBounds i true) (a.put oi.dst v) w2 := by
        rintro v w2 ⟨hφ, hR2⟩
        rw [hd]
        refine ih _ _ _ (upd e' d v) (by simpa using hsz) (fun k hk => ?_) (fun t ht htl => ?_) ?_ ?_ (hr.put hdn v) (htrans _ _ _ hR hR2) ?_
        · refine hin k ?_
          by_cases hki : k = i
          · subst hki; exact hiu
          · rw [Array.getD_eq_getD_getElem?, Array.getElem?_setIfInBounds_ne (by omega)] at hk
            rw [Array.getD_eq_getD_getElem?]; exact hk
        · rw [Array.getD_eq_getD_getElem?, Array.getElem?_setIfInBounds_ne (by omega)]
          have := htail t ht htl
          rw [Array.getD_eq_getD_getElem?] at this; exact this
        · intro j oj hoj hl e he hb
          by_cases hji : j = i
          · subst hji
            rw [hoi'] at hoj
            simp only [Option.some.injEq] at hoj
            subst hoj
            have h1 := hall e (by simpa using he) hb
            exact set_true h1
          · have h2 : listed.getD j false = true := by
              rw [Array.getD_eq_getD_getElem?, Array.getElem?_setIfInBounds_ne (by omega)] at hl
              rw [Array.getD_eq_getD_getElem?]; exact hl
            exact set_true (hclosed j oj hoj h2 e he hb)
        · have hcount : (List.range l.length).countP (fun k => listed.getD k true) + 1 ≤ (List.range l.length).countP (fun k => (listed.setIfInBounds i true).getD k true) := by
            have key : ∀ (r : List Nat), r.Nodup → i ∈ r → r.countP (fun k => listed.getD k true) + 1 ≤ r.countP (fun k => (listed.setIfInBounds i true).getD k true) := by
              intro r
              induction r with
              | nil => intro _ h; cases h
              | cons k r ihr =>
                intro hn hmem
                simp only [List.nodup_cons] at hn
                rw [List.countP_cons, List.countP_cons]
                by_cases hki : k = i
                · subst hki
                  have e1 : listed.getD k true = false := hiu
                  have e2 : (listed.setIfInBounds k true).getD k true = true := by
                    rw [Array.getD_eq_getD_getElem?, Array.getElem?_setIfInBounds]; simp; split <;> rfl
                  rw [e1, e2]
                  have : r.countP (fun k => listed.getD k true) ≤ r.countP (fun k' => (listed.setIfInBounds k true).getD k' true) := by
                    refine List.countP_mono_left fun k' hk' => ?_
                    intro h
                    by_cases hkk : k' = k
                    · subst hkk; exact absurd hk' hn.1
                    · rw [Array.getD_eq_getD_getElem?, Array.getElem?_setIfInBounds_ne (by omega)]
                      rw [Array.getD_eq_getD_getElem?] at h; exact h
                  rw [if_neg (by decide), if_pos rfl]; omega
                · have e1 : (listed.setIfInBounds i true).getD k true = listed.getD k true := by
                    rw [Array.getD_eq_getD_getElem?, Array.getElem?_setIfInBounds_ne (by omega), Array.getD_eq_getD_getElem?]
                  have := ihr hn.2 (by rcases List.mem_cons.1 hmem with h | h; exact absurd h.symm hki; exact h)
                  rw [e1]; omega
            exact key _ List.nodup_range (List.mem_range.2 hil)
          omega
        · intro x hxm hcond
          by_cases hxd : x.1 = d
          · have := hinj x hxm (d, φ) hmem hxd
            subst this
            simp only [upd]
            rw [show Nat.beq d d = true from Nat.beq_refl d]
            exact hφ
          · have hnb : Nat.beq x.1 d = false := beq_false hxd
            simp only [upd, hnb]
            refine hmonoK x hxm _ _ _ hR2 (hx x hxm ?_)
            rcases hcond with h | ⟨j, o, hj, hdo, hl⟩
            · exact .inl h
            · refine .inr ⟨j, o, hj, hdo, ?_⟩
              have hji : j ≠ i := by
                intro hji
                subst hji
                rw [hj] at hoi'
                simp only [Option.some.injEq] at hoi'
                subst hoi'
                rw [hdo] at hd
                simp only [Option.some.injEq] at hd
                exact hxd hd
              rw [Array.getD_eq_getD_getElem?, Array.getElem?_setIfInBounds_ne (by omega)] at hl
              rw [Array.getD_eq_getD_getElem?]; exact hl
      unfold wpOp
      rw [hoi]
      show (if Region.wanted oi (yielded l.toArray a.tmps) = true then _ else _)
      split
      · rename_i hw
        rw [if_pos hw] at hsg
        exact .inl (OP.wp hr.ev (hsg.mono next))
      · rename_i hw
        rw [if_neg hw] at hsg
        exact next undef w' hsg
  refine main _ _ a w.drew e (by simp) (fun i hi => ?_) (fun t ht htl => ?_) (fun j oj hoj hl => ?_) (by simp) ha (hrefl _) (fun x hxm hc => ?_)
  · rw [Array.getD_eq_getD_getElem?, Array.getElem?_replicate] at hi
    split at hi
    · rename_i h; simpa using h
    · simp at hi
  · rw [Array.getD_eq_getD_getElem?, Array.getElem?_replicate]
    simp [htl]
  · rw [Array.getD_eq_getD_getElem?, Array.getElem?_replicate] at hl
    split at hl <;> simp at hl
  · rcases hc with h | ⟨j, o, hj, hdo, hl⟩
    · exact h0.mem x h
    · rw [Array.getD_eq_getD_getElem?, Array.getElem?_replicate] at hl
      split at hl <;> simp at hl
end Go.Vc
