/-
  Walks and lemmas. Written by program out of specs of mine.
-/
import Derived.WalkKit
import Derived.WalkSpells
import Derived.WalkLawsBesides
import Derived.Deep.Quiet
import Derived.StillTail
import Derived.StringKeys
import Derived.Laws.StructEq
import Derived.Laws.Externs
import Derived.Laws.Tables
import Derived.Scope
import Derived.Test.YtgcehajdldicfaaProg
import Derived.Laws.AppendOwn
import Derived.Maps.AppendAt
import Derived.Recover
import Derived.Lib.Bytealg
import Derived.SizedLaws
import Derived.ChangeArms
import Derived.ChangeSlices
import Derived.Maps.OwnSet
import Derived.Test.YtgcehajdldicfaaRows
import Derived.ProofKit
import Derived.OpenShut
import Derived.ShutString
import Derived.ChangeOld
import Derived.Below
import Derived.Test.YtgcehajdldicfaaKs4
set_option linter.unusedSimpArgs false
set_option linter.unusedVariables false
set_option maxRecDepth 100000
set_option linter.unusedSimpArgs false
set_option linter.unusedVariables false
set_option maxRecDepth 100000
namespace Go.Proofs.Ytgcehajdldicfaa
open Go Go.Vc Go.RowKit Go.Proofs

mutual
theorem depT_two {wh wh' : List UInt8 → Nat} {dp dq : Nat → Nat} : ∀ {t : Tr}, (∀ x ∈ t.flat, x.kind = 9 → dq (wh' x.name) = dp (wh x.name)) → depT wh' dq t = depT wh dp t
  | .node y ks, h => by
    unfold depT
    split
    · rename_i h9; exact h y (List.mem_cons_self ..) h9
    · rw [depK_two ks 0 (fun x hx => h x (List.mem_cons_of_mem _ hx))]
theorem depK_two {wh wh' : List UInt8 → Nat} {dp dq : Nat → Nat} : ∀ (ts : Trs) (m : Nat), (∀ x ∈ ts.flat, x.kind = 9 → dq (wh' x.name) = dp (wh x.name)) → depK wh' dq ts m = depK wh dp ts m
  | .nil, m, _ => rfl
  | .cons t ts, m, h => by
    unfold depK
    rw [depT_two (fun x hx => h x (List.mem_append_left _ hx)), depK_two ts _ (fun x hx => h x (List.mem_append_right _ hx))]
end


/-- the definitions in the order p -/
def pick (D : List Df) (p : List Nat) : List Df := p.map (fun i => D.getD i df0)
/-- p tells each number below n once -/
structure Pm (n : Nat) (p : List Nat) : Prop where
  nd : p.Nodup
  lt : ∀ i ∈ p, i < n
  all : ∀ i, i < n → i ∈ p
  len : p.length = n
theorem Pm.at {n : Nat} {p : List Nat} (h : Pm n p) {i : Nat} (hi : i < n) : p.getD i 0 < n := by
  rw [List.getD_eq_getElem?_getD, List.getElem?_eq_getElem (by rw [h.len]; exact hi), Option.getD_some]
  exact h.lt _ (List.getElem_mem _)
theorem Pm.inj {n : Nat} {p : List Nat} (h : Pm n p) {i j : Nat} (hi : i < n) (hj : j < n) (he : p.getD i 0 = p.getD j 0) : i = j := by
  rw [List.getD_eq_getElem?_getD, List.getElem?_eq_getElem (by rw [h.len]; exact hi), List.getD_eq_getElem?_getD, List.getElem?_eq_getElem (by rw [h.len]; exact hj)] at he
  exact (List.getElem_inj h.nd).1 he
theorem Pm.sur {n : Nat} {p : List Nat} (h : Pm n p) {k : Nat} (hk : k < n) : ∃ i, i < n ∧ p.getD i 0 = k := by
  obtain ⟨i, hi, he⟩ := List.getElem_of_mem (h.all k hk)
  exact ⟨i, by rw [← h.len]; exact hi, by rw [List.getD_eq_getElem?_getD, List.getElem?_eq_getElem hi]; exact he⟩
theorem known_iff {E : List Df} (s : List UInt8) : whereN E s = none ↔ ∀ d ∈ E, ¬ d.name = s := by
  constructor
  · exact whereN_none
  · intro h
    cases hw : whereN E s with
    | none => rfl
    | some k =>
      obtain ⟨hk, he, -⟩ := whereN_some hw
      exact absurd he (h _ (List.getElem_mem hk))
section
variable {D : List Df} {p : List Nat} (hp : Pm D.length p)
include hp
theorem pick_len : (pick D p).length = D.length := by unfold pick; rw [List.length_map, hp.len]
theorem pick_at {i : Nat} (hi : i < D.length) : (pick D p).getD i df0 = D.getD (p.getD i 0) df0 := by
  have h1 : p.getD i 0 = p[i]'(by rw [hp.len]; exact hi) := by rw [List.getD_eq_getElem?_getD, List.getElem?_eq_getElem (by rw [hp.len]; exact hi)]; rfl
  unfold pick
  rw [List.getD_eq_getElem?_getD, List.getElem?_map, List.getElem?_eq_getElem (by rw [hp.len]; exact hi), h1]
  rfl
theorem pick_ty {i : Nat} (hi : i < D.length) : tyD (pick D p) i = tyD D (p.getD i 0) := by unfold tyD; rw [pick_at hp hi]
theorem pick_mem {d : Df} : d ∈ pick D p ↔ d ∈ D := by
  unfold pick
  constructor
  · intro h
    obtain ⟨i, hi, rfl⟩ := List.mem_map.1 h
    rw [getD_at (hp.lt i hi)]
    exact List.getElem_mem _
  · intro h
    obtain ⟨i, hi, rfl⟩ := List.getElem_of_mem h
    exact List.mem_map.2 ⟨i, hp.all i hi, getD_at hi⟩
theorem pick_ck : (chkS (pick D p)).2.2 = 0 ↔ (chkS D).2.2 = 0 := by
  rw [chkS_iff, chkS_iff, pick_len hp]
  exact ⟨fun h => ⟨h.1, fun d hd => h.2 d ((pick_mem hp).2 hd)⟩, fun h => ⟨h.1, fun d hd => h.2 d ((pick_mem hp).1 hd)⟩⟩
theorem pick_trd {T : Nat → Tr} (hT : Trd D T) : Trd (pick D p) (fun i => T (p.getD i 0)) := by
  refine ⟨by rw [pick_len hp]; exact hT.n, fun i hi => ?_, fun d hd => hT.nm d ((pick_mem hp).1 hd), fun i hi => ?_⟩
  · rw [pick_len hp] at hi; exact hT.wf _ (hp.at hi)
  · rw [pick_len hp] at hi
    rw [pick_ty hp hi]; exact hT.fl _ (hp.at hi)
theorem pick_known (s : List UInt8) : whereN (pick D p) s = none ↔ whereN D s = none := by
  rw [known_iff, known_iff]
  exact ⟨fun h d hd => h d ((pick_mem hp).2 hd), fun h d hd => h d ((pick_mem hp).1 hd)⟩
end
/-- names stand once -/
def Once (D : List Df) : Prop := ∀ i, i < D.length → ∀ j, j < D.length → (D.getD i df0).name = (D.getD j df0).name → i = j
theorem once_iff (D : List Df) : (∀ i, i < D.length → whereN D (D.getD i df0).name = some i) ↔ Once D := by
  constructor
  · intro h i hi j hj he
    have h1 := h i hi
    rw [he, h j hj] at h1
    exact (Option.some.inj h1).symm
  · intro h i hi
    cases hw : whereN D (D.getD i df0).name with
    | none => exact absurd rfl (by have := whereN_none hw _ (List.getElem_mem hi); rwa [getD_at hi] at this)
    | some k =>
      obtain ⟨hk, he, -⟩ := whereN_some hw
      rw [h k hk i hi (by rw [getD_at hk]; exact he)]
theorem once_where {D : List Df} (h : Once D) {i : Nat} (hi : i < D.length) {s : List UInt8} (hs : (D.getD i df0).name = s) : whereN D s = some i := by
  rw [← hs]; exact (once_iff D).2 h i hi
theorem resF_iff {D : List Df} {T : Nat → Tr} : resF D T = none ↔ Once D ∧ ∀ i, i < D.length → ∀ j, j < (tyD D i).length → ¬ j ∈ dupT (T i) 0 ∧ ¬ (((tyD D i).getD j ex0).kind = 9 ∧ whereN D ((tyD D i).getD j ex0).name = none) := by
  constructor
  · intro h
    have h1 := firstN_none h
    refine ⟨(once_iff D).1 fun i hi => ?_, fun i hi j hj => ?_⟩
    · have h2 := h1 i hi
      unfold defF at h2
      split at h2
      · assumption
      · cases h2
    · have h2 := h1 i hi
      unfold defF at h2
      split at h2
      · have h3 := firstN_none h2 j hj
        unfold nodeF at h3
        split at h3
        · cases h3
        · rename_i hn
          refine ⟨hn, ?_⟩
          split at h3
          · cases h3
          · assumption
      · cases h2
  · rintro ⟨h1, h2⟩
    refine firstN_miss fun i hi => ?_
    unfold defF
    rw [if_pos ((once_iff D).2 h1 i hi)]
    refine firstN_miss fun j hj => ?_
    obtain ⟨h3, h4⟩ := h2 i hi j hj
    unfold nodeF
    rw [if_neg h3, if_neg h4]
theorem once_of {E : List Df} (h : resA E = none) (hc : (chkS E).2.2 = 0) : Once E := by
  rw [resA_ok hc] at h
  exact (resF_iff.1 h).1
theorem good_iff (E : List Df) : fA E = none ↔ Good E := ⟨good_of, fun h => by unfold fA; rw [h.res, h.rn, h.dn]; rfl⟩
section
variable {D : List Df} {p : List Nat} (hp : Pm D.length p)
include hp
theorem pick_once : Once (pick D p) ↔ Once D := by
  constructor
  · intro h i hi j hj he
    obtain ⟨a, ha, rfl⟩ := hp.sur hi
    obtain ⟨b, hb, rfl⟩ := hp.sur hj
    rw [h a (by rw [pick_len hp]; exact ha) b (by rw [pick_len hp]; exact hb) (by rw [pick_at hp ha, pick_at hp hb]; exact he)]
  · intro h i hi j hj he
    rw [pick_len hp] at hi hj
    rw [pick_at hp hi, pick_at hp hj] at he
    exact hp.inj hi hj (h _ (hp.at hi) _ (hp.at hj) he)
theorem pick_res (hck : (chkS D).2.2 = 0) : resA (pick D p) = none ↔ resA D = none := by
  have hck2 := (pick_ck hp).2 hck
  have hT := trd_of hck
  rw [resA_ok hck, resA_ok hck2, resF_congr ((trd_of hck2).uniq (pick_trd hp hT)), resF_iff, resF_iff, pick_once hp, pick_len hp]
  refine and_congr Iff.rfl ?_
  constructor
  · intro h i hi j hj
    obtain ⟨a, ha, rfl⟩ := hp.sur hi
    have h1 := h a ha j (by rw [pick_ty hp ha]; exact hj)
    rw [pick_ty hp ha] at h1
    exact ⟨h1.1, fun hh => h1.2 ⟨hh.1, (pick_known hp _).2 hh.2⟩⟩
  · intro h i hi j hj
    rw [pick_ty hp hi] at hj ⊢
    have h1 := h _ (hp.at hi) j hj
    exact ⟨h1.1, fun hh => h1.2 ⟨hh.1, (pick_known hp _).1 hh.2⟩⟩
theorem pick_wh (ho : Once D) {s : List UInt8} (hs : ¬ whereN D s = none) : whD (pick D p) s < D.length ∧ p.getD (whD (pick D p) s) 0 = whD D s := by
  cases hw : whereN D s with
  | none => exact absurd hw hs
  | some k =>
    obtain ⟨hk, he, -⟩ := whereN_some hw
    obtain ⟨a, ha, hak⟩ := hp.sur hk
    have h1 : whereN (pick D p) s = some a := once_where ((pick_once hp).2 ho) (by rw [pick_len hp]; exact ha) (by rw [pick_at hp ha, hak, getD_at hk]; exact he)
    unfold whD
    rw [h1, hw]
    exact ⟨ha, hak⟩
theorem pick_us (ho : Once D) (hk : kn9 D) {a : Nat} (ha : a < D.length) {b : Nat} : Us (usesD (pick D p)) a b → b < D.length ∧ Us (usesD D) (p.getD a 0) (p.getD b 0) := by
  intro h
  obtain ⟨x, h1, h2, h3⟩ := (uses_iff _ _ _).1 h
  rw [pick_ty hp ha] at h1
  have hwn : ¬ whereN D x.name = none := fun hn => by
    obtain ⟨k, hk⟩ := hk _ (List.getElem_mem (hp.at ha)) x (by rw [← tyD_at (hp.at ha)]; exact h1) h2
    rw [hk] at hn; cases hn
  obtain ⟨g1, g2⟩ := pick_wh hp ho hwn
  rw [h3] at g1 g2
  exact ⟨g1, (uses_iff _ _ _).2 ⟨x, h1, h2, g2.symm⟩⟩
theorem pick_us2 (ho : Once D) (hk : kn9 D) {a : Nat} (ha : a < D.length) {c : Nat} (h : Us (usesD D) (p.getD a 0) c) : ∃ b, b < D.length ∧ p.getD b 0 = c ∧ Us (usesD (pick D p)) a b := by
  obtain ⟨x, h1, h2, h3⟩ := (uses_iff _ _ _).1 h
  have hwn : ¬ whereN D x.name = none := fun hn => by
    obtain ⟨k, hk⟩ := hk _ (List.getElem_mem (hp.at ha)) x (by rw [← tyD_at (hp.at ha)]; exact h1) h2
    rw [hk] at hn; cases hn
  obtain ⟨g1, g2⟩ := pick_wh hp ho hwn
  exact ⟨_, g1, by rw [g2]; exact h3, (uses_iff _ _ _).2 ⟨x, by rw [pick_ty hp ha]; exact h1, h2, rfl⟩⟩
theorem pick_tg (ho : Once D) (hk : kn9 D) {a : Nat} (ha : a < D.length) {b : Nat} (h : Relation.TransGen (Us (usesD (pick D p))) a b) : b < D.length ∧ Relation.TransGen (Us (usesD D)) (p.getD a 0) (p.getD b 0) := by
  induction h with
  | single h1 =>
    obtain ⟨g1, g2⟩ := pick_us hp ho hk ha h1
    exact ⟨g1, .single g2⟩
  | tail _ h1 ih =>
    obtain ⟨g1, g2⟩ := pick_us hp ho hk ih.1 h1
    exact ⟨g1, ih.2.tail g2⟩
theorem pick_tg2 (ho : Once D) (hk : kn9 D) {a : Nat} (ha : a < D.length) {c : Nat} (h : Relation.TransGen (Us (usesD D)) (p.getD a 0) c) : ∃ b, b < D.length ∧ p.getD b 0 = c ∧ Relation.TransGen (Us (usesD (pick D p))) a b := by
  induction h with
  | single h1 =>
    obtain ⟨b, g1, g2, g3⟩ := pick_us2 hp ho hk ha h1
    exact ⟨b, g1, g2, .single g3⟩
  | tail _ h1 ih =>
    obtain ⟨b, g1, g2, g3⟩ := ih
    rw [← g2] at h1
    obtain ⟨b2, k1, k2, k3⟩ := pick_us2 hp ho hk g1 h1
    exact ⟨b2, k1, k2, g3.tail k3⟩
theorem pick_ring (ho : Once D) (hk : kn9 D) : ringF (pick D p) = none ↔ ringF D = none := by
  constructor
  · intro h
    refine ring_none fun j hj ht => ?_
    obtain ⟨a, ha, rfl⟩ := hp.sur hj
    obtain ⟨b, g1, g2, g3⟩ := pick_tg2 hp ho hk ha ht
    have := hp.inj g1 ha g2
    subst this
    exact ringF_none h b (by rw [pick_len hp]; exact ha) g3
  · intro h
    refine ring_none fun j hj ht => ?_
    rw [pick_len hp] at hj
    exact ringF_none h _ (hp.at hj) (pick_tg hp ho hk hj ht).2
theorem pick_dep {T : Nat → Tr} (hT : Trd D T) (ho : Once D) (hk : kn9 D) (hk2 : kn9 (pick D p)) (hr : ringF D = none) : ∀ i, i < D.length → depN (pick D p) (fun i => T (p.getD i 0)) i = depN D T (p.getD i 0) := by
  have hr2 := (pick_ring hp ho hk).2 hr
  obtain ⟨t1, l1⟩ := ord_told hk (ringF_none hr)
  obtain ⟨t2, l2⟩ := ord_told hk2 (ringF_none hr2)
  have hT2 := pick_trd hp hT
  have hn := pick_len hp
  have key : ∀ q (hq : q < (ordN (pick D p)).length), depN (pick D p) (fun i => T (p.getD i 0)) (ordN (pick D p))[q] = depN D T (p.getD (ordN (pick D p))[q] 0) := by
    intro q
    induction q using Nat.strongRecOn with
    | _ q ih =>
      intro hq
      have hi : (ordN (pick D p))[q] < (pick D p).length := t2.lt _ (List.getElem_mem hq)
      have hi' : (ordN (pick D p))[q] < D.length := by rw [← hn]; exact hi
      rw [dep_fix hT2 t2 l2 _ hi, dep_fix hT t1 l1 _ (hp.at hi')]
      have hfl := hT.fl _ (hp.at hi')
      have h1 : ∀ x ∈ (T (p.getD (ordN (pick D p))[q] 0)).flat, x.kind = 9 → depN (pick D p) (fun i => T (p.getD i 0)) (whD (pick D p) x.name) = depN D T (whD D x.name) := fun x hx h9 => by
        rw [hfl] at hx
        have hwn : ¬ whereN D x.name = none := fun hnn => by
          obtain ⟨k, hkk⟩ := hk _ (List.getElem_mem (hp.at hi')) x (by rw [← tyD_at (hp.at hi')]; exact hx) h9
          rw [hkk] at hnn; cases hnn
        obtain ⟨g1, g2⟩ := pick_wh hp ho hwn
        have hu : whD (pick D p) x.name ∈ usesD (pick D p) (ordN (pick D p))[q] := (uses_iff _ _ _).2 ⟨x, by rw [pick_ty hp hi']; exact hx, h9, rfl⟩
        have hm := t2.bh q hq _ hu
        obtain ⟨r, hr, he⟩ := List.getElem_of_mem hm
        rw [List.length_take] at hr
        rw [List.getElem_take] at he
        have h3 := ih r (by omega) (by omega)
        rw [he] at h3
        rw [h3, g2]
      exact depT_two h1
  intro i hi
  obtain ⟨q, hq, he⟩ := List.getElem_of_mem (t2.all l2 i (by rw [hn]; exact hi))
  have h := key q hq
  rw [he] at h
  exact h
theorem pick_good : Good (pick D p) ↔ Good D := by
  have main : (chkS D).2.2 = 0 → resA D = none → ringF D = none → (deepF (pick D p) (TD (pick D p)) = none ↔ deepF D (TD D) = none) := by
    intro hc hr hn
    have hc2 := (pick_ck hp).2 hc
    have hr2 := (pick_res hp hc).2 hr
    have hd := pick_dep hp (trd_of hc) (once_of hr hc) (kn9_of hr hc) (kn9_of hr2 hc2) hn
    have hd2 : ∀ i, i < D.length → depN (pick D p) (TD (pick D p)) i = depN D (TD D) (p.getD i 0) := fun i hi => by
      rw [depN_congr ((trd_of hc2).uniq (pick_trd hp (trd_of hc)))]
      exact hd i hi
    constructor
    · intro h
      refine firstN_miss fun k hk => ?_
      obtain ⟨a, ha, rfl⟩ := hp.sur hk
      have h1 := firstN_none h a (by rw [pick_len hp]; exact ha)
      rw [hd2 a ha] at h1
      split at h1
      · cases h1
      · rename_i hh; exact if_neg hh
    · intro h
      refine firstN_miss fun a ha => ?_
      rw [pick_len hp] at ha
      have h1 := firstN_none h _ (hp.at ha)
      rw [hd2 a ha]
      split at h1
      · cases h1
      · rename_i hh; exact if_neg hh
  constructor
  · intro h
    have hc := (pick_ck hp).1 h.ck
    have hr := (pick_res hp hc).1 h.res
    have hn := (pick_ring hp (once_of hr hc) (kn9_of hr hc)).1 h.rn
    exact ⟨hc, hr, hn, (main hc hr hn).1 h.dn⟩
  · intro h
    exact ⟨(pick_ck hp).2 h.ck, (pick_res hp h.ck).2 h.res, (pick_ring hp (once_of h.res h.ck) h.kn).2 h.rn, (main h.ck h.res h.rn).2 h.dn⟩
theorem pick_fA : fA (pick D p) = none ↔ fA D = none := by rw [good_iff, good_iff]; exact pick_good hp
theorem pick_depR (h : fA D = none) {i : Nat} (hi : i < D.length) : (depR (pick D p)).getD i 0 = (depR D).getD (p.getD i 0) 0 := by
  have hG := good_of h
  have hG2 := (pick_good hp).2 hG
  have hd := pick_dep hp hG.trd (once_of hG.res hG.ck) hG.kn hG2.kn hG.rn i hi
  rw [depR_ok h, depR_ok ((pick_fA hp).2 h)]
  have e : ∀ (m : Nat) (f : Nat → Nat) (k : Nat), k < m → ((List.range m).map f).getD k 0 = f k := fun m f k hk => by
    rw [List.getD_eq_getElem?_getD, List.getElem?_map, List.getElem?_range hk]; rfl
  rw [e _ _ _ (by rw [pick_len hp]; exact hi), e _ _ _ (hp.at hi), depN_congr (hG2.trd.uniq (pick_trd hp hG.trd))]
  exact hd
end

end Go.Proofs.Ytgcehajdldicfaa

set_option linter.unusedSimpArgs false
set_option linter.unusedVariables false
set_option maxRecDepth 100000
namespace Go.Proofs.Ytgcehajdldicfaa
open Go Go.Vc Go.RowKit Go.Proofs

/-- told ones, and those that are left -/
structure Pq (n : Nat) (od lf : List Nat) : Prop where
  nd : (od ++ lf).Nodup
  lt : ∀ i ∈ od ++ lf, i < n
  len : (od ++ lf).length = n
theorem Pq.start (n : Nat) : Pq n [] (List.range n) := ⟨by simpa using List.nodup_range, fun i hi => by simpa using hi, by simp⟩
theorem take_drop_perm {lf : List Nat} {k : Nat} (hk : k < lf.length) : (lf[k] :: (lf.take k ++ lf.drop (k + 1))).Perm lf := by
  have h1 : lf = lf.take k ++ lf[k] :: lf.drop (k + 1) := by
    rw [← List.drop_eq_getElem_cons hk, List.take_append_drop]
  have h2 : (lf.take k ++ lf[k] :: lf.drop (k + 1)).Perm (lf[k] :: (lf.take k ++ lf.drop (k + 1))) := List.perm_middle
  rw [← h1] at h2
  exact h2.symm
theorem Pq.step {n : Nat} {od lf : List Nat} (h : Pq n od lf) {k : Nat} (hk : k < lf.length) : Pq n (od ++ [lf[k]]) (lf.take k ++ lf.drop (k + 1)) := by
  have hp : ((od ++ [lf[k]]) ++ (lf.take k ++ lf.drop (k + 1))).Perm (od ++ lf) := by
    rw [List.append_assoc]
    exact List.Perm.append_left od (take_drop_perm hk)
  exact ⟨hp.nodup_iff.2 h.nd, fun i hi => h.lt i (hp.mem_iff.1 hi), by rw [hp.length_eq, h.len]⟩
theorem Pq.done {n : Nat} {od : List Nat} (h : Pq n od []) : Pm n od := by
  have h1 := h.nd
  have h2 := h.lt
  have h3 := h.len
  rw [List.append_nil] at h1 h2 h3
  refine ⟨h1, h2, fun i hi => ?_, h3⟩
  refine Classical.byContradiction fun hm => ?_
  have := nodup_len n (i :: od) (List.nodup_cons.2 ⟨hm, h1⟩) (fun x hx => by
    rcases List.mem_cons.1 hx with rfl | hx
    · exact hi
    · exact h2 x hx)
  rw [List.length_cons] at this
  omega
def VP (V : Nat → Value) (od : List Nat) : Nat → Value := fun j => V (od.getD j 0)
theorem pick_snoc (D : List Df) (V : Nat → Value) (od : List Nat) (x : Nat) : drows (pick D (od ++ [x])) (VP V (od ++ [x])) = drows (pick D od) (VP V od) ++ dcell (D.getD x df0) (V x) := by
  have hl : (pick D (od ++ [x])).length = (pick D od).length + 1 := by simp [pick]
  have hl2 : (pick D od).length = od.length := by simp [pick]
  rw [drows, drows, hl, List.range_succ, List.flatMap_append, List.flatMap_singleton]
  congr 1
  · refine dfm_congr fun j hj => ?_
    have hj := List.mem_range.1 hj
    rw [hl2] at hj
    have e1 : (pick D (od ++ [x])).getD j df0 = (pick D od).getD j df0 := by
      unfold pick
      rw [List.map_append, List.getD_eq_getElem?_getD, List.getD_eq_getElem?_getD, List.getElem?_append_left (by simpa using hj)]
    have e2 : VP V (od ++ [x]) j = VP V od j := by
      unfold VP
      rw [List.getD_eq_getElem?_getD, List.getD_eq_getElem?_getD, List.getElem?_append_left hj]
    rw [e1, e2]
  · have e1 : (pick D (od ++ [x])).getD (pick D od).length df0 = D.getD x df0 := by
      unfold pick
      rw [List.map_append, List.getD_eq_getElem?_getD, List.getElem?_append_right (Nat.le_refl _), Nat.sub_self]
      rfl
    have e2 : VP V (od ++ [x]) (pick D od).length = V x := by
      unfold VP
      rw [hl2, List.getD_eq_getElem?_getD, List.getElem?_append_right (Nat.le_refl _), Nat.sub_self]
      rfl
    rw [e1, e2]
theorem pick_rd {w : World} {D : List Df} {dv tdv : Value} {V : Nat → Value} {od : List Nat} {B : Nat} (h : DefR w D dv V) (hp : Pm D.length od) (hr : w.ownsRow B 39 3 tdv od.length (drows (pick D od) (VP V od))) : DefR w (pick D od) tdv (VP V od) := by
  have hl : (pick D od).length = od.length := by simp [pick]
  refine ⟨by rw [hl]; exact Sl.own hr, fun j hj => ?_⟩
  rw [hl, hp.len] at hj
  rw [pick_ty hp hj]
  exact h.tys _ (hp.at hj)
theorem pick_ok {D : List Df} {od : List Nat} (h : DOk D) (hp : Pm D.length od) : DOk (pick D od) :=
  ⟨by rw [pick_len hp]; exact h.len, fun d hd => h.ty d ((pick_mem hp).1 hd), fun d hd => h.nm d ((pick_mem hp).1 hd), fun d hd => h.ex d ((pick_mem hp).1 hd)⟩
theorem tmod_lt {z : Int} {n : Nat} (hn : 0 < n) : -(n : Int) < z.tmod n ∧ z.tmod n < n := by
  have h1 := Int.tmod_lt_of_pos z (show (0 : Int) < (n : Int) by omega)
  have h2 := Int.lt_tmod_of_pos z (show (0 : Int) < (n : Int) by omega)
  omega
set_option maxHeartbeats 8000000 in
theorem shuffled_walk (w0 : World) (D : List Df) (dv : Value) (V : Nat → Value) (hD : DefR w0 D dv V) (hlim : DOk D) (tuv : Value) (ts : List Int) (hts : ts.length ≤ 9223372036854775807) (hS1 : Sl w0 1 tuv ts.length (ts.map (Value.int .i64))) : Ca Try.prog 6 #[.agg #[dv], tuv] w0 (fun v w' => v = .bool true ∧ Ext w0 w') := by
  have hlen := hlim.len
  have hD00 := hD
  replace hS1 : Sl w0 1 tuv ts.length (ts.map zv) := hS1
  have hS00 := hS1
  obtain ⟨er, at_, hf⟩ : ∃ er at_, flt D = (er, at_) := ⟨_, _, rfl⟩
  obtain ⟨B, hB⟩ : ∃ B, B = w0.heap.size := ⟨_, rfl⟩
  refine Ca.of Try.func6 Try.ntmps6 rfl rfl ?_
  refine W.seq ?_
  refine W.region ?_
  refine WL.c rfl (o_boxB rfl ?_)
  intro w2 hC2 hx2 hs2
  obtain ⟨b2, hb2⟩ : ∃ b, b = w0.heap.size := ⟨_, rfl⟩
  rw [← hb2] at hC2 ⊢
  replace hC2 : w2.heap[b2]? = some (.cells ([dv]).toArray 24 (0, 0)) := hC2
  have hx := hx2
  replace hD := hD.ext hx2
  replace hS1 := hS1.ext hx2
  refine WL.c rfl (o_ash (show _ = Value.bool _ from rfl) ?_)
  refine WL.nil ?_
  refine W.seq ?_
  refine W.seq ?_
  refine W.region ?_
  refine WL.c rfl (o_call Try.call9 ln ((n8_first _).mono ?_))
  rintro v19 w19 ⟨rfl, hx19⟩
  replace hx := hx.tr hx19
  replace hD := hD.ext hx19
  replace hC2 := hx19.blk hC2 (fun h => h)
  replace hS1 := hS1.ext hx19
  refine WL.c rfl (o_not' rfl ?_)
  refine WL.nil ?_
  refine W.condF' rfl (by simp) ?_
  refine W.skip ?_
  refine W.seq ?_
  refine W.region ?_
  refine WL.c rfl (o_ash (by first | exact (show _ = Value.slice _ _ _ from rfl) | exact rfl) ?_)
  refine WL.nil ?_
  refine W.seq ?_
  refine W.seq ?_
  refine W.region ?_
  refine WL.c rfl (o_ash (show _ = Value.int _ _ from rfl) ?_)
  refine WL.nil ?_
  refine W.block ?_
  refine W.loop (fun e w => ∃ (i : Nat) (lv : Value), i ≤ D.length ∧ e 1 = tuv ∧ e 2 = .pointer (some ⟨b2, 0, none⟩) ∧ e 5 = lv ∧ e 6 = .int .i64 (i : Int) ∧ w.ownsRow B 3 1 lv i ((List.range i).map iv) ∧ DefR w D dv V ∧ w.heap[b2]? = some (.cells #[dv] 24 (0, 0)) ∧ Sl w 1 tuv ts.length (ts.map zv) ∧ Ext w0 w) (fun e w => D.length - (intOf (e 6)).toNat) ?_ ?_
  · exact ⟨0, .slice none 0 0, Nat.zero_le _, rfl, rfl, rfl, rfl, World.ownsRow_nil _ _ _ _, hD, hC2, hS1, hx⟩
  rintro e w ⟨i, lv, hi, h1, h2, h5, h6, hlr, hD, hC2, hS1, hx⟩
  have hm6 := h6
  refine W.seq ?_
  refine W.seq ?_
  refine W.region ?_
  refine WL.c rfl (o_mvh h6 ?_)
  refine WL.c rfl (o_fa 0 TI24 rfl TI22 rfl h2 ?_)
  refine WL.c rfl (o_ld TI22 rfl rfl (cell_of hC2 rfl) ?_)
  refine WL.c rfl (o_lenR TI22 rfl hD.row ?_)
  refine WL.c rfl (o_lt rfl rfl ?_)
  refine WL.nil ?_
  refine W.cond rfl (fun c25 => ?_) (fun c25 => ?_)
  · try simp only [decide_eq_true_eq, decide_eq_false_iff_not, Bool.not_eq_true', Bool.not_eq_false', Bool.and_eq_true, Bool.or_eq_true, Bool.and_eq_false_iff, Bool.or_eq_false_iff] at c25
    have hi1 : i < D.length := by omega
    obtain ⟨aa, cc, rfl, hcc⟩ := own_form hlr
    have hxs := hx.size
    refine W.skip ?_
    refine W.seq ?_
    refine W.block ?_
    refine W.region ?_
    refine WL.c rfl (o_mvh h5 ?_)
    refine WL.c rfl (o_mvh h6 ?_)
    refine WL.apO (B) rfl rfl TI34 TI3 (show _ = Value.int _ _ from rfl) rfl hlr (by decide) (by decide) rfl (one1 rfl) rfl (by rw [maxLen_eq]; omega) (by omega) (by rw [hB]; exact hx.size) ?_
    intro v31 w31 hrow31 ho31 hb31 _
    have hlo : ∀ b, (Value.slice aa i cc).ownBlock = some b → B ≤ b := fun b hb => (hlr.lt b hb).1
    replace hC2 := ho31.blk hC2 (fun hb => own_off hlr hC2 (by decide) hb)
    replace hx := hx.trans' ho31 (fun _ h => h) (fun b hb he => by have := hlo b he; omega)
    replace hD := hD00.ext hx
    replace hS1 := hS00.ext hx
    refine WL.c rfl (o_ash (by first | exact (show _ = Value.slice _ _ _ from rfl) | exact rfl) ?_)
    refine WL.nil ?_
    refine W.region ?_
    refine WL.c rfl (o_mvh h6 ?_)
    refine WL.c rfl (o_addi rfl rfl (by omega) ?_)
    refine WL.c rfl (o_ash (show _ = Value.int _ _ from rfl) ?_)
    refine WL.nil ?_
    refine ⟨⟨i + 1, v31, by omega, h1, h2, rfl, rfl, by rw [List.range_succ, List.map_append]; exact hrow31, hD, hC2, hS1, hx⟩, ?_⟩
    show D.length - ((i : Int) + 1).toNat < _
    rw [hm6]; simp [intOf]; omega
  · try simp only [decide_eq_true_eq, decide_eq_false_iff_not, Bool.not_eq_true', Bool.not_eq_false', Bool.and_eq_true, Bool.or_eq_true, Bool.and_eq_false_iff, Bool.or_eq_false_iff] at c25
    have hi1 : i = D.length := by omega
    rw [hi1] at hlr
    refine W.exit ?_
    refine W.seq ?_
    refine W.region ?_
    refine WL.c rfl (o_ash (by first | exact (show _ = Value.slice _ _ _ from rfl) | exact rfl) ?_)
    refine WL.nil ?_
    refine W.seq ?_
    refine W.region ?_
    refine WL.c rfl (o_alB TI24 ?_)
    have hxq := hx
    have hC2w := hC2
    intro wb hC8 hxb hsb
    replace hx := hx.tr hxb
    replace hD := hD.ext hxb
    replace hC2 := hxb.blk hC2 (fun h => h)
    replace hS1 := hS1.ext hxb
    replace hlr := own_ext hlr hxb
    obtain ⟨c8, hc8⟩ : ∃ c, c = w.heap.size := ⟨_, rfl⟩
    rw [← hc8] at hC8 ⊢
    replace hC8 : wb.heap[c8]? = some (.cells #[.slice none 0 0] 24 (0, 0)) := hC8
    have hz8 : B ≤ c8 := by rw [hc8, hB]; exact hxq.size
    have hn28 : ¬ b2 = c8 := by have := (Array.getElem?_eq_some_iff.1 hC2w).1; omega
    clear hxq hxb
    refine WL.nil ?_
    refine W.seq ?_
    refine W.seq ?_
    refine W.region ?_
    refine WL.c rfl (o_ash (show _ = Value.int _ _ from rfl) ?_)
    refine WL.nil ?_
    refine W.block ?_
    refine W.loop (fun e w => ∃ (i : Nat) (lf od : List Nat) (lv ov tdv : Value), i + lf.length = D.length ∧ od.length = i ∧ Pq D.length od lf ∧ e 1 = tuv ∧ e 2 = .pointer (some ⟨b2, 0, none⟩) ∧ e 5 = lv ∧ e 7 = ov ∧ e 8 = .pointer (some ⟨c8, 0, none⟩) ∧ e 9 = .int .i64 (i : Int) ∧ w.heap[c8]? = some (.cells #[tdv] 24 (0, 0)) ∧ w.ownsRow B 3 1 lv lf.length (lf.map iv) ∧ w.ownsRow B 3 1 ov od.length (od.map iv) ∧ (∀ b, ov.ownBlock = some b → ¬ lv.ownBlock = some b) ∧ w.ownsRow B 39 3 tdv od.length (drows (pick D od) (VP V od)) ∧ DefR w D dv V ∧ w.heap[b2]? = some (.cells #[dv] 24 (0, 0)) ∧ Sl w 1 tuv ts.length (ts.map zv) ∧ Ext w0 w) (fun e w => slen (e 5)) ?_ ?_
    · exact ⟨0, List.range D.length, [], lv, .slice none 0 0, .slice none 0 0, by simp, rfl, Pq.start _, h1, h2, h5, rfl, rfl, rfl, hC8, by rw [List.length_range]; exact hlr, World.ownsRow_nil _ _ _ _, fun b hb => (by cases hb), World.ownsRow_nil _ _ _ _, hD, hC2, hS1, hx⟩
    rintro e w ⟨i, lf, od, lv, ov, tdv, hil, hodl, hpq, h1, h2, h5, h7, h8, h9, hC8, hlr, hor, hne, hrt, hD, hC2, hS1, hx⟩
    have hm5 := h5
    have hpl := hpq.len
    rw [List.length_append] at hpl
    refine W.seq ?_
    refine W.seq ?_
    refine W.region ?_
    refine WL.c rfl (o_mvh h5 ?_)
    refine WL.c rfl (o_lenR TI34 rfl (Sl.own hlr) ?_)
    refine WL.c rfl (o_gt rfl rfl ?_)
    refine WL.nil ?_
    refine W.cond rfl (fun c34 => ?_) (fun c34 => ?_)
    · try simp only [decide_eq_true_eq, decide_eq_false_iff_not, Bool.not_eq_true', Bool.not_eq_false', Bool.and_eq_true, Bool.or_eq_true, Bool.and_eq_false_iff, Bool.or_eq_false_iff] at c34
      have hl0 : 0 < lf.length := by omega
      have hn0 : 0 < D.length := by omega
      obtain ⟨gl, cl, rfl, -⟩ := own_some hlr hl0
      obtain ⟨gb, go, gc, rfl, -, -⟩ := hD.atk hn0
      refine W.skip ?_
      refine W.seq ?_
      refine W.block ?_
      refine W.seq ?_
      refine W.region ?_
      refine WL.c rfl (o_ash (show _ = Value.int _ _ from rfl) ?_)
      refine WL.nil ?_
      refine W.seq ?_
      refine W.seq ?_
      refine W.region ?_
      refine WL.c rfl (o_mvh h1 ?_)
      refine WL.c rfl (o_lenR TI34 rfl hS1 ?_)
      refine WL.c rfl (o_gt rfl rfl ?_)
      refine WL.nil ?_
      refine W.cut (fun e1 w1 => ∃ k : Nat, k < lf.length ∧ e1 1 = tuv ∧ e1 2 = .pointer (some ⟨b2, 0, none⟩) ∧ e1 5 = .slice (some ⟨gl, 0, none⟩) lf.length cl ∧ e1 7 = ov ∧ e1 8 = .pointer (some ⟨c8, 0, none⟩) ∧ e1 9 = .int .i64 (i : Int) ∧ e1 10 = .int .i64 (k : Int) ∧ w1.heap[c8]? = some (.cells #[tdv] 24 (0, 0)) ∧ w1.ownsRow B 3 1 (.slice (some ⟨gl, 0, none⟩) lf.length cl) lf.length (lf.map iv) ∧ w1.ownsRow B 3 1 ov od.length (od.map iv) ∧ (∀ b, ov.ownBlock = some b → ¬ (Value.slice (some ⟨gl, 0, none⟩) lf.length cl).ownBlock = some b) ∧ w1.ownsRow B 39 3 tdv od.length (drows (pick D od) (VP V od)) ∧ DefR w1 D (.slice (some ⟨gb, go, none⟩) D.length gc) V ∧ w1.heap[b2]? = some (.cells #[.slice (some ⟨gb, go, none⟩) D.length gc] 24 (0, 0)) ∧ Sl w1 1 tuv ts.length (ts.map zv) ∧ Ext w0 w1) ?_ ?_
      · -- both ways
        refine W.cond rfl (fun c39 => ?_) (fun c39 => ?_)
        · try simp only [decide_eq_true_eq, decide_eq_false_iff_not, Bool.not_eq_true', Bool.not_eq_false', Bool.and_eq_true, Bool.or_eq_true, Bool.and_eq_false_iff, Bool.or_eq_false_iff] at c39
          have ht0 : 0 < ts.length := by omega
          have htm : i % ts.length < ts.length := Nat.mod_lt _ ht0
          obtain ⟨ub, uo, uc, hU, hcell⟩ := Sl.at1 hS1 htm (u := zv ts[i % ts.length]) (by rw [List.getElem?_map, List.getElem?_eq_getElem htm]; rfl)
          obtain ⟨tz, htz⟩ : ∃ z, z = ts[i % ts.length] := ⟨_, rfl⟩
          rw [← htz] at hcell
          obtain ⟨hz1, hz2⟩ := tmod_lt (z := tz) hl0
          rw [hU] at h1
          refine W.seq ?_
          refine W.region ?_
          refine WL.c rfl (o_mvh h1 ?_)
          refine WL.c rfl (o_mvh h9 ?_)
          refine WL.c rfl (o_mvh h1 ?_)
          refine WL.c rfl (o_len TI34 rfl ?_)
          refine WL.c rfl (o_rem (a := (i : Int)) (b := (ts.length : Int)) rfl rfl (by omega) ?_)
          refine WL.c rfl (o_ixB (i := i % ts.length) TI34 TI3 (show _ = Value.slice (some ⟨ub, uo, none⟩) ts.length uc from rfl) (show _ = Value.int .i64 ((i % ts.length : Nat) : Int) from rfl) htm ?_)
          refine WL.c rfl (o_ld TI3 rfl rfl hcell ?_)
          refine WL.c rfl (o_mvh h5 ?_)
          refine WL.c rfl (o_lenR TI34 rfl (Sl.own hlr) ?_)
          refine WL.c rfl (o_rem (show _ = Value.int .i64 tz from rfl) rfl (by omega) ?_)
          obtain ⟨z, hz⟩ : ∃ z, z = tz.tmod (lf.length : Int) := ⟨_, rfl⟩
          rw [← hz] at hz1 hz2 ⊢
          rw [← hU] at h1
          refine WL.c rfl (o_ash (show _ = Value.int _ _ from rfl) ?_)
          refine WL.nil ?_
          refine W.seq ?_
          refine W.region ?_
          refine WL.c rfl (o_mvh (show _ = Value.int _ _ from rfl) ?_)
          refine WL.c rfl (o_lt rfl rfl ?_)
          refine WL.nil ?_
          refine W.cond rfl (fun c51 => ?_) (fun c51 => ?_)
          · try simp only [decide_eq_true_eq, decide_eq_false_iff_not, Bool.not_eq_true', Bool.not_eq_false', Bool.and_eq_true, Bool.or_eq_true, Bool.and_eq_false_iff, Bool.or_eq_false_iff] at c51
            obtain ⟨k, hk0⟩ : ∃ k : Nat, (k : Int) = z + (lf.length : Int) := ⟨(z + (lf.length : Int)).toNat, by omega⟩
            have hkl : k < lf.length := by omega
            refine W.region ?_
            refine WL.c rfl (o_mvh (show _ = Value.int _ _ from rfl) ?_)
            refine WL.c rfl (o_mvh h5 ?_)
            refine WL.c rfl (o_lenR TI34 rfl (Sl.own hlr) ?_)
            refine WL.c rfl (o_addi rfl rfl (by omega) ?_)
            rw [← hk0]
            refine WL.c rfl (o_ash (show _ = Value.int _ _ from rfl) ?_)
            refine WL.nil ?_
            exact ⟨k, hkl, h1, h2, h5, h7, h8, h9, by first | exact rfl | (subst hk0; exact rfl), hC8, hlr, hor, hne, hrt, hD, hC2, hS1, hx⟩
          · try simp only [decide_eq_true_eq, decide_eq_false_iff_not, Bool.not_eq_true', Bool.not_eq_false', Bool.and_eq_true, Bool.or_eq_true, Bool.and_eq_false_iff, Bool.or_eq_false_iff] at c51
            obtain ⟨k, rfl⟩ : ∃ k : Nat, z = (k : Int) := ⟨z.toNat, by omega⟩
            have hkl : k < lf.length := by omega
            refine W.skip ?_
            exact ⟨k, hkl, h1, h2, h5, h7, h8, h9, by first | exact rfl | (subst hk0; exact rfl), hC8, hlr, hor, hne, hrt, hD, hC2, hS1, hx⟩
        · try simp only [decide_eq_true_eq, decide_eq_false_iff_not, Bool.not_eq_true', Bool.not_eq_false', Bool.and_eq_true, Bool.or_eq_true, Bool.and_eq_false_iff, Bool.or_eq_false_iff] at c39
          have hkl : 0 < lf.length := hl0
          obtain ⟨k, hk0⟩ : ∃ k : Nat, k = 0 := ⟨_, rfl⟩
          have hkl : k < lf.length := by omega
          have h10 : e 10 = e 10 := rfl
          refine W.skip ?_
          exact ⟨k, hkl, h1, h2, h5, h7, h8, h9, by first | exact rfl | (subst hk0; exact rfl), hC8, hlr, hor, hne, hrt, hD, hC2, hS1, hx⟩
      rintro e w ⟨k, hkl, h1, h2, h5, h7, h8, h9, h10, hC8, hlr, hor, hne, hrt, hD, hC2, hS1, hx⟩
      refine W.seq ?_
      have hxk : lf[k] < D.length := hpq.lt _ (List.mem_append_right _ (List.getElem_mem hkl))
      have hlc : w.cell? ⟨gl, 0 + k * 1, none⟩ = some (.int .i64 (lf[k] : Int)) := by
        rw [Nat.zero_add, Nat.mul_one]
        exact own_cell hlr (by rw [List.getElem?_map, List.getElem?_eq_getElem hkl]; rfl)
      obtain ⟨oa, oc, rfl, -⟩ := own_form hor
      have hxs := hx.size
      refine W.region ?_
      refine WL.c rfl (o_mvh h7 ?_)
      refine WL.c rfl (o_mvh h5 ?_)
      refine WL.c rfl (o_mvh h10 ?_)
      refine WL.c rfl (o_ixB (i := k) TI34 TI3 (show _ = Value.slice (some ⟨gl, 0, none⟩) lf.length cl from rfl) (show _ = Value.int .i64 (k : Int) from rfl) hkl ?_)
      refine WL.c rfl (o_ld TI3 rfl rfl hlc ?_)
      refine WL.apO (B) rfl rfl TI34 TI3 (show _ = Value.int _ _ from rfl) rfl hor (by decide) (by decide) rfl (one1 rfl) rfl (by rw [maxLen_eq]; omega) (by omega) (by rw [hB]; exact hx.size) ?_
      intro v62 w62 hrow62 ho62 hb62 _
      have hlo : ∀ b, (Value.slice oa od.length oc).ownBlock = some b → B ≤ b := fun b hb => (hor.lt b hb).1
      replace hC2 := ho62.blk hC2 (fun hb => own_off hor hC2 (by decide) hb)
      replace hC8 := ho62.blk hC8 (fun hb => own_off hor hC8 (by decide) hb)
      have hltl := hlr.lt
      have hneN : ∀ b, v62.ownBlock = some b → ¬ (Value.slice (some ⟨gl, 0, none⟩) lf.length cl).ownBlock = some b := fun b hb hb2 => by
        rcases hb62 with h | h
        · rw [h] at hb; exact hne b hb hb2
        · rw [h] at hb
          have h1 := (hltl b hb2).2
          have h2 : _ = b := Option.some.inj hb
          omega
      replace hlr := own_only hlr ho62 (fun b hb hb2 => hne b hb2 hb)
      replace hrt := own_only hrt ho62 (own_row_off hor hrt (by decide))
      replace hor : w62.ownsRow B 3 1 v62 (od ++ [lf[k]]).length ((od ++ [lf[k]]).map iv) := by rw [List.map_append, List.length_append]; exact hrow62
      clear hne hltl
      replace hx := hx.trans' ho62 (fun _ h => h) (fun b hb he => by have := hlo b he; omega)
      replace hD := hD00.ext hx
      replace hS1 := hS00.ext hx
      refine WL.c rfl (o_ash (by first | exact (show _ = Value.slice _ _ _ from rfl) | exact rfl) ?_)
      refine WL.nil ?_
      refine W.seq ?_
      obtain ⟨wd, hwd⟩ : ∃ wd, wd = World.drew w62 := ⟨_, rfl⟩
      have hxd : Ext w62 wd := hwd ▸ Only.drew w62
      replace hx := hx.tr hxd
      replace hD := hD.ext hxd
      replace hC2 := hxd.blk hC2 (fun h => h)
      replace hS1 := hS1.ext hxd
      replace hC8 := hxd.blk hC8 (fun h => h)
      replace hlr := own_ext hlr hxd
      replace hor := own_ext hor hxd
      replace hrt := own_ext hrt hxd
      obtain ⟨gb2, go2, gc2, hve, htc, hty⟩ := hD.atk hxk
      cases hve
      have hlc : wd.cell? ⟨gl, 0 + k * 1, none⟩ = some (.int .i64 (lf[k] : Int)) := by
        rw [Nat.zero_add, Nat.mul_one]
        exact own_cell hlr (by rw [List.getElem?_map, List.getElem?_eq_getElem hkl]; rfl)
      refine W.drawT 11 (Ext) [(1, fun v _ => v = (tuv)), (2, fun v _ => v = (.pointer (some ⟨b2, 0, none⟩))), (5, fun v _ => v = (.slice (some ⟨gl, 0, none⟩) lf.length cl)), (7, fun v _ => v = (v62)), (8, fun v _ => v = (.pointer (some ⟨c8, 0, none⟩))), (9, fun v _ => v = (.int .i64 (i : Int))), (10, fun v _ => v = (.int .i64 (k : Int)))] rfl (by kernel_rfl) (Only.refl No) (fun _ _ _ h k => h.trans k) ⟨Mono.eq, Mono.eq, Mono.eq, Mono.eq, Mono.eq, Mono.eq, Mono.eq, trivial⟩ ⟨h1, h2, h5, rfl, h8, h9, h10, trivial⟩ ?_
      refine WD.p rfl (fun e w hR hh => by obtain ⟨h8, -⟩ := hh; exact SG.n (o_fa 0 TI24 rfl TI22 rfl h8 ⟨rfl, Only.refl No _⟩)) ?_
      refine WD.p rfl (fun e w hR hh => by obtain ⟨h63, -⟩ := hh; rw [← hwd] at hR; exact SG.n (o_ld TI22 rfl h63 (cell_of (hR.blk hC8 (fun h => h)) rfl) ⟨rfl, Only.refl No _⟩)) ?_
      refine WD.p rfl (fun e w hR hh => by obtain ⟨h2, -⟩ := hh; exact SG.n (o_fa 0 TI24 rfl TI22 rfl h2 ⟨rfl, Only.refl No _⟩)) ?_
      refine WD.p rfl (fun e w hR hh => by obtain ⟨h65, -⟩ := hh; rw [← hwd] at hR; exact SG.n (o_ld TI22 rfl h65 (cell_of (hR.blk hC2 (fun h => h)) rfl) ⟨rfl, Only.refl No _⟩)) ?_
      refine WD.p rfl (fun e w hR hh => by obtain ⟨h5, -⟩ := hh; exact SG.n (o_mvh h5 ⟨rfl, Only.refl No _⟩)) ?_
      refine WD.p rfl (fun e w hR hh => by obtain ⟨h10, -⟩ := hh; exact SG.n (o_mvh h10 ⟨rfl, Only.refl No _⟩)) ?_
      refine WD.p rfl (fun e w hR hh => by obtain ⟨h68, h67, -⟩ := hh; exact SG.n (o_ixB (i := k) TI34 TI3 h67 h68 hkl ⟨rfl, Only.refl No _⟩)) ?_
      refine WD.p rfl (fun e w hR hh => by obtain ⟨h69, -⟩ := hh; rw [← hwd] at hR; exact SG.n (o_ld TI3 rfl h69 (hR.cell hlc (fun h => h)) ⟨rfl, Only.refl No _⟩)) ?_
      refine WD.p rfl (fun e w hR hh => by obtain ⟨h70, h66, -⟩ := hh; exact SG.n (o_ixB (i := lf[k]) TI22 TI39 h66 h70 hxk ⟨rfl, Only.refl No _⟩)) ?_
      refine WD.p rfl (fun e w hR hh => by obtain ⟨h71, -⟩ := hh; rw [← hwd] at hR; exact SG.n (o_ldA TI39 rfl h71 (Cells.only htc hR (fun h => h)) rfl ⟨rfl, Only.refl No _⟩)) ?_
      refine WD.q (fun u w => w.ownsRow wd.heap.size 39 3 u 1 (dcell D[lf[k]] (V lf[k]))) (fun u w w2 hR hh => own_ext hh hR) rfl (fun e w hR hh => by obtain ⟨h72, -⟩ := hh; rw [← hwd] at hR; exact SG.n (o_bs1 TI22 TI39 h72 (by decide) (by decide) rfl ⟨own_mono (own_new1 rfl) hR.size, Only.alloc w _⟩)) ?_
      rintro e w hR ⟨h73, h72, h71, h70, h69, h68, h67, h66, h65, h64, h63, h1, h2, h5, h7, h8, h9, h10, -⟩
      rw [← hwd] at hR
      replace hx := hx.tr hR
      replace hD := hD.ext hR
      replace hC2 := hR.blk hC2 (fun h => h)
      replace hS1 := hS1.ext hR
      replace hC8 := hR.blk hC8 (fun h => h)
      replace hlr := own_ext hlr hR
      replace hor := own_ext hor hR
      replace hrt := own_ext hrt hR
      refine WL.c rfl (o_apO (B) TI22 TI39 h64 rfl hrt (Sl.own h73) rfl (by decide) (by simp only [dcell]; intro a ha; simp only [List.mem_cons, List.mem_nil_iff, or_false] at ha; rcases ha with rfl | rfl | rfl; exact rfl; exact rfl; exact sl_one1 hty) (by rw [maxLen_eq]; omega) (by omega) (by rw [hB]; exact hx.size) ?_)
      intro v74 w74 hrow74 ho74 hb74 _
      have hlo : ∀ b, tdv.ownBlock = some b → B ≤ b := fun b hb => (hrt.lt b hb).1
      replace hC2 := ho74.blk hC2 (fun hb => own_off hrt hC2 (by decide) hb)
      replace hC8 := ho74.blk hC8 (fun hb => own_off hrt hC8 (by decide) hb)
      replace hlr := own_only hlr ho74 (own_row_off hrt hlr (by decide))
      replace hor := own_only hor ho74 (own_row_off hrt hor (by decide))
      replace hrt : w74.ownsRow B 39 3 v74 (od ++ [lf[k]]).length (drows (pick D (od ++ [lf[k]])) (VP V (od ++ [lf[k]]))) := by rw [pick_snoc, getD_at hxk, List.length_append]; exact hrow74
      replace hx := hx.trans' ho74 (fun _ h => h) (fun b hb he => by have := hlo b he; omega)
      replace hD := hD00.ext hx
      replace hS1 := hS00.ext hx
      clear h73
      refine WL.c rfl (o_fa 0 TI24 rfl TI22 rfl h8 ?_)
      refine WL.u (o_stB TI22 (by first | exact rfl | exact h75) (show _ = v74 from rfl) (own_one hrt) hC8 (show 0 < 1 by decide) ?_)
      intro w75 hC8n ho75 hs75
      replace hC2 := ho75.blk hC2 hn28
      replace hlr := own_only hlr ho75 (fun b hb e => own_off hlr hC8 (by decide) (e ▸ hb))
      replace hor := own_only hor ho75 (fun b hb e => own_off hor hC8 (by decide) (e ▸ hb))
      replace hrt := own_only hrt ho75 (fun b hb e => own_off hrt hC8 (by decide) (e ▸ hb))
      replace hC8 : w75.heap[c8]? = some (.cells #[v74] 24 (0, 0)) := hC8n
      replace hx := hx.trans' ho75 (fun _ h => h) (fun b hb he => by omega)
      replace hD := hD00.ext hx
      replace hS1 := hS00.ext hx
      refine WL.nil ?_
      refine W.seq ?_
      refine W.region ?_
      refine WL.c rfl (o_ash (by first | exact (show _ = Value.slice _ _ _ from rfl) | exact rfl) ?_)
      refine WL.nil ?_
      refine W.seq ?_
      have hlt75 : ∀ b, v62.ownBlock = some b → b < w75.heap.size := fun b hb => (hor.lt b hb).2
      refine W.region ?_
      refine WL.c rfl (o_mvh (by first | exact (show _ = Value.slice _ _ _ from rfl) | exact rfl) ?_)
      refine WL.c rfl (o_mvh h5 ?_)
      refine WL.c rfl (o_mvh h10 ?_)
      refine WL.c rfl (o_sl TI34 TI3 (show _ = Value.slice (some ⟨gl, 0, none⟩) lf.length cl from rfl) (Sl.own hlr) Lo.n (Hi.s (h := k) (show _ = Value.int .i64 (k : Int) from rfl)) (Nat.zero_le _) (by omega) ?_)
      intro v79 hb79 hS79
      have hzB : B ≤ w75.heap.size := by rw [hB]; exact hx.size
      refine WL.c rfl (o_apO (w75.heap.size) TI34 TI3 rfl rfl (World.ownsRow_nil _ _ _ _) hS79 rfl (by decide) (fun a ha => one_iv lf a (List.mem_of_mem_drop (List.mem_of_mem_take ha))) (by rw [maxLen_eq]; omega) (by omega) (Nat.le_refl _) ?_)
      intro v80 w80 hrow80 ho80 hb80 _
      have hx80 : Ext w75 w80 := ho80.mono (fun j _ h => by cases h)
      replace hrow80 : w80.ownsRow w75.heap.size 3 1 v80 k ((lf.take k).map iv) := by
        have e1 : ([] : List Value) ++ (((lf.map iv).drop (0 * 1)).take ((k - 0) * 1)) = (lf.take k).map iv := by simp [List.map_take]
        have e2 : 0 + (k - 0) = k := by omega
        rw [e1, e2] at hrow80
        exact hrow80
      replace hx := hx.tr hx80
      replace hD := hD.ext hx80
      replace hC2 := hx80.blk hC2 (fun h => h)
      replace hS1 := hS1.ext hx80
      replace hC8 := hx80.blk hC8 (fun h => h)
      replace hlr := own_ext hlr hx80
      replace hor := own_ext hor hx80
      replace hrt := own_ext hrt hx80
      have hltO := hor.lt
      refine WL.c rfl (o_ash (by first | exact (show _ = Value.slice _ _ _ from rfl) | exact rfl) ?_)
      refine WL.nil ?_
      refine W.region ?_
      refine WL.c rfl (o_mvh (by first | exact (show _ = Value.slice _ _ _ from rfl) | exact rfl) ?_)
      refine WL.c rfl (o_mvh h5 ?_)
      refine WL.c rfl (o_mvh h10 ?_)
      refine WL.c rfl (o_addi rfl rfl (by omega) ?_)
      refine WL.c rfl (o_sl TI34 TI3 (show _ = Value.slice (some ⟨gl, 0, none⟩) lf.length cl from rfl) (Sl.own hlr) (Lo.s (l := k + 1) (show _ = Value.int .i64 ((k + 1 : Nat) : Int) from rfl)) Hi.n (by omega) (Nat.le_refl _) ?_)
      intro v85 hb85 hS85
      refine WL.c rfl (o_apO (w75.heap.size) TI34 TI3 rfl rfl hrow80 hS85 rfl (by decide) (fun a ha => one_iv lf a (List.mem_of_mem_drop (List.mem_of_mem_take ha))) (by rw [maxLen_eq]; omega) (by omega) hx80.size ?_)
      intro v86 w86 hrow86 ho86 hb86 _
      have hlo : ∀ b, v80.ownBlock = some b → B ≤ b := fun b hb => Nat.le_trans hzB (hrow80.lt b hb).1
      have hneN : ∀ b, v62.ownBlock = some b → ¬ v86.ownBlock = some b := fun b hb hb2 => by
        have h1 := hlt75 b hb
        have h2 := (hrow86.lt b hb2).1
        omega
      replace hC2 := ho86.blk hC2 (fun hb => own_off hrow80 hC2 (by decide) hb)
      replace hC8 := ho86.blk hC8 (fun hb => own_off hrow80 hC8 (by decide) hb)
      replace hor := own_only hor ho86 (fun b hb hb2 => by
        have h1 := hlt75 b hb
        have h2 := (hrow80.lt b hb2).1
        omega)
      replace hrt := own_only hrt ho86 (own_row_off hrow80 hrt (by decide))
      replace hrow86 : w86.ownsRow B 3 1 v86 (lf.take k ++ lf.drop (k + 1)).length ((lf.take k ++ lf.drop (k + 1)).map iv) := by
        have e1 : (lf.take k).map iv ++ (((lf.map iv).drop ((k + 1) * 1)).take ((lf.length - (k + 1)) * 1)) = (lf.take k ++ lf.drop (k + 1)).map iv := by
          rw [List.map_append, Nat.mul_one, Nat.mul_one, List.map_drop]
          congr 1
          exact List.take_of_length_le (by simp)
        have e2 : (lf.take k ++ lf.drop (k + 1)).length = k + (lf.length - (k + 1)) := by simp; omega
        rw [e2, ← e1]
        exact own_mono hrow86 hzB
      replace hx := hx.trans' ho86 (fun _ h => h) (fun b hb he => by have := hlo b he; omega)
      replace hD := hD00.ext hx
      replace hS1 := hS00.ext hx
      refine WL.c rfl (o_ash (by first | exact (show _ = Value.slice _ _ _ from rfl) | exact rfl) ?_)
      refine WL.nil ?_
      refine W.region ?_
      refine WL.c rfl (o_mvh h9 ?_)
      refine WL.c rfl (o_addi rfl rfl (by omega) ?_)
      refine WL.c rfl (o_ash (show _ = Value.int _ _ from rfl) ?_)
      refine WL.nil ?_
      obtain ⟨_, _, hlf86, -⟩ := own_form hrow86
      refine ⟨⟨i + 1, lf.take k ++ lf.drop (k + 1), od ++ [lf[k]], v86, v62, v74, by simp; omega, by simp; omega, hpq.step hkl, h1, h2, rfl, h7, h8, rfl, hC8, hrow86, hor, hneN, hrt, hD, hC2, hS1, hx⟩, ?_⟩
      show slen v86 < _
      rw [hm5, hlf86]
      show (lf.take k ++ lf.drop (k + 1)).length < lf.length
      simp; omega
    · try simp only [decide_eq_true_eq, decide_eq_false_iff_not, Bool.not_eq_true', Bool.not_eq_false', Bool.and_eq_true, Bool.or_eq_true, Bool.and_eq_false_iff, Bool.or_eq_false_iff] at c34
      have hl0 : lf = [] := by apply List.eq_nil_of_length_eq_zero; omega
      subst hl0
      have hp := hpq.done
      refine W.exit ?_
      refine W.seq ?_
      refine W.region ?_
      refine WL.c rfl (o_ldA TI24 rfl h2 (show Cells _ b2 0 [dv] from Cells.of hC2 0 _ (by simp)) rfl ?_)
      refine WL.c rfl (o_call Try.call12 (lc rfl ln) ((check_call D dv V _ hD hlim hf).mono ?_))
      rintro v88 w88 ⟨rfl, hx88⟩
      replace hx := hx.tr hx88
      replace hD := hD.ext hx88
      replace hC2 := hx88.blk hC2 (fun h => h)
      replace hS1 := hS1.ext hx88
      replace hC8 := hx88.blk hC8 (fun h => h)
      replace hor := own_ext hor hx88
      replace hrt := own_ext hrt hx88
      have hlim2 := pick_ok hlim hp
      obtain ⟨e2, p2, hf2⟩ : ∃ er at_, flt (pick D od) = (er, at_) := ⟨_, _, rfl⟩
      have hiff := pick_fA hp
      refine WL.c rfl (o_alB TI32 ?_)
      intro wa hCa hxa hsa
      refine WL.u (o_stA TI32 rfl (show _ = Value.agg ([.int .i64 er, .int .i64 at_]).toArray from rfl) rfl rfl hCa rfl ?_)
      intro wb12 hC12 hob hsb
      have hxb := Ext.own hxa (Nat.le_refl _) hob
      obtain ⟨b12, hb12⟩ : ∃ b, b = w88.heap.size := ⟨_, rfl⟩
      rw [← hb12] at hC12 ⊢
      clear hCa hxa hsa hob hsb
      replace hx := hx.tr hxb
      replace hD := hD.ext hxb
      replace hC2 := hxb.blk hC2 (fun h => h)
      replace hS1 := hS1.ext hxb
      replace hC8 := hxb.blk hC8 (fun h => h)
      replace hor := own_ext hor hxb
      replace hrt := own_ext hrt hxb
      clear hxb
      refine WL.nil ?_
      refine W.seq ?_
      refine W.region ?_
      refine WL.c rfl (o_ldA TI24 rfl h8 (show Cells _ c8 0 [tdv] from Cells.of hC8 0 _ (by simp)) rfl ?_)
      refine WL.c rfl (o_call Try.call12 (lc rfl ln) ((check_call (pick D od) tdv (VP V od) _ (pick_rd hD hp hrt) hlim2 hf2).mono ?_))
      rintro v90 w90 ⟨rfl, hx90⟩
      replace hx := hx.tr hx90
      replace hD := hD.ext hx90
      replace hC2 := hx90.blk hC2 (fun h => h)
      replace hS1 := hS1.ext hx90
      replace hC8 := hx90.blk hC8 (fun h => h)
      replace hor := own_ext hor hx90
      replace hrt := own_ext hrt hx90
      replace hC12 := hx90.blk hC12 (fun h => h)
      have he : er = 0 ↔ e2 = 0 := ⟨fun h => by have h1 := hiff.2 (flt_good hf h); rw [flt_none h1] at hf2; cases hf2; rfl, fun h => by have h1 := hiff.1 (flt_good hf2 h); rw [flt_none h1] at hf; cases hf; rfl⟩
      refine WL.c rfl (o_alB TI32 ?_)
      intro wa hCa hxa hsa
      refine WL.u (o_stA TI32 rfl (show _ = Value.agg ([.int .i64 e2, .int .i64 p2]).toArray from rfl) rfl rfl hCa rfl ?_)
      intro wb13 hC13 hob hsb
      have hxb := Ext.own hxa (Nat.le_refl _) hob
      obtain ⟨b13, hb13⟩ : ∃ b, b = w90.heap.size := ⟨_, rfl⟩
      rw [← hb13] at hC13 ⊢
      clear hCa hxa hsa hob hsb
      replace hx := hx.tr hxb
      replace hD := hD.ext hxb
      replace hC2 := hxb.blk hC2 (fun h => h)
      replace hS1 := hS1.ext hxb
      replace hC8 := hxb.blk hC8 (fun h => h)
      replace hor := own_ext hor hxb
      replace hrt := own_ext hrt hxb
      replace hC12 := hxb.blk hC12 (fun h => h)
      clear hxb
      refine WL.nil ?_
      refine W.seq ?_
      refine W.seq ?_
      refine W.region ?_
      refine WL.c rfl (o_fa 0 TI32 rfl TI30 rfl rfl ?_)
      refine WL.c rfl (o_ld TI30 rfl rfl (cell_of hC12 rfl) ?_)
      refine WL.c rfl (o_eq rfl rfl ?_)
      refine WL.c rfl (o_fa 0 TI32 rfl TI30 rfl rfl ?_)
      refine WL.c rfl (o_ld TI30 rfl rfl (cell_of hC13 rfl) ?_)
      refine WL.c rfl (o_eq rfl rfl ?_)
      refine WL.c rfl (o_neB TI4 rfl rfl ?_)
      refine WL.nil ?_
      refine W.condF' rfl (by simp [he]) ?_
      refine W.skip ?_
      refine W.seq ?_
      refine W.seq ?_
      refine W.region ?_
      refine WL.c rfl (o_fa 0 TI32 rfl TI30 rfl rfl ?_)
      refine WL.c rfl (o_ld TI30 rfl rfl (cell_of hC12 rfl) ?_)
      refine WL.c rfl (o_ne rfl rfl ?_)
      refine WL.nil ?_
      refine W.cond rfl (fun c100 => ?_) (fun c100 => ?_)
      · try simp only [decide_eq_true_eq, decide_eq_false_iff_not, Bool.not_eq_true', Bool.not_eq_false', Bool.and_eq_true, Bool.or_eq_true, Bool.and_eq_false_iff, Bool.or_eq_false_iff] at c100
        refine W.seq ?_
        refine W.region ?_
        refine WL.c rfl (o_ash (show _ = Value.bool _ from rfl) ?_)
        refine WL.nil ?_
        refine W.ret ?_
        refine ret1v rfl (show _ = Value.bool _ from rfl) ?_
        exact ⟨rfl, hx⟩
      · try simp only [decide_eq_true_eq, decide_eq_false_iff_not, Bool.not_eq_true', Bool.not_eq_false', Bool.and_eq_true, Bool.or_eq_true, Bool.and_eq_false_iff, Bool.or_eq_false_iff] at c100
        have her : er = 0 := by simpa using c100
        have hfn := flt_good hf her
        have hfn2 := hiff.2 hfn
        refine W.skip ?_
        refine W.seq ?_
        refine W.region ?_
        refine WL.c rfl (o_ldA TI24 rfl h2 (show Cells _ b2 0 [dv] from Cells.of hC2 0 _ (by simp)) rfl ?_)
        refine WL.c rfl (o_call Try.call14 (lc rfl ln) ((depth_call D dv V _ hD hlim hf).mono ?_))
        rintro v103 w103 ⟨d1, rfl, hd1, hx103⟩
        replace hx := hx.tr hx103
        replace hD := hD.ext hx103
        replace hC2 := hx103.blk hC2 (fun h => h)
        replace hS1 := hS1.ext hx103
        replace hC8 := hx103.blk hC8 (fun h => h)
        replace hor := own_ext hor hx103
        replace hrt := own_ext hrt hx103
        refine WL.c rfl (o_mvh (by first | exact (show _ = Value.tuple _ from rfl) | exact rfl) ?_)
        refine WL.c rfl (o_ext rfl rfl ?_)
        refine WL.c rfl (o_ext rfl rfl ?_)
        refine WL.c rfl (o_alB TI32 ?_)
        intro wa hCa hxa hsa
        refine WL.c rfl (o_ash (by first | exact (show _ = Value.slice _ _ _ from rfl) | exact rfl) ?_)
        refine WL.u (o_stA TI32 rfl (show _ = Value.agg ([.int .i64 er, .int .i64 at_]).toArray from rfl) rfl rfl hCa rfl ?_)
        intro wb15 hC15 hob hsb
        have hxb := Ext.own hxa (Nat.le_refl _) hob
        obtain ⟨b15, hb15⟩ : ∃ b, b = w103.heap.size := ⟨_, rfl⟩
        rw [← hb15] at hC15 ⊢
        clear hCa hxa hsa hob hsb
        replace hx := hx.tr hxb
        replace hD := hD.ext hxb
        replace hC2 := hxb.blk hC2 (fun h => h)
        replace hS1 := hS1.ext hxb
        replace hC8 := hxb.blk hC8 (fun h => h)
        replace hor := own_ext hor hxb
        replace hrt := own_ext hrt hxb
        replace hd1 := own_ext hd1 hxb
        clear hxb
        refine WL.nil ?_
        refine W.seq ?_
        refine W.region ?_
        refine WL.c rfl (o_ldA TI24 rfl h8 (show Cells _ c8 0 [tdv] from Cells.of hC8 0 _ (by simp)) rfl ?_)
        refine WL.c rfl (o_call Try.call14 (lc rfl ln) ((depth_call (pick D od) tdv (VP V od) _ (pick_rd hD hp hrt) hlim2 hf2).mono ?_))
        rintro v108 w108 ⟨d2, rfl, hd2, hx108⟩
        replace hx := hx.tr hx108
        replace hD := hD.ext hx108
        replace hC2 := hx108.blk hC2 (fun h => h)
        replace hS1 := hS1.ext hx108
        replace hor := own_ext hor hx108
        replace hd1 := own_ext hd1 hx108
        refine WL.c rfl (o_mvh (by first | exact (show _ = Value.tuple _ from rfl) | exact rfl) ?_)
        refine WL.c rfl (o_ext rfl rfl ?_)
        refine WL.c rfl (o_ext rfl rfl ?_)
        refine WL.c rfl (o_alB TI32 ?_)
        intro wa hCa hxa hsa
        refine WL.c rfl (o_ash (by first | exact (show _ = Value.slice _ _ _ from rfl) | exact rfl) ?_)
        refine WL.u (o_stA TI32 rfl (show _ = Value.agg ([.int .i64 e2, .int .i64 p2]).toArray from rfl) rfl rfl hCa rfl ?_)
        intro wb17 hC17 hob hsb
        have hxb := Ext.own hxa (Nat.le_refl _) hob
        obtain ⟨b17, hb17⟩ : ∃ b, b = w108.heap.size := ⟨_, rfl⟩
        rw [← hb17] at hC17 ⊢
        clear hCa hxa hsa hob hsb
        replace hx := hx.tr hxb
        replace hD := hD.ext hxb
        replace hC2 := hxb.blk hC2 (fun h => h)
        replace hS1 := hS1.ext hxb
        replace hor := own_ext hor hxb
        replace hd1 := own_ext hd1 hxb
        replace hd2 := own_ext hd2 hxb
        clear hxb
        refine WL.nil ?_
        refine W.seq ?_
        refine W.seq ?_
        have hl1 : (depR D).length = D.length := by rw [depR_ok hfn]; simp
        have hl2 : (depR (pick D od)).length = D.length := by rw [depR_ok hfn2, pick_len hp]; simp
        rw [hl1] at hd1
        rw [hl2] at hd2
        have hpl2 := hp.len
        rw [hpl2] at hor
        refine W.region ?_
        refine WL.c rfl (o_mvh (by first | exact (show _ = Value.slice _ _ _ from rfl) | exact rfl) ?_)
        refine WL.c rfl (o_lenR TI34 rfl (Sl.own hd1) ?_)
        refine WL.c rfl (o_mvh h7 ?_)
        refine WL.c rfl (o_lenR TI34 rfl (Sl.own hor) ?_)
        refine WL.c rfl (o_ne rfl rfl ?_)
        refine WL.c rfl (o_mvh (show _ = Value.bool _ from rfl) ?_)
        refine WL.g rfl (by simp) rfl (o_mvh (by first | exact (show _ = Value.slice _ _ _ from rfl) | exact rfl) ?_)
        refine WL.g rfl (by simp) rfl (o_lenR TI34 rfl (Sl.own hd2) ?_)
        refine WL.g rfl (by simp) rfl (o_mvh h7 ?_)
        refine WL.g rfl (by simp) rfl (o_lenR TI34 rfl (Sl.own hor) ?_)
        refine WL.g rfl (by simp) rfl (o_ne rfl rfl ?_)
        refine WL.c rfl (o_pickO rfl rfl ?_)
        refine WL.nil ?_
        refine W.condF' rfl (by simp) ?_
        refine W.skip ?_
        refine W.seq ?_
        refine W.seq ?_
        refine W.region ?_
        refine WL.c rfl (o_ash (show _ = Value.int _ _ from rfl) ?_)
        refine WL.nil ?_
        refine W.block ?_
        refine W.loop (fun e w => ∃ q : Nat, q ≤ D.length ∧ e 7 = ov ∧ e 14 = d1 ∧ e 16 = d2 ∧ e 18 = .int .i64 (q : Int) ∧ Sl w 1 ov D.length (od.map iv) ∧ Sl w 1 d1 D.length ((depR D).map iv) ∧ Sl w 1 d2 D.length ((depR (pick D od)).map iv) ∧ Ext w0 w) (fun e w => D.length - (intOf (e 18)).toNat) ?_ ?_
        · exact ⟨0, Nat.zero_le _, h7, rfl, rfl, rfl, Sl.own hor, Sl.own hd1, Sl.own hd2, hx⟩
        rintro e w ⟨q, hq, h7, h14, h16, h18, hSo, hS1d, hS2d, hx⟩
        have hm18 := h18
        refine W.seq ?_
        refine W.seq ?_
        refine W.region ?_
        refine WL.c rfl (o_mvh h18 ?_)
        refine WL.c rfl (o_mvh h7 ?_)
        refine WL.c rfl (o_lenR TI34 rfl hSo ?_)
        refine WL.c rfl (o_lt rfl rfl ?_)
        refine WL.nil ?_
        refine W.cond rfl (fun c126 => ?_) (fun c126 => ?_)
        · try simp only [decide_eq_true_eq, decide_eq_false_iff_not, Bool.not_eq_true', Bool.not_eq_false', Bool.and_eq_true, Bool.or_eq_true, Bool.and_eq_false_iff, Bool.or_eq_false_iff] at c126
          have hq1 : q < D.length := by omega
          have hqo : q < od.length := by omega
          obtain ⟨kk, hkk⟩ : ∃ k, k = od.getD q 0 := ⟨_, rfl⟩
          have hkn : kk < D.length := by rw [hkk]; exact hp.at hq1
          have hdd := pick_depR hp hfn hq1
          rw [← hkk] at hdd
          have gd : ∀ (l : List Nat) (k : Nat), l.length = D.length → k < D.length → (l.map iv)[k]? = some (.int .i64 ((l.getD k 0 : Nat) : Int)) := fun l k h1 h2 => by
            rw [List.getElem?_map, List.getD_eq_getElem?_getD, List.getElem?_eq_getElem (by omega)]
            rfl
          obtain ⟨ob, oo, oc, hVo, hco⟩ := Sl.at1 hSo hq1 (gd od q hpl2 hq1)
          obtain ⟨ab, ao, ac, hV1, hc1⟩ := Sl.at1 hS1d hkn (gd _ kk hl1 hkn)
          obtain ⟨eb, eo, ec, hV2, hc2⟩ := Sl.at1 hS2d hq1 (gd _ q hl2 hq1)
          rw [← hkk] at hco
          rw [hVo] at h7
          rw [hV1] at h14
          rw [hV2] at h16
          refine W.skip ?_
          refine W.seq ?_
          refine W.block ?_
          refine W.seq ?_
          refine W.quiet rfl (by kernel_rfl) ?_
          refine WQ.c rfl ((QO.o rfl fun _ => o_mvh h16 ⟨rfl, rfl⟩)) ?_
          refine WQ.c rfl ((QO.o rfl fun _ => o_mvh h18 ⟨rfl, rfl⟩)) ?_
          refine WQ.c rfl ((QO.o rfl fun _ => o_ixB (i := q) TI34 TI3 (show _ = Value.slice (some ⟨eb, eo, none⟩) D.length ec from rfl) (show _ = Value.int .i64 (q : Int) from rfl) hq1 ⟨rfl, rfl⟩)) ?_
          refine WQ.c rfl ((QO.o rfl fun _ => o_ld TI3 rfl rfl hc2 ⟨rfl, rfl⟩)) ?_
          refine WQ.c rfl ((QO.o rfl fun _ => o_mvh h14 ⟨rfl, rfl⟩)) ?_
          refine WQ.c rfl ((QO.o rfl fun _ => o_mvh h7 ⟨rfl, rfl⟩)) ?_
          refine WQ.c rfl ((QO.o rfl fun _ => o_mvh h18 ⟨rfl, rfl⟩)) ?_
          refine WQ.c rfl ((QO.o rfl fun _ => o_ixB (i := q) TI34 TI3 (show _ = Value.slice (some ⟨ob, oo, none⟩) D.length oc from rfl) (show _ = Value.int .i64 (q : Int) from rfl) hq1 ⟨rfl, rfl⟩)) ?_
          refine WQ.c rfl ((QO.o rfl fun _ => o_ld TI3 rfl rfl hco ⟨rfl, rfl⟩)) ?_
          refine WQ.c rfl ((QO.o rfl fun _ => o_ixB (i := kk) TI34 TI3 (show _ = Value.slice (some ⟨ab, ao, none⟩) D.length ac from rfl) (show _ = Value.int .i64 (kk : Int) from rfl) hkn ⟨rfl, rfl⟩)) ?_
          refine WQ.c rfl ((QO.o rfl fun _ => o_ld TI3 rfl rfl hc1 ⟨rfl, rfl⟩)) ?_
          refine WQ.c rfl ((QO.o rfl fun _ => o_ne rfl rfl ⟨rfl, rfl⟩)) ?_
          refine WQ.nil ?_
          intro nq
          replace hx := hx.tr (Only.drewN w nq)
          replace hSo := hSo.ext (Only.drewN w nq)
          replace hS1d := hS1d.ext (Only.drewN w nq)
          replace hS2d := hS2d.ext (Only.drewN w nq)
          refine W.condF' rfl (by rw [hdd]; simp) ?_
          refine W.skip ?_
          refine W.region ?_
          refine WL.c rfl (o_mvh h18 ?_)
          refine WL.c rfl (o_addi rfl rfl (by omega) ?_)
          refine WL.c rfl (o_ash (show _ = Value.int _ _ from rfl) ?_)
          refine WL.nil ?_
          refine ⟨⟨q + 1, by omega, h7.trans hVo.symm, h14.trans hV1.symm, h16.trans hV2.symm, rfl, hSo, hS1d, hS2d, hx⟩, ?_⟩
          show D.length - ((q : Int) + 1).toNat < _
          rw [hm18]; simp [intOf]; omega
        · try simp only [decide_eq_true_eq, decide_eq_false_iff_not, Bool.not_eq_true', Bool.not_eq_false', Bool.and_eq_true, Bool.or_eq_true, Bool.and_eq_false_iff, Bool.or_eq_false_iff] at c126
          refine W.exit ?_
          refine W.seq ?_
          refine W.region ?_
          refine WL.c rfl (o_ash (show _ = Value.bool _ from rfl) ?_)
          refine WL.nil ?_
          refine W.ret ?_
          refine ret1v rfl (show _ = Value.bool _ from rfl) ?_
          exact ⟨rfl, hx⟩
end Go.Proofs.Ytgcehajdldicfaa
