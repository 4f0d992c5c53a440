/-
  Walks and lemmas. Written by program out of specs of mine.
-/
import Derived.WalkKit
import Derived.WalkSpells
import Derived.WalkLawsBesides
import Derived.Deep.Quiet
import Derived.StillTail
import Derived.StringKeys
import Derived.Laws.StructEq
import Derived.Laws.Externs
import Derived.Laws.Tables
import Derived.Scope
import Derived.Test.YtpbflfgigfdohaaDoorProg
import Derived.Laws.AppendOwn
import Derived.Maps.AppendAt
import Derived.Recover
import Derived.Lib.Bytealg
import Derived.SizedLaws
import Derived.ChangeArms
import Derived.ChangeSlices
import Derived.Maps.OwnSet
import Derived.Lib.Builder
import Derived.Lib.UnsafeStr
import Derived.Shelf.Strconv.Itoa0
import Derived.Shelf.Strconv.Itoa1
import Derived.Shelf.LaysM
import Derived.Shelf.Strconv.Itoa2
import Derived.Shelf.Strconv.Itoa3
import Derived.Test.YtpbflfgigfdohaaDoorRows
import Derived.ProofKit
import Derived.OpenShut
import Derived.ShutString
import Derived.ChangeOld
import Derived.Below
import Derived.JoinedCond
import Derived.SliceStrings
import Derived.Test.YtpbflfgigfdohaaDoorCards
import Derived.Test.YtpbflfgigfdohaaDoorTie
import Derived.Deep.DeepHandedRow
import Derived.Lib.LaidTab
import Derived.Test.YtpbflfgigfdohaaDoorKp3
set_option linter.unusedSimpArgs false
set_option linter.unusedVariables false
set_option maxRecDepth 100000
namespace Go.Proofs.YtpbflfgigfdohaaDoor
open Go Go.Vc Go.RowKit Go.Proofs

section
open Relation
/-- one uses another -/
abbrev Us (U : Nat → List Nat) : Nat → Nat → Prop := fun i j => j ∈ U i
theorem countP_lt {p q : Nat → Bool} (h : ∀ x, p x = true → q x = true) : ∀ {l : List Nat} {y : Nat}, y ∈ l → q y = true → p y = false → l.countP p < l.countP q
 | [], y, hy, _, _ => by cases hy
 | a :: l, y, hy, hq, hp => by
  have hle : l.countP p ≤ l.countP q := List.countP_mono_left (fun x _ hx => h x hx)
  rw [List.countP_cons, List.countP_cons]
  rcases List.mem_cons.1 hy with rfl | hy
  ·rw [if_pos hq, if_neg (by rw [hp]; decide)]; omega
  have h1 := countP_lt h hy hq hp
  by_cases ha : p a = true
  ·rw [if_pos ha, if_pos (h a ha)]; omega
  rw [if_neg ha]; split <;> omega
open Classical in
noncomputable def reachN (n : Nat) (U : Nat → List Nat) (i : Nat) : Nat := (List.range n).countP (fun k => decide (TransGen (Us U) i k))
open Classical in
theorem reach_lt {n : Nat} {U : Nat → List Nat} {i j : Nat} (hj : j < n) (hu : j ∈ U i) (hac : ¬ TransGen (Us U) j j) : reachN n U j < reachN n U i := by
 unfold reachN
 refine countP_lt (fun x hx => ?_) (List.mem_range.2 hj) ?_ ?_
 ·exact decide_eq_true ((TransGen.single hu).trans (of_decide_eq_true hx))
 ·exact decide_eq_true (TransGen.single hu)
 exact decide_eq_false hac
/-- without a ring there is always one that uses told ones alone -/
theorem ready_one {n : Nat} {U : Nat → List Nat} (hU : ∀ i, i < n → ∀ j ∈ U i, j < n) (hac : ∀ i, i < n → ¬ TransGen (Us U) i i) {told : Nat → Prop} : ∀ (m i : Nat), reachN n U i ≤ m → i < n → ¬ told i → ∃ k, k < n ∧ ¬ told k ∧ ∀ j ∈ U k, told j
 | 0, i, hm, hi, ht => by
  refine ⟨i, hi, ht, fun j hj => ?_⟩
  have := reach_lt (hU i hi j hj) hj (hac j (hU i hi j hj))
  omega
 | m + 1, i, hm, hi, ht => by
  by_cases h : ∀ j ∈ U i, told j
  ·exact ⟨i, hi, ht, h⟩
  obtain ⟨j, hj⟩ := Classical.not_forall.1 h
  obtain ⟨hj, hn⟩ := Classical.not_imp.1 hj
  have := reach_lt (hU i hi j hj) hj (hac j (hU i hi j hj))
  exact ready_one hU hac m j (by omega) (hU i hi j hj) hn
/-- what has been seen is closed, and the target is used by none of it: then it is not led to -/
theorem closed_no {U : Nat → List Nat} {d : Nat} {S : Nat → Prop} (h0 : d ∉ U d ∧ ∀ v ∈ U d, S v) (hS : ∀ k, S k → d ∉ U k ∧ ∀ v ∈ U k, S v) : ¬ TransGen (Us U) d d := by
 have key : ∀ k, TransGen (Us U) d k → S k ∧ k ≠ d ∨ (S k ∧ k = d ∧ False) := by
  intro k hk
  induction hk with
  | single h => exact .inl ⟨h0.2 _ h, fun e => h0.1 (e ▸ h)⟩
  | tail _ h ih =>
   rcases ih with ⟨hs, -⟩ | ⟨-, -, hf⟩
   ·exact .inl ⟨(hS _ hs).2 _ h, fun e => (hS _ hs).1 (e ▸ h)⟩
   exact hf.elim
 intro h
 rcases key d h with ⟨-, h1⟩ | ⟨-, -, h1⟩
 ·exact h1 rfl
 exact h1
end
def whereN (D : List Df) (nm : List UInt8) : Option Nat := D.findIdx? (fun d => decide (d.name = nm))
def usesD (D : List Df) (i : Nat) : List Nat := ((tyD D i).filter (fun x => decide (x.kind = 9))).map (fun x => (whereN D x.name).getD 0)
theorem whereN_some {D : List Df} {nm : List UInt8} {i : Nat} (h : whereN D nm = some i) : ∃ hi : i < D.length, D[i].name = nm ∧ ∀ j (hj : j < i), ¬ (D[j]'(by omega)).name = nm := by
 obtain ⟨hi, h1, h2⟩ := List.findIdx?_eq_some_iff_getElem.1 h
 exact ⟨hi, by simpa using h1, fun j hj => by simpa using h2 j hj⟩
theorem whereN_none {D : List Df} {nm : List UInt8} (h : whereN D nm = none) : ∀ d ∈ D, ¬ d.name = nm := by
 intro d hd
 have := List.findIdx?_eq_none_iff.1 h d hd
 simpa using this
theorem uses_lt {D : List Df} (h : ∀ d ∈ D, ∀ x ∈ d.ty, x.kind = 9 → ∃ i, whereN D x.name = some i) {i : Nat} (hi : i < D.length) : ∀ j ∈ usesD D i, j < D.length := by
 intro j hj
 unfold usesD at hj
 obtain ⟨x, hx, rfl⟩ := List.mem_map.1 hj
 obtain ⟨hx1, hx2⟩ := List.mem_filter.1 hx
 rw [tyD_at hi] at hx1
 obtain ⟨k, hk⟩ := h _ (List.getElem_mem hi) x hx1 (of_decide_eq_true hx2)
 obtain ⟨hl, -⟩ := whereN_some hk
 rw [hk]; exact hl
def readyB (n : Nat) (U : Nat → List Nat) (out : List Nat) (i : Nat) : Bool := !out.contains i && (U i).all (fun k => out.contains k)
def nextO (n : Nat) (U : Nat → List Nat) (out : List Nat) : Option Nat := (List.range n).find? (readyB n U out)
/-- the order, grown step by step -/
def orderF (n : Nat) (U : Nat → List Nat) : Nat → List Nat → List Nat
 | 0, out => out
 | f + 1, out => match nextO n U out with
  | none => out
  | some i => orderF n U f (out ++ [i])

end Go.Proofs.YtpbflfgigfdohaaDoor

namespace Go.Proofs.YtpbflfgigfdohaaDoor
open Go Go.Vc Go.RowKit Go.Proofs

theorem all_in : ∀ (n : Nat) (l : List Nat), (∀ i, i < n → i ∈ l) → n ≤ l.length
 | 0, _, _ => Nat.zero_le _
 | n + 1, l, h => by
  have h1 := h n (Nat.lt_succ_self n)
  have h2 := all_in n (l.erase n) (fun i hi => (List.mem_erase_of_ne (by omega)).2 (h i (by omega)))
  rw [List.length_erase_of_mem h1] at h2
  have := List.length_pos_of_mem h1
  omega
theorem some_out {n : Nat} {l : List Nat} (h : l.length < n) : ∃ i, i < n ∧ i ∉ l := by
 apply Classical.byContradiction
 intro hn
 have := all_in n l (fun i hi => Classical.byContradiction fun hm => hn ⟨i, hi, hm⟩)
 omega
/-- a list of told ones: each once, each behind those that it uses -/
structure Told (n : Nat) (U : Nat → List Nat) (out : List Nat) : Prop where
 nd : out.Nodup
 lt : ∀ i ∈ out, i < n
 cl : ∀ i ∈ out, ∀ k ∈ U i, k ∈ out
 bh : ∀ p (hp : p < out.length), ∀ k ∈ U out[p], k ∈ out.take p
theorem Told.nil {n : Nat} {U : Nat → List Nat} : Told n U [] := ⟨List.nodup_nil, fun i h => (by cases h), fun i h => (by cases h), fun p hp => by simp at hp⟩
theorem readyB_iff {n : Nat} {U : Nat → List Nat} {out : List Nat} {i : Nat} : readyB n U out i = true ↔ i ∉ out ∧ ∀ k ∈ U i, k ∈ out := by
 unfold readyB
 simp
theorem nextO_some {n : Nat} {U : Nat → List Nat} {out : List Nat} {i : Nat} (h : nextO n U out = some i) : i < n ∧ i ∉ out ∧ (∀ k ∈ U i, k ∈ out) ∧ ∀ j, j < i → ¬ (j ∉ out ∧ ∀ k ∈ U j, k ∈ out) := by
 unfold nextO at h
 obtain ⟨h1, la, lb, h2, h3⟩ := List.find?_eq_some_iff_append.1 h
 obtain ⟨r1, r2⟩ := readyB_iff.1 h1
 have hm : i ∈ List.range n := by rw [h2]; simp
 refine ⟨List.mem_range.1 hm, r1, r2, fun j hj hr => ?_⟩
 have hjm : j ∈ la := by
  have hlen : la.length = i := by
   have h4 : (List.range n)[la.length]? = some i := by rw [h2]; simp
   rw [List.getElem?_range] at h4
   ·simpa using h4
   have := congrArg List.length h2; simp at this; omega
  have h5 : (List.range n)[j]? = some j := List.getElem?_range (by have := List.mem_range.1 hm; omega)
  rw [h2, List.getElem?_append_left (by omega)] at h5
  exact List.mem_of_getElem? h5
 have h6 := h3 j hjm
 rw [readyB_iff.2 hr] at h6
 simp at h6
theorem Told.step {n : Nat} {U : Nat → List Nat} {out : List Nat} (h : Told n U out) {i : Nat} (hi : nextO n U out = some i) : Told n U (out ++ [i]) := by
 obtain ⟨h1, h2, h3, -⟩ := nextO_some hi
 refine ⟨?_, fun j hj => ?_, fun j hj k hk => ?_, fun p hp k hk => ?_⟩
 ·rw [List.nodup_append]
  refine ⟨h.nd, by simp, fun a ha b hb => ?_⟩
  rw [List.mem_singleton.1 hb]
  exact fun e => h2 (e ▸ ha)
 ·rcases List.mem_append.1 hj with hj | hj
  ·exact h.lt j hj
  rw [List.mem_singleton.1 hj]; exact h1
 ·rcases List.mem_append.1 hj with hj | hj
  ·exact List.mem_append_left _ (h.cl j hj k hk)
  rw [List.mem_singleton.1 hj] at hk
  exact List.mem_append_left _ (h3 k hk)
 rw [List.length_append, List.length_singleton] at hp
 rcases Nat.lt_or_ge p out.length with hl | hl
 ·rw [List.getElem_append_left hl] at hk
  rw [List.take_append_of_le_length (by omega)]
  exact h.bh p hl k hk
 obtain rfl : p = out.length := by omega
 rw [List.getElem_append_right (Nat.le_refl _)] at hk
 simp only [Nat.sub_self, List.getElem_singleton] at hk
 rw [List.take_left]
 exact h3 k hk
theorem nextO_none {n : Nat} {U : Nat → List Nat} {out : List Nat} (hU : ∀ i, i < n → ∀ j ∈ U i, j < n) (hac : ∀ i, i < n → ¬ Relation.TransGen (Us U) i i) (hl : out.length < n) : ∃ i, nextO n U out = some i := by
 obtain ⟨i, hi, hn⟩ := some_out hl
 obtain ⟨k, hk, h1, h2⟩ := ready_one hU hac (told := fun j => j ∈ out) _ i (Nat.le_refl _) hi hn
 cases hx : nextO n U out with
 | some j => exact ⟨j, rfl⟩
 | none =>
  unfold nextO at hx
  have := List.find?_eq_none.1 hx k (List.mem_range.2 hk)
  exact absurd (readyB_iff.2 ⟨h1, h2⟩) this
theorem orderF_told {n : Nat} {U : Nat → List Nat} (hU : ∀ i, i < n → ∀ j ∈ U i, j < n) (hac : ∀ i, i < n → ¬ Relation.TransGen (Us U) i i) : ∀ (f : Nat) (out : List Nat), Told n U out → out.length + f = n → Told n U (orderF n U f out) ∧ (orderF n U f out).length = n
 | 0, out, h, hl => ⟨h, hl⟩
 | f + 1, out, h, hl => by
  obtain ⟨i, hi⟩ := nextO_none hU hac (show out.length < n by omega)
  unfold orderF
  rw [hi]
  exact orderF_told hU hac f (out ++ [i]) (h.step hi) (by rw [List.length_append, List.length_singleton]; omega)
theorem orderF_more {n : Nat} {U : Nat → List Nat} {f : Nat} {out : List Nat} {i : Nat} (hi : nextO n U out = some i) : orderF n U (f + 1) out = orderF n U f (out ++ [i]) := by
 rw [orderF, hi]
mutual
def depT (wh : List UInt8 → Nat) (dp : Nat → Nat) : Tr → Nat
 | .node y ks => if y.kind = 9 then dp (wh y.name) else depK wh dp ks 0 + 1
/-- the most of those ahead and these -/
def depK (wh : List UInt8 → Nat) (dp : Nat → Nat) : Trs → Nat → Nat
 | .nil, m => m
 | .cons t ts, m => depK wh dp ts (max m (depT wh dp t))
end
mutual
theorem depT_congr {wh : List UInt8 → Nat} {dp dq : Nat → Nat} : ∀ (t : Tr), (∀ x ∈ t.flat, x.kind = 9 → dp (wh x.name) = dq (wh x.name)) → depT wh dp t = depT wh dq t
 | .node y ks, h => by
  unfold depT
  split
  ·rename_i h9; exact h y (List.mem_cons_self ..) h9
  rw [depK_congr ks 0 (fun x hx => h x (List.mem_cons_of_mem _ hx))]
theorem depK_congr {wh : List UInt8 → Nat} {dp dq : Nat → Nat} : ∀ (ts : Trs) (m : Nat), (∀ x ∈ ts.flat, x.kind = 9 → dp (wh x.name) = dq (wh x.name)) → depK wh dp ts m = depK wh dq ts m
 | .nil, m, _ => rfl
 | .cons t ts, m, h => by
  unfold depK
  rw [depT_congr t (fun x hx => h x (List.mem_append_left _ hx)), depK_congr ts _ (fun x hx => h x (List.mem_append_right _ hx))]
end
def updN (f : Nat → Nat) (i v : Nat) : Nat → Nat := fun j => if j = i then v else f j
/-- the depths, one definition behind the other -/
def depO (wh : List UInt8 → Nat) (T : Nat → Tr) : List Nat → (Nat → Nat) → (Nat → Nat)
 | [], f => f
 | i :: l, f => depO wh T l (updN f i (depT wh f (T i)))
theorem depO_snoc {wh : List UInt8 → Nat} {T : Nat → Tr} : ∀ (l : List Nat) (f : Nat → Nat) (i : Nat), depO wh T (l ++ [i]) f = updN (depO wh T l f) i (depT wh (depO wh T l f) (T i))
 | [], f, i => rfl
 | a :: l, f, i => by
  show depO wh T (l ++ [i]) _ = _
  rw [depO_snoc l]
  rfl
/-- each one's depth is that of its type, by the depths -/
theorem depO_fix {wh : List UInt8 → Nat} {T : Nat → Tr} {n : Nat} {U : Nat → List Nat} (hUT : ∀ i, i < n → ∀ x ∈ (T i).flat, x.kind = 9 → wh x.name ∈ U i) : ∀ (l out : List Nat) (f : Nat → Nat), Told n U (out ++ l) → (∀ i ∈ out, f i = depT wh f (T i)) → ∀ i ∈ out ++ l, depO wh T l f i = depT wh (depO wh T l f) (T i)
 | [], out, f, h, hf, i, hi => by rw [List.append_nil] at hi; exact hf i hi
 | a :: l, out, f, h, hf, i, hi => by
  have hnd := h.nd
  have hal : a < n := h.lt a (by simp)
  have ha : a ∉ out := fun hm => by
   rw [List.nodup_append] at hnd
   exact hnd.2.2 a hm a (List.mem_cons_self ..) rfl
  have hua : ∀ k ∈ U a, k ∈ out := fun k hk => by
   have h1 := h.bh out.length (by simp) k (by rw [List.getElem_append_right (Nat.le_refl _)]; simpa using hk)
   rwa [List.take_left] at h1
  have huo : ∀ j ∈ out, ∀ k ∈ U j, k ∈ out := fun j hj k hk => by
   obtain ⟨p, hp, rfl⟩ := List.getElem_of_mem hj
   have h1 := h.bh p (by rw [List.length_append]; omega) k (by rw [List.getElem_append_left hp]; exact hk)
   rw [List.take_append_of_le_length (by omega)] at h1
   exact List.mem_of_mem_take h1
  show depO wh T l (updN f a (depT wh f (T a))) i = _
  refine depO_fix hUT l (out ++ [a]) _ (by rw [List.append_assoc]; exact h) (fun j hj => ?_) i (by rw [List.append_assoc]; exact hi)
  have hsame : ∀ k ∈ out, updN f a (depT wh f (T a)) k = f k := fun k hk => if_neg (fun e : k = a => ha (by rw [← e]; exact hk))
  rcases List.mem_append.1 hj with hj | hj
  ·have hjl : j < n := h.lt j (List.mem_append_left _ hj)
   rw [hsame j hj, hf j hj]
   exact depT_congr _ (fun x hx h9 => (hsame _ (huo j hj _ (hUT j hjl x hx h9))).symm)
  rw [List.mem_singleton.1 hj]
  have e1 : updN f a (depT wh f (T a)) a = depT wh f (T a) := by unfold updN; rw [if_pos rfl]
  rw [e1]
  exact depT_congr _ (fun x hx h9 => (hsame _ (hua _ (hUT a hal x hx h9))).symm)

end Go.Proofs.YtpbflfgigfdohaaDoor

namespace Go.Proofs.YtpbflfgigfdohaaDoor
open Go Go.Vc Go.RowKit Go.Proofs

mutual
/-- a name has no kids -/
def Tr.leafy : Tr → Prop
 | .node y ks => (y.kind = 9 → ks = .nil) ∧ ks.leafy
def Trs.leafy : Trs → Prop
 | .nil => True
 | .cons t ts => t.leafy ∧ ts.leafy
end
mutual
theorem wf_leafy : ∀ (t : Tr) (a : Int) (d : Nat), t.wf a d → t.leafy
 | .node y ks, a, d, h => by
  obtain ⟨-, -, hr, hk, hks⟩ := h
  refine ⟨fun h9 => ?_, wfs_leafy ks _ _ hks⟩
  obtain ⟨hok, -, -, -⟩ := rightB_iff hr
  have hk0 : y.kids = 0 := by rcases okB_cases hok with g | g | g | g | g <;> omega
  exact trs_nil (by omega)
theorem wfs_leafy : ∀ (ts : Trs) (a : Int) (d : Nat), ts.wf a d → ts.leafy
 | .nil, _, _, _ => trivial
 | .cons t ts, a, d, h => ⟨wf_leafy t _ _ h.1, wfs_leafy ts _ _ h.2⟩
end


end Go.Proofs.YtpbflfgigfdohaaDoor

namespace Go.Vc
open Go Go.RowKit Go.Maps Go.ChangeMaps
/-- a map's type: its key's and its element's, an int -/
structure MTy (P : Program) (t k e : TypeId) : Prop where
 kd : Keyed P k
 ht : P.underlying t = some (.map k e)
 he : P.underlying e = some (.int .i64)
 hz : ∀ w, (zeroValue e).run P w = .ok (.int .i64 0) w
/-- block b of w is a map of at most n entries in which g stands -/
def MapIs (P : Program) (k e : TypeId) {α : Type} (en : α → Lit) (w : World) (b n : Nat) (g : α → Option Int) : Prop :=
 ∃ D : DataW Unit, w.ownsMap P k (plainElem P e) b n D ∧ ∀ a, Maps.has D (en a) = (g a).isSome ∧ ∀ v, g a = some v → D.atKey (en a) (.lit (.int .i64 0)) = .lit (.int .i64 v)
def enS (s : List UInt8) : Lit := .string s
def enI (a : Int) : Lit := .int .i64 a
section
variable {P : Program} {e : Env} {w : World} {K : Value → World → Prop} {ty : TypeId} {α : Type} {en : α → Lit} {t kt et : TypeId} {b n : Nat} {g : α → Option Int}
theorem MapIs.made (P : Program) (kt et : TypeId) (en : α → Lit) (w : World) : MapIs P kt et en (w.alloc (.map #[] 0)) w.heap.size 0 (fun _ => none) :=
 ⟨_, World.ownsMap_made w P kt _, fun a => ⟨rfl, fun v h => by cases h⟩⟩
theorem MapIs.lt (h : MapIs P kt et en w b n g) : b < w.heap.size := by obtain ⟨D, h, -⟩ := h; exact h.lt
theorem MapIs.mono (h : MapIs P kt et en w b n g) {m : Nat} (hm : n ≤ m) : MapIs P kt et en w b m g := by obtain ⟨D, h, r⟩ := h; exact ⟨D, h.mono hm, r⟩
theorem MapIs.only {w' : World} {F : Nat → Prop} (h : MapIs P kt et en w b n g) (ho : Only F w w') (hn : ¬ F b) : MapIs P kt et en w' b n g := by
 obtain ⟨D, h, r⟩ := h
 have hlt := h.lt
 obtain ⟨es, clock, hb, Ft, hs, hD⟩ := h
 exact ⟨D, ⟨es, clock, (ho.block b hlt hn).trans hb, Ft, hs, hD⟩, r⟩
theorem MapIs.ext {w' : World} (h : MapIs P kt et en w b n g) (ho : Only No w w') : MapIs P kt et en w' b n g := h.only ho (fun h => h)
theorem o_mkM {t : TypeId} (k : K (.map (some w.heap.size)) (w.alloc (.map #[] 0))) : OP P e (.makeMap t none) ty w K :=
 OP.of (by simp [execOp, run_makeMap]) k
theorem MapIs.val {D : DataW Unit} (h : ∀ a, Maps.has D (en a) = (g a).isSome ∧ ∀ v, g a = some v → D.atKey (en a) (.lit (.int .i64 0)) = .lit (.int .i64 v)) {a : α} {c : Int} (hc : D.atKey (en a) (.lit (.int .i64 0)) = .lit (.int .i64 c)) : c = (g a).getD 0 := by
 obtain ⟨h1, h2⟩ := h a
 cases hg : g a with
 | some v =>
  rw [h2 v hg] at hc
  simp only [DataW.lit.injEq, Lit.int.injEq, true_and] at hc
  exact hc.symm
 | none =>
  rw [hg] at h1
  rw [atKey_of_not_has h1] at hc
  simp only [DataW.lit.injEq, Lit.int.injEq, true_and] at hc
  exact hc.symm
/-- 'v, ok := m[k]' -/
theorem o_lkO {x y : Operand} {key : Value} {a : α} (hT : MTy P t kt et) (hx : ev e x = .map (some b)) (hM : MapIs P kt et en w b n g) (hy : ev e y = key) (hkl : keyOf P kt key = some (en a))
  (kk : K (.tuple #[.int .i64 ((g a).getD 0), .bool (g a).isSome]) w) : OP P e (.lookup t x y true) ty w K := by
 obtain ⟨D, hown, hD⟩ := hM
 obtain ⟨v, ps, hrun, hv⟩ := hown.look_ok hT.kd hT.ht (hT.hz w) (plainElem_int hT.he (by decide)) hkl
 obtain ⟨c, rfl, hc, -⟩ := plainElem_int_inv hT.he hv
 have hcv := MapIs.val hD (congrArg Prod.fst hc)
 subst hcv
 rw [(hD a).1] at hrun
 exact OP.of (by simp [execOp, hx, hy, hrun]) kk
/-- 'm[k]' -/
theorem o_lk {x y : Operand} {key : Value} {a : α} (hT : MTy P t kt et) (hx : ev e x = .map (some b)) (hM : MapIs P kt et en w b n g) (hy : ev e y = key) (hkl : keyOf P kt key = some (en a))
  (kk : K (.int .i64 ((g a).getD 0)) w) : OP P e (.lookup t x y false) ty w K := by
 obtain ⟨D, hown, hD⟩ := hM
 obtain ⟨v, ps, hrun, hv⟩ := hown.lookup hT.kd hT.ht (hT.hz w) (plainElem_int hT.he (by decide)) hkl
 obtain ⟨c, rfl, hc, -⟩ := plainElem_int_inv hT.he hv
 have hcv := MapIs.val hD (congrArg Prod.fst hc)
 subst hcv
 exact OP.of (by simp [execOp, hx, hy, hrun]) kk
/-- 'm[k] = v' -/
theorem o_mu [DecidableEq α] {x y z : Operand} {key : Value} {a : α} {v : Int} (hen : ∀ a b, en a = en b → a = b) (hT : MTy P t kt et) (hx : ev e x = .map (some b)) (hM : MapIs P kt et en w b n g) (hy : ev e y = key) (hkl : keyOf P kt key = some (en a))
  (hv : ev e z = .int .i64 v) (hw : (Lit.int .i64 v).wf = true) (hn : n < maxLen)
  (kk : ∀ w', MapIs P kt et en w' b (n + 1) (fun c => if c = a then some v else g c) → Only (fun k => k = b) w w' → w'.heap.size = w.heap.size → K undef w') : OP P e (.mapUpdate t x y z) ty w K := by
 obtain ⟨D, hown, hD⟩ := hM
 obtain ⟨w', hrun, hown', es, clock, es', clock', hb, hw'⟩ := hown.store hT.kd hT.ht hn hkl (plainElem_int hT.he hw)
 refine OP.ofS (w' := w') (by simp [execOp, hx, hy, hv, hrun]) (kk w' ⟨_, hown', fun c => ?_⟩ ?_ ?_)
 ·have hK := hT.kd.key hkl
  by_cases hc : c = a
  ·subst hc
   simp only [if_true]
   rw [has_put_same hown.isMap hK]
   refine ⟨rfl, fun u hu => ?_⟩
   cases hu
   exact atKey_put_same hown.isMap hK _ _
  have hne : en c ≠ en a := fun h => hc (hen _ _ h)
  simp only [if_neg hc]
  rw [has_put_other hne]
  refine ⟨(hD c).1, fun u hu => ?_⟩
  rw [atKey_put_other hne]
  exact (hD c).2 u hu
 ·subst hw'
  exact ⟨rfl, rfl, rfl, by simp [setBlock], fun k _ hk => heap_setBlock_other hb _ (fun e => hk e)⟩
 subst hw'
 simp [setBlock]
theorem keyS {k : TypeId} (hk : P.underlying k = some .string) {s : List UInt8} (hs : s.length ≤ maxLen) : keyOf P k (st s) = some (enS s) :=
 Go.WideMaps.keyOf_string_mk hk (s := ⟨s.toArray⟩) (by simpa [ByteArray.size] using hs)
theorem keyI {k : TypeId} (hk : P.underlying k = some (.int .i64)) {a : Int} (h : -9223372036854775808 ≤ a ∧ a ≤ 9223372036854775807) : keyOf P k (.int .i64 a) = some (enI a) :=
 keyOf_int_mk hk (by simp [Lit.wf, IntKind.min, IntKind.max, IntKind.signed, IntKind.bits]; omega)
theorem wf_i64 {a : Int} (h : -9223372036854775808 ≤ a ∧ a ≤ 9223372036854775807) : (Lit.int .i64 a).wf = true := by
 simp [Lit.wf, IntKind.min, IntKind.max, IntKind.signed, IntKind.bits]; omega
theorem enS_inj : ∀ a b, enS a = enS b → a = b := fun a b h => by unfold enS at h; simpa using h
theorem enI_inj : ∀ a b, enI a = enI b → a = b := fun a b h => by unfold enI at h; simpa using h
end
end Go.Vc

namespace Go.Proofs.YtpbflfgigfdohaaDoor
open Go Go.Vc Go.RowKit Go.Proofs
theorem TI90 : Ty Tryd.prog 90 (.map 9 3) 1 8 (.map none) := ⟨Tryd.underlying90, Tryd.t90, Tryd.type90, rfl, rfl, rfl⟩
theorem MT90 : MTy Tryd.prog 90 9 3 := ⟨Go.Maps.string_keyed Tryd.underlying9, Tryd.underlying90, Tryd.underlying3, fun w => TI3.run_zero w⟩
theorem TI133 : Ty Tryd.prog 133 (.func #[3] #[4] .false) 1 8 .nilFunc := ⟨Tryd.underlying133, Tryd.t133, Tryd.type133, rfl, rfl, rfl⟩
theorem TI140 : Ty Tryd.prog 140 (.map 3 3) 1 8 (.map none) := ⟨Tryd.underlying140, Tryd.t140, Tryd.type140, rfl, rfl, rfl⟩
theorem MT140 : MTy Tryd.prog 140 3 3 := ⟨Go.Maps.int_keyed Tryd.underlying3, Tryd.underlying140, Tryd.underlying3, fun w => TI3.run_zero w⟩
theorem TI143 : Ty Tryd.prog 143 (.func #[3] #[3, 3] .false) 1 8 .nilFunc := ⟨Tryd.underlying143, Tryd.t143, Tryd.type143, rfl, rfl, rfl⟩
theorem where_hit {D : List Df} {nm : List UInt8} {k : Nat} (hk : k < D.length) (h : D[k].name = nm) (hb : ∀ j, j < k → ¬ (D.getD j df0).name = nm) : whereN D nm = some k := by
 refine List.findIdx?_eq_some_iff_getElem.2 ⟨hk, decide_eq_true h, fun j hj => ?_⟩
 have := hb j hj
 rw [getD_at (by omega)] at this
 simpa using this
theorem where_miss {D : List Df} {nm : List UInt8} (hb : ∀ j, j < D.length → ¬ (D.getD j df0).name = nm) : whereN D nm = none := by
 refine List.findIdx?_eq_none_iff.2 fun d hd => ?_
 obtain ⟨j, hj, rfl⟩ := List.getElem_of_mem hd
 have := hb j hj
 rw [getD_at hj] at this
 simpa using this
def iv (k : Nat) : Value := .int .i64 (k : Int)
/-- a source's book: where it lies, and its map -/
structure Bk (w : World) (pb mb : Nat) (D : List Df) (dv : Value) (V : Nat → Value) : Prop where
 cell : w.heap[pb]? = some (.cells #[dv, .map (some mb)] 132 (0, 0))
 rd : DefR w D dv V
 mp : MapIs Tryd.prog 9 3 enS w mb D.length (fun s => (whereN D s).map Int.ofNat)
theorem Bk.ext {w w' : World} {pb mb : Nat} {D : List Df} {dv : Value} {V : Nat → Value} (h : Bk w pb mb D dv V) (ho : Ext w w') : Bk w' pb mb D dv V := ⟨ho.blk h.cell (fun h => h), h.rd.ext ho, h.mp.ext ho⟩
theorem getD_cast (o : Option Nat) : (o.map Int.ofNat).getD 0 = ((o.getD 0 : Nat) : Int) := by cases o <;> rfl
/-- the names that the first k nodes use -/
def usesK (D : List Df) (L : List Ex) (k : Nat) : List Nat := ((L.take k).filter (fun x => decide (x.kind = 9))).map (fun x => (whereN D x.name).getD 0)
theorem usesK_no {D : List Df} {L : List Ex} {k : Nat} (hk : k < L.length) (h : ¬ L[k].kind = 9) : usesK D L (k + 1) = usesK D L k := by
 unfold usesK
 rw [List.take_succ_eq_append_getElem hk, List.filter_append]
 simp [h]
theorem usesK_yes {D : List Df} {L : List Ex} {k : Nat} (hk : k < L.length) (h : L[k].kind = 9) : usesK D L (k + 1) = usesK D L k ++ [(whereN D L[k].name).getD 0] := by
 unfold usesK
 rw [List.take_succ_eq_append_getElem hk, List.filter_append]
 simp [h]
theorem usesK_all {D : List Df} {i : Nat} (hi : i < D.length) : usesK D D[i].ty D[i].ty.length = usesD D i := by
 unfold usesK usesD
 rw [List.take_length, tyD_at hi]
theorem usesK_len (D : List Df) (L : List Ex) (k : Nat) : (usesK D L k).length ≤ L.length := by
 unfold usesK
 rw [List.length_map]
 exact Nat.le_trans (List.length_filter_le _ _) (by rw [List.length_take]; omega)

set_option maxHeartbeats 1000000 in
theorem find_spec (D : List Df) (dv : Value) (V : Nat → Value) (nm : List UInt8) (w0 : World) (hD : DefR w0 D dv V) (hlen : D.length * 48 ≤ 140737488351232) : Ca Tryd.prog 35 #[.agg #[dv], st nm] w0 (fun v w' => v = .tuple #[.int .i64 (((whereN D nm).getD 0 : Nat) : Int), .int .i64 (if (whereN D nm).isSome then 0 else 81)] ∧ Ext w0 w') := by
 refine Ca.of Tryd.func35 Tryd.ntmps35 rfl rfl (We (Wb (Wa rfl (o_boxB rfl ?_))))
 intro w2 hC2 hx2 hs2
 obtain ⟨b2, hb2⟩ : ∃ b, b = w0.heap.size := ⟨_, rfl⟩
 rw [← hb2] at hC2 ⊢
 replace hC2 : w2.heap[b2]? = some (.cells ([dv]).toArray 24 (0, 0)) := hC2
 have hx := hx2
 replace hD := hD.ext hx2
 refine Wa rfl (Wg vI (Wa rfl (Wg vI (Wc (We (We (Wb (Wa rfl (Wl 0 TI24 rfl TI22 rfl rfl (Wa rfl (Wk TI22 rfl rfl (Wh hC2 rfl) (Wa rfl (Ws TI22 rfl hD.row (Wa rfl (Wf vI (Wc (W.block (W.loop (fun e w => ∃ k : Nat, k ≤ D.length ∧ e 1 = st nm ∧ e 9 = dv ∧ e 10 = .int .i64 (D.length : Int) ∧ e 11 = .int .i64 (k : Int) ∧ DefR w D dv V ∧ (∀ j, j < k → ¬ (D.getD j df0).name = nm) ∧ Ext w0 w) (fun e w => D.length - (intOf (e 11)).toNat) ?_ ?_))))))))))))))))))
 ·exact ⟨0, Nat.zero_le _, rfl, rfl, rfl, rfl, hD, fun j hj => by omega, hx⟩
 rintro e w ⟨k, hk, h1, h9, h10, h11, hD, hno, hx⟩
 have hm11 := h11
 refine We (Wb (Wa rfl (o_lt h11 h10 (Wc (We (Wn rfl (fun c12 => ?_) (fun c12 => ?_)))))))
 ·try simp only [cs8] at c12
  have hk1 : k < D.length := by omega
  obtain ⟨tb, to_, tc, rfl, htc, hty⟩ := hD.atk hk1
  refine Wp (We (W.block (We (Wb (Wa rfl (Wf h11 (Wa rfl (Wt TI22 TI38 h9 h11 (by omega) (Wa rfl (o_ldA TI38 rfl rfl htc rfl (Wa rfl (o_alB TI38 ?_))))))))))))
  intro wa hCa hxa hsa
  refine Wa rfl (Wg vI (WL.u (o_stA TI38 rfl (show _ = Value.agg (dcell D[k] (V k)).toArray from rfl) rfl (by simp only [dcell, List.toArray, Array.toList, List.all_cons, List.all_nil, sl_one1 hty]; rfl) hCa rfl ?_)))
  intro wb7 hC7 hob hsb
  have hxb := Ext.own hxa (Nat.le_refl _) hob
  obtain ⟨b7, hb7⟩ : ∃ b, b = w.heap.size := ⟨_, rfl⟩
  rw [← hb7] at hC7 ⊢
  clear hCa hxa hsa hob hsb
  replace hx := hx.tr hxb
  replace hD := hD.ext hxb
  replace hty := hty.ext hxb
  clear hxb
  refine Wc (We (Wb (Wa rfl (Wl 0 TI38 rfl TI9 rfl rfl (Wa rfl (Wk TI9 rfl rfl (Wh hC7 rfl) (Wa rfl (Wf h1 (Wa rfl (o_eqT rfl rfl (Wc (Wn rfl (fun c19 => ?_) (fun c19 => ?_)))))))))))))
  ·try simp only [cs8] at c19
   refine We (Wb (Wa rfl (Wf vI (Wa rfl (Wg vI (Wa rfl (Wg vI (Wc (Wm (ret2v rfl vI vI ?_))))))))))
   exact ⟨by rw [where_hit hk1 (by simpa using c19) hno]; rfl, hx⟩
  try simp only [cs8] at c19
  refine Wp (Wb (Wa rfl (o_addi h11 rfl (by omega) (Wa rfl (Wf vI (Wc (⟨⟨k + 1, by omega, h1, h9, h10, rfl, hD, fun j hj => ?_, hx⟩, ?_⟩)))))))
  ·rcases Nat.lt_or_ge j k with h | h
   ·exact hno j h
   rw [show j = k by omega, getD_at hk1]; simpa using c19
  show D.length - ((k : Int) + 1).toNat < _
  rw [hm11]; simp [intOf]; omega
 try simp only [cs8] at c12
 have hk1 : k = D.length := by omega
 refine W.exit (We (Wb (Wa rfl (Wg vI (Wa rfl (Wg vI (Wc (Wm (ret2v rfl vI vI ?_)))))))))
 exact ⟨by rw [where_miss (fun j hj => hno j (by omega))]; rfl, hx⟩
theorem fault_spec (er at_ : Int) (w0 : World) : Ca Tryd.prog 61 #[.int .i64 er, .int .i64 at_] w0 (fun v w' => v = .agg #[.int .i64 er, .int .i64 at_] ∧ Ext w0 w') := by
 refine Ca.of Tryd.func61 Tryd.ntmps61 rfl rfl (We (Wb (Wa rfl (o_alB TI32 ?_))))
 intro wa hCa hxa hsa
 obtain ⟨c4, hc4⟩ : ∃ c, c = w0.heap.size := ⟨_, rfl⟩
 rw [← hc4] at hCa ⊢
 refine Wc (We (Wb (Wa rfl (Wf vI (Wa rfl (Wf vI (Wa rfl (o_bldC (cs := [_, _]) TI32 (Sizes.cons TI30 (Sizes.cons TI3 Sizes.nil)) rfl (lcp vI (lcp vI lnp)) rfl rfl (WL.u (o_stA TI32 rfl (show _ = Value.agg #[.int .i64 er, .int .i64 at_] from rfl) rfl rfl hCa rfl ?_))))))))))
 intro wb hCb hob hsb
 have hx : Ext w0 wb := hxa.trans' hob (fun _ h => h) (fun k hk he => by omega)
 refine Wc (Wm (retC rfl TI32 rfl rfl (show Cells _ c4 0 [.int .i64 er, .int .i64 at_] from Cells.of hCb 0 _ (by simp)) rfl ?_))
 exact ⟨rfl, hx⟩
set_option maxHeartbeats 1000000 in
theorem uses_spec (pb mb i : Nat) (D : List Df) (dv : Value) (V : Nat → Value) (w0 : World) (hB : Bk w0 pb mb D dv V) (hlim : DOk D) (hi : i < D.length) : Ca Tryd.prog 64 #[.pointer (some ⟨pb, 0, none⟩), .int .i64 (i : Int)] w0 (fun v w' => w'.ownsRow w0.heap.size 3 1 v (usesD D i).length ((usesD D i).map iv) ∧ Ext w0 w') := by
 have hx : Ext w0 w0 := Only.refl _ _
 have hlen := hlim.len
 have htl := hlim.ty _ (List.getElem_mem hi)
 have hnm := hlim.ex _ (List.getElem_mem hi)
 obtain ⟨gb, go, gc, hdv, hgc, hty⟩ := hB.rd.atk hi
 obtain ⟨BB, hBB⟩ : ∃ B, B = w0.heap.size := ⟨_, rfl⟩
 rw [← hBB]
 have hcl := hB.cell
 rw [hdv] at hcl
 have hB00 := hB
 have hty00 := hty
 refine Ca.of Tryd.func64 Tryd.ntmps64 rfl rfl (We (Wb (Wa rfl (Wg (by first | exact vS | exact rfl) (Wc (We (Wb (Wa rfl (Wg (by first | exact vS | exact rfl) (Wc (We (We (Wb (Wa rfl (Wf (by first | exact (show _ = Value.pointer _ from rfl) | exact rfl) (Wa rfl (o_nil rfl (Wa rfl (Wl 0 TI132 rfl TI22 rfl rfl (Wa rfl (Wk TI22 rfl rfl (Wh hcl rfl) (Wa rfl (Wf vI (Wa rfl (Wt (i := i) TI22 TI38 rfl rfl (by omega) (Wa rfl (Wl 2 TI38 rfl TI36 rfl rfl (Wa rfl (Wk TI36 rfl rfl (hgc 2 _ rfl) (Wa rfl (Ws TI36 rfl hty (Wa rfl (Wf vI (Wc (W.block (W.loop (fun e w => ∃ (k : Nat) (out : Value), k ≤ D[i].ty.length ∧ e 0 = .pointer (some ⟨pb, 0, none⟩) ∧ e 5 = out ∧ e 15 = V i ∧ e 16 = .int .i64 (D[i].ty.length : Int) ∧ e 17 = .int .i64 (k : Int) ∧ Bk w pb mb D dv V ∧ Sl w 7 (V i) D[i].ty.length (exs D[i].ty) ∧ w.ownsRow BB 3 1 out (usesK D D[i].ty k).length ((usesK D D[i].ty k).map iv) ∧ Ext w0 w) (fun e w => D[i].ty.length - (intOf (e 17)).toNat) ?_ ?_))))))))))))))))))))))))))))))))))))
 ·exact ⟨0, .slice none 0 0, Nat.zero_le _, rfl, rfl, rfl, rfl, rfl, hB, hty, World.ownsRow_nil _ _ _ _, hx⟩
 rintro e w ⟨k, out, hk, h0, h5, h15, h16, h17, hB, hty, hrow, hx⟩
 have hm17 := h17
 refine We (Wb (Wa rfl (o_lt h17 h16 (Wc (We (Wn rfl (fun c18 => ?_) (fun c18 => ?_)))))))
 ·try simp only [cs8] at c18
  have hk1 : k < D[i].ty.length := by omega
  obtain ⟨ub, uo, uc, hV1, huc⟩ := Sl.exq hty hk1
  rw [hV1] at h15
  have hnk := (hnm _ (List.getElem_mem hk1)).1
  have hul := usesK_len D D[i].ty k
  refine Wp (We (W.block (We (Wb (Wa rfl (Wt TI36 TI40 h15 h17 (by omega) (Wa rfl (o_ldA TI40 rfl rfl huc rfl (Wa rfl (o_alB TI40 ?_))))))))))
  intro wa hCa hxa hsa
  refine WL.u (o_stA TI40 rfl (show _ = Value.agg (exV D[i].ty[k]).toArray from rfl) rfl rfl hCa rfl ?_)
  intro wb7 hC7 hob hsb
  have hxb := Ext.own hxa (Nat.le_refl _) hob
  obtain ⟨b7, hb7⟩ : ∃ b, b = w.heap.size := ⟨_, rfl⟩
  rw [← hb7] at hC7 ⊢
  clear hCa hxa hsa hob hsb
  replace hx := hx.tr hxb
  replace hB := hB.ext hxb
  replace hty := hty.ext hxb
  replace hrow := Wr hrow hxb
  clear hxb
  refine Wc (We (Wb (Wa rfl (Wl 0 TI40 rfl TI3 rfl rfl (Wa rfl (Wk TI3 rfl rfl (Wh hC7 rfl) (Wa rfl (o_eq rfl rfl (Wc (Wn rfl (fun c23 => ?_) (fun c23 => ?_)))))))))))
  ·try simp only [cs8] at c23
   have h9 : D[i].ty[k].kind = 9 := by simpa using c23
   obtain ⟨wd, hwd⟩ : ∃ wd, wd = wb7.drew := ⟨_, rfl⟩
   have hxd : Ext wb7 wd := hwd ▸ Only.drew wb7
   replace hx := hx.tr hxd
   replace hB := hB.ext hxd
   replace hty := hty.ext hxd
   replace hrow := Wr hrow hxd
   replace hC7 := hxd.blk hC7 (fun h => h)
   have hcl6 := hB.cell
   refine W.drawT 9 (Ext) [(0, fun v _ => v = _), (5, fun v _ => v = _), (7, fun v _ => v = _), (15, fun v _ => v = _), (16, fun v _ => v = _), (17, fun v _ => v = _)] rfl (by kernel_rfl) (Only.refl No) (fun _ _ _ h k => h.trans k) ⟨Mono.eq, Mono.eq, Mono.eq, Mono.eq, Mono.eq, Mono.eq, trivial⟩ ⟨h0, h5, rfl, h15, h16, h17, trivial⟩ (WD.p rfl (fun e w hR hh => by obtain ⟨h5, -⟩ := hh; exact SG.n (Wf h5 ⟨rfl, Only.refl No _⟩)) (WD.p rfl (fun e w hR hh => by obtain ⟨h0, -⟩ := hh; exact SG.n (Wf h0 ⟨rfl, Only.refl No _⟩)) (WD.p rfl (fun e w hR hh => by obtain ⟨h25, -⟩ := hh; exact SG.n (o_nil h25 ⟨rfl, Only.refl No _⟩)) (WD.p rfl (fun e w hR hh => by obtain ⟨h26, -⟩ := hh; exact SG.n (Wl 1 TI132 rfl TI90 rfl h26 ⟨rfl, Only.refl No _⟩)) (WD.p rfl (fun e w hR hh => by obtain ⟨h27, -⟩ := hh; rw [← hwd] at hR; exact SG.n (Wk TI90 rfl h27 (Wh (hR.blk hcl6 (fun h => h)) rfl) ⟨rfl, Only.refl No _⟩)) (WD.p rfl (fun e w hR hh => by obtain ⟨h7, -⟩ := hh; exact SG.n (Wl 2 TI40 rfl TI9 rfl h7 ⟨rfl, Only.refl No _⟩)) (WD.p rfl (fun e w hR hh => by obtain ⟨h29, -⟩ := hh; rw [← hwd] at hR; exact SG.n (Wk TI9 rfl h29 (Wh (hR.blk hC7 (fun h => h)) rfl) ⟨rfl, Only.refl No _⟩)) (WD.p rfl (fun e w hR hh => by obtain ⟨h30, h28, -⟩ := hh; rw [← hwd] at hR; exact SG.n (o_lk MT90 h28 (hB.mp.ext hR) h30 (keyS Tryd.underlying9 (by rw [maxLen_eq]; omega)) ⟨rfl, Only.refl No _⟩)) (WD.q (fun u w => w.ownsRow wd.heap.size 3 1 u 1 [iv ((whereN D D[i].ty[k].name).getD 0)]) (fun u w w2 hR hh => Wr hh hR) rfl (fun e w hR hh => by obtain ⟨h31, -⟩ := hh; rw [← hwd] at hR; rw [getD_cast] at h31; exact SG.n (o_bs1 TI57 TI3 h31 (by decide) (by decide) rfl ⟨own_mono (own_new1 rfl) hR.size, Only.alloc w _⟩)) ?_)))))))))
   rintro e w hR ⟨h32, h31, h30, h29, h28, h27, h26, h25, h24, h0, h5, h7, h15, h16, h17, -⟩
   rw [← hwd] at hR
   replace hx := hx.tr hR
   replace hB := hB.ext hR
   replace hty := hty.ext hR
   replace hrow := Wr hrow hR
   refine Wa rfl (o_apO (BB) TI57 TI3 h24 rfl hrow (Sl.own h32) rfl (by decide) (fun a ha => by rw [List.mem_singleton.1 ha]; rfl) (by rw [maxLen_eq]; omega) (by omega) (by rw [hBB]; exact hx.size) ?_)
   intro v33 w33 hrow33 ho33 hb33 _
   have hrl : ∀ b, out.ownBlock = some b → BB ≤ b := fun b hb => (hrow.lt b hb).1
   have hxo : Ext w0 w33 := hx.trans' ho33 (fun _ h => h) (fun b hb he => by have := hrl b he; omega)
   replace hx := hxo
   obtain ⟨outN, hon⟩ : ∃ o, o = v33 := ⟨_, rfl⟩
   rw [← hon]
   have hrow2 : w33.ownsRow BB 3 1 outN (usesK D D[i].ty (k + 1)).length ((usesK D D[i].ty (k + 1)).map iv) := by
    rw [usesK_yes hk1 h9, List.map_append, List.length_append, hon]; exact hrow33
   replace hB := hB00.ext hx
   replace hty := hty00.ext hx
   refine Wa rfl (Wg (by first | exact vS | exact rfl) (Wc (Wb (Wa rfl (o_addi h17 rfl (by omega) (Wa rfl (Wf vI (Wc (⟨⟨k + 1, outN, by omega, h0, by first | exact h5 | rfl, h15.trans hV1.symm, h16, rfl, hB, hty, hrow2, hx⟩, ?_⟩)))))))))
   show D[i].ty.length - ((k : Int) + 1).toNat < _
   rw [hm17]; simp [intOf]; omega
  try simp only [cs8] at c23
  have h9 : ¬ D[i].ty[k].kind = 9 := by simpa using c23
  have hrow2 := hrow
  rw [← usesK_no hk1 h9] at hrow2
  obtain ⟨outN, hon⟩ : ∃ o, o = out := ⟨_, rfl⟩
  rw [← hon] at hrow2 h5
  refine Wp (Wb (Wa rfl (o_addi h17 rfl (by omega) (Wa rfl (Wf vI (Wc (⟨⟨k + 1, outN, by omega, h0, by first | exact h5 | rfl, h15.trans hV1.symm, h16, rfl, hB, hty, hrow2, hx⟩, ?_⟩)))))))
  show D[i].ty.length - ((k : Int) + 1).toNat < _
  rw [hm17]; simp [intOf]; omega
 try simp only [cs8] at c18
 have hk1 : k = D[i].ty.length := by omega
 subst hk1
 refine W.exit (We (Wb (Wa rfl (Wf h5 (Wa rfl (Wg (by first | exact vS | exact rfl) (Wc (Wm (Wu rfl rfl ?_)))))))))
 exact ⟨by rw [← usesK_all hi]; exact hrow, hx⟩
end Go.Proofs.YtpbflfgigfdohaaDoor

namespace Go.Proofs.YtpbflfgigfdohaaDoor
open Go Go.Vc Go.RowKit Go.Proofs

/-- the first of the numbers below n at which f answers -/
def firstN {α : Type} (n : Nat) (f : Nat → Option α) : Option α := (List.range n).findSome? f
theorem firstN_hit {α : Type} {n k : Nat} {f : Nat → Option α} {v : α} (hk : k < n) (hv : f k = some v) (hb : ∀ j, j < k → f j = none) : firstN n f = some v := by
 unfold firstN
 induction n with
 | zero => omega
 | succ n ih =>
  rw [List.range_succ, List.findSome?_append]
  rcases Nat.lt_or_ge k n with h | h
  ·rw [ih h]; rfl
  obtain rfl : k = n := by omega
  have : (List.range k).findSome? f = none := List.findSome?_eq_none_iff.2 fun j hj => hb j (List.mem_range.1 hj)
  rw [this]
  simp [hv]
theorem firstN_miss {α : Type} {n : Nat} {f : Nat → Option α} (hb : ∀ j, j < n → f j = none) : firstN n f = none :=
 List.findSome?_eq_none_iff.2 fun j hj => hb j (List.mem_range.1 hj)
theorem firstN_none {α : Type} {n : Nat} {f : Nat → Option α} (h : firstN n f = none) : ∀ j, j < n → f j = none :=
 fun j hj => List.findSome?_eq_none_iff.1 h j (List.mem_range.2 hj)
/-- is a kid's head like one ahead of it? -/
def dupB (kind : Int) (seen : List Ex) (x : Ex) : Bool := if kind = 8 then seen.any (fun y => decide (y.label = x.label)) else if kind = 7 then seen.any (fun y => decide (y.tag = x.tag)) else false
mutual
/-- the places of kids that are like one ahead of them -/
def dupT : Tr → Nat → List Nat
 | .node y ks, a => dupK y.kind ks (a + 1) []
def dupK (kind : Int) : Trs → Nat → List Ex → List Nat
 | .nil, _, _ => []
 | .cons t ts, next, seen => (if dupB kind seen t.top then [next] else []) ++ (dupT t next ++ dupK kind ts (next + t.flat.length) (seen ++ [t.top]))
end
/-- the fault at a node -/
def nodeF (D : List Df) (dup : List Nat) (L : List Ex) (j : Nat) : Option (Int × Int) :=
 if j ∈ dup then some (80, (L.getD j ex0).at_) else if (L.getD j ex0).kind = 9 ∧ whereN D (L.getD j ex0).name = none then some (81, (L.getD j ex0).at_) else none
/-- the fault of a definition -/
def defF (D : List Df) (T : Nat → Tr) (i : Nat) : Option (Int × Int) :=
 if whereN D (D.getD i df0).name = some i then firstN (tyD D i).length (nodeF D (dupT (T i) 0) (tyD D i)) else some (80, (D.getD i df0).at_)
def resF (D : List Df) (T : Nat → Tr) : Option (Int × Int) := firstN D.length (defF D T)
theorem resF_known {D : List Df} {T : Nat → Tr} (h : resF D T = none) : ∀ d ∈ D, ∀ x ∈ d.ty, x.kind = 9 → ∃ i, whereN D x.name = some i := by
 intro d hd x hx h9
 obtain ⟨i, hi, rfl⟩ := List.getElem_of_mem hd
 have h1 := firstN_none h i hi
 unfold defF at h1
 split at h1
 ·obtain ⟨j, hj, rfl⟩ := List.getElem_of_mem hx
  rw [tyD_at hi] at h1
  have h2 := firstN_none h1 j hj
  unfold nodeF at h2
  split at h2
  ·cases h2
  split at h2
  ·cases h2
  rename_i hn
  rw [List.getD_eq_getElem?_getD, List.getElem?_eq_getElem hj, Option.getD_some] at hn
  cases hw : whereN D D[i].ty[j].name with
  | some k => exact ⟨k, rfl⟩
  | none => exact absurd ⟨h9, hw⟩ hn
 cases h1
open Classical in
noncomputable def ringF (D : List Df) : Option (Int × Int) := firstN D.length (fun i => if Relation.TransGen (Us (usesD D)) i i then some (82, (D.getD i df0).at_) else none)
theorem ringF_none {D : List Df} (h : ringF D = none) : ∀ i, i < D.length → ¬ Relation.TransGen (Us (usesD D)) i i := by
 intro i hi ht
 have h1 := firstN_none h i hi
 rw [if_pos ht] at h1
 cases h1
def ordN (D : List Df) : List Nat := orderF D.length (usesD D) D.length []
def whD (D : List Df) (nm : List UInt8) : Nat := (whereN D nm).getD 0
def depN (D : List Df) (T : Nat → Tr) : Nat → Nat := depO (whD D) T (ordN D) (fun _ => 0)
def deepF (D : List Df) (T : Nat → Tr) : Option (Int × Int) := firstN D.length (fun i => if 64 < depN D T i then some (83, (D.getD i df0).at_) else none)
end Go.Proofs.YtpbflfgigfdohaaDoor

namespace Go.Proofs.YtpbflfgigfdohaaDoor
open Go Go.Vc Go.RowKit Go.Proofs

/-- at a node: what twice does -/
def STw (t : Tr) : Prop := ∀ (L rest : List Ex) (v : Value) (at_ mb n : Nat) (g : Int → Option Int) (a : Int) (d : Nat) (w0 : World), t.wf a d → L.drop at_ = t.flat ++ rest → Sl w0 7 v L.length (exs L) → L.length * 72 ≤ 140737488351232 →
 MapIs Tryd.prog 3 3 enI w0 mb n g → n + t.flat.length ≤ 4611686018427387904 →
 Ca Tryd.prog 71 #[v, .int .i64 (at_ : Int), .map (some mb)] w0 (fun u w' => u = .int .i64 ((at_ + t.flat.length : Nat) : Int) ∧ (∃ g' n', n' + 1 ≤ n + t.flat.length ∧ MapIs Tryd.prog 3 3 enI w' mb n' g' ∧ ∀ q, (g' q).isSome = true ↔ ((g q).isSome = true ∨ ∃ p ∈ dupT t at_, q = (p : Int))) ∧ Only (fun k => k = mb) w0 w')
theorem drop_at {α : Type} {L R : List α} {x : α} {i : Nat} (h : L.drop i = x :: R) : ∃ hi : i < L.length, L[i] = x ∧ L.drop (i + 1) = R := by
 have hi : i < L.length := by
  have := congrArg List.length h
  simp at this
  omega
 rw [List.drop_eq_getElem_cons hi] at h
 simp only [List.cons.injEq] at h
 exact ⟨hi, h.1, h.2⟩
theorem tr_pos (t : Tr) : 0 < t.flat.length := by cases t; exact Nat.succ_pos _
theorem top_flat (t : Tr) : ∃ r, t.flat = t.top :: r := by cases t with | node y ks => exact ⟨ks.flat, rfl⟩
theorem top_bounds {t : Tr} {a : Int} {d : Nat} (h : t.wf a d) : t.top.label.length ≤ 32 ∧ 0 ≤ t.top.tag ∧ t.top.tag ≤ 2147483647 := by
 have hr := wf_top h
 obtain ⟨-, -, hl, hg⟩ := rightB_iff hr
 refine ⟨?_, ?_⟩
 ·unfold labB at hl
  split at hl
  ·simp only [nameB, Bool.and_eq_true, decide_eq_true_eq] at hl; exact hl.1.1.1.2
  rw [of_decide_eq_true hl]; decide
 unfold tagB at hg
 simp only [Bool.or_eq_true, Bool.and_eq_true, decide_eq_true_eq] at hg
 omega

end Go.Proofs.YtpbflfgigfdohaaDoor

namespace Go.Proofs.YtpbflfgigfdohaaDoor
open Go Go.Vc Go.RowKit Go.Proofs

section
open Go.Vc
theorem o_mk2 {P : Program} {e : Env} {w : World} {K : Value → World → Prop} {ty : TypeId} {x y : Operand} {t el : TypeId} {s bs s' bs' l n : Nat} {z z' : Value} {d' : TypeDesc} {kl kc : IntKind} (ht : Ty P t (.slice el) s bs z) (hel : Ty P el d' s' bs' z') (hx : ev e x = .int kl (l : Int)) (hy : ev e y = .int kc (n : Int)) (hln : l ≤ n) (hb : bs' * n ≤ 281474976710656) (h63 : n ≤ 9223372036854775807)
  (k : K (.slice (some ⟨w.heap.size, 0, none⟩) l n) (w.alloc (.cells (madeCells z'.cells (n * s')) el))) : OP P e (.makeSlice t x y) ty w K := by
 obtain ⟨i, h1, h2, h3, h4⟩ := hel.info
 subst h2 h3
 have hb' : (i.bytes : Int) * (n : Int) ≤ 281474976710656 := by
  have : ((i.bytes * n : Nat) : Int) ≤ 281474976710656 := by omega
  rwa [Int.natCast_mul] at this
 have h := run_make (P := P) w t el i z' ht.und h1 h4 kl kc l n (by omega) (by omega) hb' (by omega)
 simp only [Int.toNat_natCast] at h
 exact OP.of (by simp [execOp, hx, hy, h]) k
end
theorem own_made1 {w : World} {el : TypeId} {l n : Nat} {z : Value} (hz : z.cells = #[z]) (hln : l ≤ n) (hn : n ≤ 9223372036854775807) : (w.alloc (.cells (madeCells z.cells (n * 1)) el)).ownsRow w.heap.size el 1 (.slice (some ⟨w.heap.size, 0, none⟩) l n) l (List.replicate l z) := by
 have hc : (madeCells z.cells (n * 1)).toList = List.replicate n z := by rw [hz, Nat.mul_one, toList_madeCells_one]
 refine ⟨by simp, .inr ⟨w.heap.size, n, madeCells z.cells (n * 1), rfl, Nat.le_refl _, heap_alloc_new w _, hln, by rw [maxLen_eq]; omega, ?_, ?_⟩⟩
 ·have := congrArg List.length hc; simpa using this
 rw [hc, List.take_replicate, Nat.mul_one, Nat.min_eq_left hln]
theorem Sl.at1 {w : World} {v u : Value} {n k : Nat} {xs : List Value} (h : Sl w 1 v n xs) (hk : k < n) (hx : xs[k]? = some u) : ∃ b o c, v = .slice (some ⟨b, o, none⟩) n c ∧ w.cell? ⟨b, o + k * 1, none⟩ = some u := by
 rcases h.val with ⟨hz, h0⟩ | ⟨b, o, c, rfl, hnc, hc⟩
 ·omega
 exact ⟨b, o, c, rfl, by rw [Nat.mul_one]; exact hc k u hx⟩
/-- what is told, asx cells -/
def tlB (n : Nat) (out : List Nat) : List Value := (List.range n).map (fun j => Value.bool (out.contains j))
theorem tlB_at {n k : Nat} {out : List Nat} (hk : k < n) : (tlB n out)[k]? = some (.bool (out.contains k)) := by
 unfold tlB
 rw [List.getElem?_map, List.getElem?_range hk]
 rfl
theorem tlB_nil (n : Nat) : tlB n [] = List.replicate n (.bool false) := by
 unfold tlB
 rw [List.eq_replicate_iff]
 refine ⟨by simp, fun b hb => ?_⟩
 obtain ⟨j, -, rfl⟩ := List.mem_map.1 hb
 rfl
theorem tlB_set {n i : Nat} {out : List Nat} : (tlB n out).set i (.bool true) = tlB n (out ++ [i]) := by
 apply List.ext_getElem?
 intro j
 rw [List.getElem?_set]
 by_cases hj : j < n
 ·rw [tlB_at hj, tlB_at hj]
  by_cases e : i = j
  ·subst e
   rw [if_pos rfl, if_pos (by simpa [tlB] using hj)]
   simp
  rw [if_neg e]
  have e2 : ¬ j = i := fun h => e h.symm
  simp [e2]
 have h1 : ∀ o, (tlB n o)[j]? = none := fun o => List.getElem?_eq_none (by simp [tlB]; omega)
 rw [h1, h1]
 split
 ·rw [if_neg (by simp [tlB]; omega)]
 rfl

theorem ord1_spec (k c4 n : Nat) (tv : Value) (out : List Nat) (w0 : World) (hc : w0.heap[c4]? = some (.cells #[tv] 135 (0, 0))) (hT : Sl w0 1 tv n (tlB n out)) (hk : k < n) : Ca Tryd.prog 65 #[.int .i64 (k : Int), .pointer (some ⟨c4, 0, none⟩)] w0 (fun v w' => v = .bool (decide (k ∉ out)) ∧ Ext w0 w') := by
 have hx : Ext w0 w0 := Only.refl _ _
 obtain ⟨tb, to_, tc, htv, hcell⟩ := Sl.at1 hT hk (tlB_at hk)
 rw [htv] at hc
 refine Ca.of Tryd.func65 Tryd.ntmps65 rfl rfl (We (Wb (Wa rfl (Wg vB (Wc (We (Wb (Wa rfl (Wk TI135 rfl (show _ = Value.pointer (some ⟨c4, 0, none⟩) from rfl) (Wh hc rfl) (Wa rfl (Wf vI (Wa rfl (Wt (i := k) TI135 TI4 rfl rfl (by omega) (Wa rfl (Wk TI4 rfl rfl hcell (Wa rfl (o_not' rfl (Wa rfl (Wg vB (Wc (Wm (Wu rfl vB ?_))))))))))))))))))))))
 exact ⟨congrArg Value.bool (by simp), hx⟩
theorem ixf_spec (us : List Nat) (uv : Value) (c4 n : Nat) (tv : Value) (out : List Nat) (w0 : World) (hU : Sl w0 1 uv us.length (us.map iv)) (hc : w0.heap[c4]? = some (.cells #[tv] 135 (0, 0))) (hT : Sl w0 1 tv n (tlB n out)) (hul : ∀ k ∈ us, k < n) (hl : us.length ≤ 4611686018427387904) : Ca Tryd.prog 74 #[uv, (Value.func (.func 65) #[] #[.pointer (some ⟨c4, 0, none⟩)])] w0 (fun v w' => (∃ r : Int, v = .int .i64 r ∧ decide (0 ≤ r) = decide (¬ ∀ k ∈ us, k ∈ out)) ∧ Ext w0 w') := by
 have hx : Ext w0 w0 := Only.refl _ _
 refine Ca.of Tryd.func74 Tryd.ntmps74 rfl rfl (We (Wb (Wa rfl (Wg vI (Wc (We (We (Wb (Wa rfl (Wf (by first | exact vS | exact rfl) (Wa rfl (Ws TI57 rfl hU (Wa rfl (Wf vI (Wc (W.block (W.loop (fun e w => ∃ k : Nat, k ≤ us.length ∧ e 0 = uv ∧ e 1 = (Value.func (.func 65) #[] #[.pointer (some ⟨c4, 0, none⟩)]) ∧ e 7 = .int .i64 (us.length : Int) ∧ e 8 = .int .i64 (k : Int) ∧ Sl w 1 uv us.length (us.map iv) ∧ w.heap[c4]? = some (.cells #[tv] 135 (0, 0)) ∧ Sl w 1 tv n (tlB n out) ∧ (∀ q ∈ us.take k, q ∈ out) ∧ Ext w0 w) (fun e w => us.length - (intOf (e 8)).toNat) ?_ ?_)))))))))))))))))
 ·exact ⟨0, Nat.zero_le _, rfl, rfl, rfl, rfl, hU, hc, hT, fun q hq => by simp at hq, hx⟩
 rintro e w ⟨k, hk, h0, h1, h7, h8, hU, hc, hT, hall, hx⟩
 have hm8 := h8
 refine We (Wb (Wa rfl (o_lt h8 h7 (Wc (We (Wn rfl (fun c9 => ?_) (fun c9 => ?_)))))))
 ·try simp only [cs8] at c9
  have hk1 : k < us.length := by omega
  obtain ⟨ub, uo, uc, hV, hcell⟩ := Sl.at1 hU hk1 (u := iv us[k]) (by rw [List.getElem?_map, List.getElem?_eq_getElem hk1]; rfl)
  rw [hV] at h0
  refine Wp (We (W.block (We (Wb (Wa rfl (Wf h8 (Wa rfl (Wg vI (Wc (We (Wb (Wa rfl (Wf h1 (Wa rfl (Wf h0 (Wa rfl (Wf vI (Wa rfl (Wt (i := k) TI57 TI3 (show _ = Value.slice (some ⟨ub, uo, none⟩) us.length uc from rfl) rfl (by omega) (Wa rfl (Wk TI3 rfl rfl hcell (Wa rfl (o_callC (show _ = (Value.func (.func 65) #[] #[.pointer (some ⟨c4, 0, none⟩)]) from rfl) Tryd.call65 (lc (show _ = Value.int .i64 (us[k] : Int) from rfl) ln) ((ord1_spec us[k] c4 n tv out _ hc hT (hul _ (List.getElem_mem hk1))).mono ?_))))))))))))))))))))))))
  rintro v16 w16 ⟨rfl, hx16⟩
  replace hx := hx.tr hx16
  replace hU := hU.ext hx16
  replace hT := hT.ext hx16
  replace hc := hx16.blk hc (fun h => h)
  refine Wc (Wn rfl (fun c16 => ?_) (fun c16 => ?_))
  ·try simp only [cs8] at c16
   refine We (Wb (Wa rfl (Wf vI (Wa rfl (Wg vI (Wc (Wm (Wu rfl vI ?_))))))))
   exact ⟨⟨_, rfl, by rw [decide_eq_decide]; exact ⟨fun _ h => (by simpa using c16 : us[k] ∉ out) (h _ (List.getElem_mem hk1)), fun _ => by omega⟩⟩, hx⟩
  try simp only [cs8] at c16
  refine Wp (Wb (Wa rfl (o_addi h8 rfl (by omega) (Wa rfl (Wf vI (Wc (⟨⟨k + 1, by omega, h0.trans hV.symm, h1, h7, rfl, hU, hc, hT, fun q hq => ?_, hx⟩, ?_⟩)))))))
  ·rw [List.take_succ_eq_append_getElem hk1] at hq
   rcases List.mem_append.1 hq with hq | hq
   ·exact hall q hq
   rw [List.mem_singleton.1 hq]; simpa using c16
  show us.length - ((k : Int) + 1).toNat < _
  rw [hm8]; simp [intOf]; omega
 try simp only [cs8] at c9
 have hk1 : k = us.length := by omega
 rw [hk1, List.take_length] at hall
 refine W.exit (We (Wb (Wa rfl (Wg vI (Wc (Wm (Wu rfl vI ?_)))))))
 exact ⟨⟨_, rfl, by rw [decide_eq_decide]; exact ⟨fun h => absurd h (by decide), fun h => absurd hall h⟩⟩, hx⟩
theorem ctf_spec (us : List Nat) (uv : Value) (c4 n : Nat) (tv : Value) (out : List Nat) (w0 : World) (hU : Sl w0 1 uv us.length (us.map iv)) (hc : w0.heap[c4]? = some (.cells #[tv] 135 (0, 0))) (hT : Sl w0 1 tv n (tlB n out)) (hul : ∀ k ∈ us, k < n) (hl : us.length ≤ 4611686018427387904) : Ca Tryd.prog 63 #[uv, (Value.func (.func 65) #[] #[.pointer (some ⟨c4, 0, none⟩)])] w0 (fun v w' => v = .bool (decide (¬ ∀ k ∈ us, k ∈ out)) ∧ Ext w0 w') := by
 refine Ca.of Tryd.func63 Tryd.ntmps63 rfl rfl (We (Wb (Wa rfl (Wg vB (Wc (We (Wb (Wa rfl (Wf (by first | exact vS | exact rfl) (Wa rfl (o_mv (Wa rfl (o_call Tryd.call74 (lc rfl (lc rfl ln)) ((ixf_spec us uv c4 n tv out _ hU hc hT hul hl).mono ?_))))))))))))))
 rintro v7 w7 ⟨⟨r, rfl, hr⟩, hx⟩
 refine Wa rfl (o_ge rfl rfl (Wa rfl (Wg vB (Wc (Wm (Wu rfl vB ?_))))))
 exact ⟨congrArg Value.bool hr, hx⟩
end Go.Proofs.YtpbflfgigfdohaaDoor

namespace Go.Proofs.YtpbflfgigfdohaaDoor
open Go Go.Vc Go.RowKit Go.Proofs
set_option maxHeartbeats 2000000 in
theorem order_spec (pb mb : Nat) (D : List Df) (dv : Value) (V : Nat → Value) (w0 : World) (hB : Bk w0 pb mb D dv V) (hlim : DOk D) (hU : ∀ i, i < D.length → ∀ j ∈ usesD D i, j < D.length) (hac : ∀ i, i < D.length → ¬ Relation.TransGen (Us (usesD D)) i i) : Ca Tryd.prog 34 #[.pointer (some ⟨pb, 0, none⟩)] w0 (fun v w' => w'.ownsRow w0.heap.size 3 1 v (ordN D).length ((ordN D).map iv) ∧ Ext w0 w') := by
 have hx : Ext w0 w0 := Only.refl _ _
 have hlen := hlim.len
 have hB00 := hB
 obtain ⟨BB, hBB⟩ : ∃ B, B = w0.heap.size := ⟨_, rfl⟩
 rw [← hBB]
 refine Ca.of Tryd.func34 Tryd.ntmps34 rfl rfl (We (Wb (Wa rfl (Wg (by first | exact vS | exact rfl) (Wc (We (Wb (Wa rfl (Wf (by first | exact (show _ = Value.pointer _ from rfl) | exact rfl) (Wa rfl (o_nil rfl (Wa rfl (Wl 0 TI132 rfl TI22 rfl rfl (Wa rfl (Wk TI22 rfl rfl (Wh hB.cell rfl) (Wa rfl (Ws TI22 rfl hB.rd.row (Wa rfl (o_mk2 TI57 TI3 (l := 0) (n := D.length) rfl rfl (Nat.zero_le _) (by omega) (by omega) ?_)))))))))))))))))))
 have hro := own_made1 (w := w0) (el := 3) (l := 0) (n := D.length) (z := .int .i64 0) rfl (Nat.zero_le _) (by omega)
 have hxa : Ext w0 (w0.alloc (.cells (madeCells (Value.int .i64 0).cells (D.length * 1)) 3)) := Only.alloc w0 _
 generalize w0.alloc (.cells (madeCells (Value.int .i64 0).cells (D.length * 1)) 3) = wa at hro hxa ⊢
 replace hx := hxa
 replace hB := hB.ext hxa
 obtain ⟨ov, hov⟩ : ∃ o, o = Value.slice (some ⟨w0.heap.size, 0, none⟩) 0 D.length := ⟨_, rfl⟩
 rw [← hov] at hro ⊢
 rw [← hBB] at hro
 clear hxa
 refine Wa rfl (Wg (by first | exact vS | exact rfl) (Wc (We (Wb (Wa rfl (Wf (by first | exact (show _ = Value.pointer _ from rfl) | exact rfl) (Wa rfl (o_nil rfl (Wa rfl (Wl 0 TI132 rfl TI22 rfl rfl (Wa rfl (Wk TI22 rfl rfl (Wh hB.cell rfl) (Wa rfl (Ws TI22 rfl hB.rd.row (Wa rfl (o_mk2 TI135 TI4 (l := D.length) (n := D.length) rfl rfl (Nat.le_refl _) (by omega) (by omega) ?_))))))))))))))))
 have hrt := own_made1 (w := wa) (el := 4) (l := D.length) (n := D.length) (z := .bool false) rfl (Nat.le_refl _) (by omega)
 have hxb : Ext wa (wa.alloc (.cells (madeCells (Value.bool false).cells (D.length * 1)) 4)) := Only.alloc wa _
 generalize wa.alloc (.cells (madeCells (Value.bool false).cells (D.length * 1)) 4) = wt at hrt hxb ⊢
 obtain ⟨tv, htv⟩ : ∃ o, o = Value.slice (some ⟨wa.heap.size, 0, none⟩) D.length D.length := ⟨_, rfl⟩
 rw [← htv] at hrt ⊢
 rw [← tlB_nil] at hrt
 replace hrt := own_mono hrt (show BB ≤ wa.heap.size by rw [hBB]; exact hx.size)
 replace hx := hx.tr hxb
 replace hB := hB.ext hxb
 replace hro := Wr hro hxb
 clear hxb htv hov
 refine Wa rfl (o_alB TI135 ?_)
 have hxt := hx
 intro wb hCb hxb hsb
 replace hrt := Wr hrt hxb
 replace hx := hx.tr hxb
 replace hB := hB.ext hxb
 replace hro := Wr hro hxb
 obtain ⟨c4, hc4⟩ : ∃ c, c = wt.heap.size := ⟨_, rfl⟩
 rw [← hc4] at hCb ⊢
 have hzt : BB ≤ c4 := by rw [hc4, hBB]; exact hxt.size
 refine WL.u (o_stB TI135 rfl (show _ = tv from rfl) (own_one hrt) hCb (show 0 < 1 by decide) ?_)
 intro wc hC4 ho hsc
 replace hC4 : wc.heap[c4]? = some (.cells #[tv] 135 (0, 0)) := hC4
 replace hro := own_only hro ho (fun b hb he => by subst he; exact own_off hro hCb (by decide) hb)
 replace hrt := own_only hrt ho (fun b hb he => by subst he; exact own_off hrt hCb (by decide) hb)
 replace hx := hx.trans' ho (fun _ h => h) (fun b hb he => by omega)
 replace hB := hB00.ext hx
 clear hCb ho
 refine Wc (We (W.block (W.loop (fun e w => ∃ (out : List Nat) (ov tv : Value), e 0 = .pointer (some ⟨pb, 0, none⟩) ∧ e 3 = ov ∧ e 4 = .pointer (some ⟨c4, 0, none⟩) ∧ out.length ≤ D.length ∧ Told D.length (usesD D) out ∧ orderF D.length (usesD D) (D.length - out.length) out = ordN D ∧ w.ownsRow BB 3 1 ov out.length (out.map iv) ∧ w.heap[c4]? = some (.cells #[tv] 135 (0, 0)) ∧ w.ownsRow BB 4 1 tv D.length (tlB D.length out) ∧ Bk w pb mb D dv V ∧ Ext w0 w) (fun e w => D.length - slen (e 3)) ?_ ?_)))
 ·exact ⟨[], ov, tv, rfl, rfl, rfl, Nat.zero_le _, Told.nil, rfl, hro, hC4, hrt, hB, hx⟩
 rintro e w ⟨out, ov, tv, h0, h3, h4, hol, htold, hord, hro, hC4, hrt, hB, hx⟩
 have hm3 := h3
 refine We (We (Wb (Wa rfl (Wf h3 (Wa rfl (Ws TI57 rfl (Sl.own hro) (Wa rfl (Wf h0 (Wa rfl (o_nil rfl (Wa rfl (Wl 0 TI132 rfl TI22 rfl rfl (Wa rfl (Wk TI22 rfl rfl (Wh hB.cell rfl) (Wa rfl (Ws TI22 rfl hB.rd.row (Wa rfl (o_lt rfl rfl (Wc (Wn rfl (fun c25 => ?_) (fun c25 => ?_)))))))))))))))))))))
 ·try simp only [cs8] at c25
  have hl1 : out.length < D.length := by omega
  obtain ⟨nx, hnx⟩ := nextO_none hU hac hl1
  obtain ⟨aa, cc, rfl, hcc⟩ := own_form hro
  refine Wp (W.block (We (Wb (Wa rfl (Wf h0 (Wa rfl (o_nil rfl (Wa rfl (Wl 0 TI132 rfl TI22 rfl rfl (Wa rfl (Wk TI22 rfl rfl (Wh hB.cell rfl) (Wa rfl (Ws TI22 rfl hB.rd.row (Wa rfl (Wf vI (Wc (W.block (W.loop (fun e w => ∃ i : Nat, i ≤ D.length ∧ e 0 = .pointer (some ⟨pb, 0, none⟩) ∧ e 3 = (Value.slice aa out.length cc) ∧ e 4 = .pointer (some ⟨c4, 0, none⟩) ∧ e 30 = .int .i64 (D.length : Int) ∧ e 31 = .int .i64 (i : Int) ∧ (∀ j, j < i → ¬ (j ∉ out ∧ ∀ k ∈ usesD D j, k ∈ out)) ∧ w.ownsRow BB 3 1 (Value.slice aa out.length cc) out.length (out.map iv) ∧ w.heap[c4]? = some (.cells #[tv] 135 (0, 0)) ∧ w.ownsRow BB 4 1 tv D.length (tlB D.length out) ∧ Bk w pb mb D dv V ∧ Ext w0 w) (fun e w => D.length - (intOf (e 31)).toNat) ?_ ?_))))))))))))))))))
  ·exact ⟨0, Nat.zero_le _, h0, h3, h4, rfl, rfl, fun j hj => by omega, hro, hC4, hrt, hB, hx⟩
  rintro e w ⟨i, hi, h0, h3, h4, h30, h31, hno, hro, hC4, hrt, hB, hx⟩
  have hm31 := h31
  refine We (Wb (Wa rfl (o_lt h31 h30 (Wc (We (Wn rfl (fun c32 => ?_) (fun c32 => ?_)))))))
  ·try simp only [cs8] at c32
   have hi1 : i < D.length := by omega
   obtain ⟨tb, tc, htv, htb⟩ := own_some hrt (by omega)
   have hrt1 := hrt
   rw [htv] at hrt1
   have hcell : w.cell? ⟨tb, 0 + i * 1, none⟩ = some (.bool (out.contains i)) := by rw [Nat.zero_add, Nat.mul_one]; exact own_cell hrt1 (tlB_at hi1)
   rw [htv] at hC4
   refine Wp (We (W.block (We (Wb (Wa rfl (Wf h31 (Wa rfl (Wg vI (Wc (We ?_))))))))))
   by_cases hm : i ∉ out
   by_cases ha : ∀ k ∈ usesD D i, k ∈ out
   ·skip
    skip
    refine Wb (Wa rfl (Wk TI135 rfl h4 (Wh hC4 rfl) (Wa rfl (Wf vI (Wa rfl (Wt (i := i) TI135 TI4 (show _ = Value.slice (some ⟨tb, 0, none⟩) D.length tc from rfl) rfl (by omega) (Wa rfl (Wk TI4 rfl rfl hcell (Wa rfl (o_not' rfl (Wa rfl (Wf vB (Wj rfl (by simp [hm]) rfl (Wf h0 (Wj rfl (by simp [hm]) rfl (Wf vI (Wj rfl (by simp [hm]) rfl (o_call Tryd.call64 (lc rfl (lc rfl ln)) ((uses_spec pb mb i D dv V _ hB hlim hi1).mono ?_)))))))))))))))))))
    rintro v42 w42 ⟨hu42, hx42⟩
    replace hx := hx.tr hx42
    replace hB := hB.ext hx42
    replace hC4 := hx42.blk hC4 (fun h => h)
    replace hro := Wr hro hx42
    replace hrt := Wr hrt hx42
    refine Wj rfl (by simp [hm]) rfl (o_mkF (lc h4 ln) (Wj rfl (by simp [hm]) rfl (o_call Tryd.call63 (lc rfl (lc rfl ln)) ((ctf_spec (usesD D i) v42 c4 D.length _ out _ (Sl.own hu42) hC4 (Sl.own (htv ▸ hrt)) (fun k hk => hU i hi1 k hk) (by have h1 := usesK_len D D[i].ty D[i].ty.length; rw [usesK_all hi1] at h1; have := hlim.ty _ (List.getElem_mem hi1); omega)).mono ?_))))
    rintro v44 w44 ⟨rfl, hx44⟩
    replace hx := hx.tr hx44
    replace hB := hB.ext hx44
    replace hC4 := hx44.blk hC4 (fun h => h)
    replace hro := Wr hro hx44
    replace hrt := Wr hrt hx44
    refine Wj rfl (by simp [hm]) rfl (o_not' rfl (Wa rfl (Ww rfl rfl (Wc (W.condT' rfl (by simp; exact ⟨hm, ha⟩) (We (Wb (Wa rfl (Wk TI135 rfl h4 (Wh hC4 rfl) (Wa rfl (Wf vI (Wa rfl (Wt (i := i) TI135 TI4 (show _ = Value.slice (some ⟨tb, 0, none⟩) D.length tc from rfl) rfl (by omega) (WL.u (o_stRj TI4 rfl (show 0 + i * 1 = i by omega) (show _ = Value.bool true from rfl) rfl (htv ▸ hrt) (show Value.ownBlock (Value.slice (some ⟨tb, 0, none⟩) D.length tc) = some tb from rfl) (by omega) ?_)))))))))))))))
    intro w49 hrt49 ho49 hs49
    have hlo : ∀ b, tv.ownBlock = some b → BB ≤ b := fun b hb => (hrt.lt b hb).1
    rw [← htv] at hrt49 ho49 hC4
    replace hC4 := ho49.blk hC4 (fun hb => own_off hrt hC4 (by decide) hb)
    replace hro := own_only hro ho49 (own_row_off hrt hro (by decide))
    replace hx := hx.trans' ho49 (fun _ h => h) (fun b hb he => by have := hlo b he; omega)
    replace hB := hB00.ext hx
    clear hrt
    rw [tlB_set] at hrt49
    have hrt := hrt49
    clear hrt49 ho49
    refine Wc (We (Wb (Wa rfl (Wf h3 (Wa rfl (Wf vI (WL.apO (BB) rfl rfl TI57 TI3 vI vS hro (by decide) (by decide) rfl (one1 rfl) rfl (by rw [maxLen_eq]; omega) (by omega) (by rw [hBB]; exact hx.size) ?_)))))))
    intro ovN w53 hroN ho53 hb53 _
    have hlo : ∀ b, (Value.slice aa out.length cc).ownBlock = some b → BB ≤ b := fun b hb => (hro.lt b hb).1
    replace hC4 := ho53.blk hC4 (fun hb => own_off hro hC4 (by decide) hb)
    replace hrt := own_only hrt ho53 (own_row_off hro hrt (by decide))
    replace hx := hx.trans' ho53 (fun _ h => h) (fun b hb he => by have := hlo b he; omega)
    replace hB := hB00.ext hx
    replace hroN : w53.ownsRow BB 3 1 ovN (out.length + 1) ((out ++ [i]).map iv) := by rw [List.map_append]; exact hroN
    obtain ⟨tvN, htvN⟩ : ∃ t, t = tv := ⟨_, rfl⟩
    rw [← htvN] at hC4 hrt
    have hnxi : nextO D.length (usesD D) out = some i := by
     obtain ⟨p1, p2, p3, p4⟩ := nextO_some hnx
     have : nx = i := by
      rcases Nat.lt_trichotomy nx i with h | h | h
      ·exact absurd ⟨p2, p3⟩ (hno nx h)
      ·exact h
      exact absurd ⟨hm, ha⟩ (p4 i h)
     rw [← this]; exact hnx
    clear hro ho53
    refine Wa rfl (Wg (by first | exact vS | exact rfl) (Wc (W.exit ?_)))
    obtain ⟨a9, c9, hov9, -⟩ := own_form hroN
    refine ⟨⟨out ++ [i], ovN, tvN, h0, rfl, h4, by rw [List.length_append, List.length_singleton]; omega, htold.step hnxi, ?_, by rw [List.length_append, List.length_singleton]; exact hroN, hC4, hrt, hB, hx⟩, ?_⟩
    ·rw [List.length_append, List.length_singleton, ← orderF_more hnxi, show D.length - (out.length + 1) + 1 = D.length - out.length by omega]; exact hord
    show D.length - slen ovN < _
    rw [hm3, hov9]
    show D.length - (out.length + 1) < D.length - out.length
    omega
   ·skip
    have hnot : ¬ (i ∉ out ∧ ∀ k ∈ usesD D i, k ∈ out) := fun h => ha h.2
    refine Wb (Wa rfl (Wk TI135 rfl h4 (Wh hC4 rfl) (Wa rfl (Wf vI (Wa rfl (Wt (i := i) TI135 TI4 (show _ = Value.slice (some ⟨tb, 0, none⟩) D.length tc from rfl) rfl (by omega) (Wa rfl (Wk TI4 rfl rfl hcell (Wa rfl (o_not' rfl (Wa rfl (Wf vB (Wj rfl (by simp [hm]) rfl (Wf h0 (Wj rfl (by simp [hm]) rfl (Wf vI (Wj rfl (by simp [hm]) rfl (o_call Tryd.call64 (lc rfl (lc rfl ln)) ((uses_spec pb mb i D dv V _ hB hlim hi1).mono ?_)))))))))))))))))))
    rintro v42 w42 ⟨hu42, hx42⟩
    replace hx := hx.tr hx42
    replace hB := hB.ext hx42
    replace hC4 := hx42.blk hC4 (fun h => h)
    replace hro := Wr hro hx42
    replace hrt := Wr hrt hx42
    refine Wj rfl (by simp [hm]) rfl (o_mkF (lc h4 ln) (Wj rfl (by simp [hm]) rfl (o_call Tryd.call63 (lc rfl (lc rfl ln)) ((ctf_spec (usesD D i) v42 c4 D.length _ out _ (Sl.own hu42) hC4 (Sl.own (htv ▸ hrt)) (fun k hk => hU i hi1 k hk) (by have h1 := usesK_len D D[i].ty D[i].ty.length; rw [usesK_all hi1] at h1; have := hlim.ty _ (List.getElem_mem hi1); omega)).mono ?_))))
    rintro v44 w44 ⟨rfl, hx44⟩
    replace hx := hx.tr hx44
    replace hB := hB.ext hx44
    replace hC4 := hx44.blk hC4 (fun h => h)
    replace hro := Wr hro hx44
    replace hrt := Wr hrt hx44
    refine Wj rfl (by simp [hm]) rfl (o_not' rfl (Wa rfl (Ww rfl rfl (Wc (W.condF' rfl (by simp [ha]) (Wp (Wb (Wa rfl (o_addi h31 rfl (by omega) (Wa rfl (Wf vI (Wc ?_))))))))))))
    rw [← htv] at hC4
    refine ⟨⟨i + 1, by omega, h0, h3, h4, h30, rfl, fun j hj => ?_, hro, hC4, hrt, hB, hx⟩, ?_⟩
    ·rcases Nat.lt_or_ge j i with h | h
     ·exact hno j h
     rw [show j = i by omega]; exact hnot
    show D.length - ((i : Int) + 1).toNat < _
    rw [hm31]; simp [intOf]; omega
   skip
   have hnot : ¬ (i ∉ out ∧ ∀ k ∈ usesD D i, k ∈ out) := fun h => hm h.1
   refine Wb (Wa rfl (Wk TI135 rfl h4 (Wh hC4 rfl) (Wa rfl (Wf vI (Wa rfl (Wt (i := i) TI135 TI4 (show _ = Value.slice (some ⟨tb, 0, none⟩) D.length tc from rfl) rfl (by omega) (Wa rfl (Wk TI4 rfl rfl hcell (Wa rfl (o_not' rfl (Wa rfl (Wf vB (Wi rfl (by simpa using hm) rfl (Wi rfl (by simpa using hm) rfl (Wi rfl (by simpa using hm) rfl (Wi rfl (by simpa using hm) rfl (Wi rfl (by simpa using hm) rfl (Wi rfl (by simpa using hm) rfl (Wa rfl (Wv rfl (by simpa using hm) (Wc (W.condF' rfl (by simp) (Wp (Wb (Wa rfl (o_addi h31 rfl (by omega) (Wa rfl (Wf vI (Wc ?_)))))))))))))))))))))))))))))
   rw [← htv] at hC4
   refine ⟨⟨i + 1, by omega, h0, h3, h4, h30, rfl, fun j hj => ?_, hro, hC4, hrt, hB, hx⟩, ?_⟩
   ·rcases Nat.lt_or_ge j i with h | h
    ·exact hno j h
    rw [show j = i by omega]; exact hnot
   show D.length - ((i : Int) + 1).toNat < _
   rw [hm31]; simp [intOf]; omega
  try simp only [cs8] at c32
  exfalso
  obtain ⟨p1, p2, p3, -⟩ := nextO_some hnx
  exact hno nx (by omega) ⟨p2, p3⟩
 try simp only [cs8] at c25
 have hl1 : out.length = D.length := by omega
 rw [hl1, Nat.sub_self] at hord
 replace hord : out = ordN D := hord
 rw [hord] at hro
 refine W.exit (We (Wb (Wa rfl (Wf h3 (Wa rfl (Wg (by first | exact vS | exact rfl) (Wc (Wm (Wu rfl rfl ?_)))))))))
 exact ⟨hro, hx⟩
end Go.Proofs.YtpbflfgigfdohaaDoor

namespace Go.Proofs.YtpbflfgigfdohaaDoor
open Go Go.Vc Go.RowKit Go.Proofs

/-- how many are not seen -/
def unseen (n : Nat) (g : Int → Option Int) : Nat := (List.range n).countP (fun k : Nat => (g (k : Int)).isNone)
theorem unseen_upd {n k : Nat} {g : Int → Option Int} {v : Int} (hk : k < n) (hg : g (k : Int) = none) : unseen n (fun c => if c = (k : Int) then some v else g c) < unseen n g := by
 unfold unseen
 refine countP_lt (y := k) (fun x hx => ?_) (List.mem_range.2 hk) (by rw [hg]; rfl) (by simp)
 simp only at hx
 split at hx
 ·cases hx
 exact hx
/-- what a search tells: where it found nothing, what it has newly seen is closed -/
structure Shut (n : Nat) (U : Nat → List Nat) (df : Nat) (g g' : Int → Option Int) : Prop where
 mono : ∀ q, g q ≠ none → g' q ≠ none
 new : ∀ q : Nat, g' (q : Int) ≠ none → g (q : Int) = none → df ∉ U q ∧ ∀ v ∈ U q, g' (v : Int) ≠ none
theorem Shut.refl {n : Nat} {U : Nat → List Nat} {df : Nat} {g : Int → Option Int} : Shut n U df g g := ⟨fun q h => h, fun q h1 h2 => absurd h2 h1⟩
/-- one more is marked, and searched -/
theorem Shut.step {n : Nat} {U : Nat → List Nat} {df : Nat} {g gk g' : Int → Option Int} {t : Nat} {v : Int} (h : Shut n U df g gk) (h1 : Shut n U df (fun c => if c = (t : Int) then some v else gk c) g') (h2 : df ∉ U t ∧ ∀ v ∈ U t, g' (v : Int) ≠ none) : Shut n U df g g' ∧ (∀ q, gk q ≠ none → g' q ≠ none) ∧ g' (t : Int) ≠ none := by
 have hm : ∀ q, gk q ≠ none → g' q ≠ none := fun q hq => h1.mono q (by split <;> simp_all)
 refine ⟨⟨fun q hq => hm q (h.mono q hq), fun q hq hn => ?_⟩, hm, h1.mono _ (by simp)⟩
 by_cases hk : gk (q : Int) = none
 ·by_cases e : q = t
  ·subst e; exact h2
  refine h1.new q hq ?_
  rw [if_neg (by omega)]; exact hk
 obtain ⟨a1, a2⟩ := h.new q hk hn
 exact ⟨a1, fun v hv => hm _ (a2 v hv)⟩
theorem map_ne {w : World} {b c : Nat} {cs : Array Value} {T : TypeId} {fr : Nat × Nat} {n : Nat} {g : Int → Option Int} (hM : MapIs Tryd.prog 3 3 enI w b n g) (hc : w.heap[c]? = some (.cells cs T fr)) : c ≠ b := by
 obtain ⟨Dm, ⟨es, clock, hb, -⟩, -⟩ := hM
 intro e
 rw [e, hb] at hc
 cases hc
/-- the search's cells; wB: the world before its map was made -/
structure RC (wB w : World) (c2 c3 c5 c6 pb df sb : Nat) : Prop where
 k2 : w.heap[c2]? = some (.cells #[.pointer (some ⟨pb, 0, none⟩)] 93 (0, 0))
 k3 : w.heap[c3]? = some (.cells #[.int .i64 (df : Int)] 3 (0, 0))
 k5 : w.heap[c5]? = some (.cells #[.map (some sb)] 140 (0, 0))
 k6 : w.heap[c6]? = some (.cells #[.func (.func 72) #[] #[.pointer (some ⟨c2, 0, none⟩), .pointer (some ⟨c3, 0, none⟩), .pointer (some ⟨c5, 0, none⟩), .pointer (some ⟨c6, 0, none⟩)]] 133 (0, 0))
 old : Ext wB w
theorem RC.ext {wB w w' : World} {c2 c3 c5 c6 pb df sb : Nat} (h : RC wB w c2 c3 c5 c6 pb df sb) (ho : Ext w w') : RC wB w' c2 c3 c5 c6 pb df sb :=
 ⟨ho.blk h.k2 (fun h => h), ho.blk h.k3 (fun h => h), ho.blk h.k5 (fun h => h), ho.blk h.k6 (fun h => h), h.old.tr ho⟩
theorem RC.turn {wB w w' : World} {c2 c3 c5 c6 pb df sb n : Nat} {g : Int → Option Int} (h : RC wB w c2 c3 c5 c6 pb df sb) (hM : MapIs Tryd.prog 3 3 enI w sb n g) (hB : wB.heap.size ≤ sb) (ho : Only (fun k => k = sb) w w') : RC wB w' c2 c3 c5 c6 pb df sb :=
 ⟨ho.blk h.k2 (map_ne hM h.k2), ho.blk h.k3 (map_ne hM h.k3), ho.blk h.k5 (map_ne hM h.k5), ho.blk h.k6 (map_ne hM h.k6), h.old.trans' ho (fun _ h => h) (fun b hb he => by omega)⟩
theorem unseen_mono {n : Nat} {g g' : Int → Option Int} (h : ∀ q, g q ≠ none → g' q ≠ none) : unseen n g' ≤ unseen n g := by
 unfold unseen
 refine List.countP_mono_left (fun x _ hx => ?_)
 cases hg : g (x : Int) with
 | none => rfl
 | some v =>
  have := h (x : Int) (by rw [hg]; simp)
  cases hg' : g' (x : Int) with
  | none => exact absurd hg' this
  | some u => rw [hg'] at hx; cases hx
/-- what the search from a definition tells -/
def LPost (wB : World) (c2 c3 c5 c6 pb df sb : Nat) (D : List Df) (g : Int → Option Int) (fr : Nat) (w0 : World) (v : Value) (w' : World) : Prop :=
 (∃ r : Bool, v = .bool r ∧ (r = true → Relation.TransGen (Us (usesD D)) fr df) ∧ (r = false → ∃ g' ns', MapIs Tryd.prog 3 3 enI w' sb ns' g' ∧ ns' + unseen D.length g' ≤ D.length ∧ Shut D.length (usesD D) df g g' ∧ df ∉ usesD D fr ∧ ∀ v ∈ usesD D fr, g' (v : Int) ≠ none)) ∧ RC wB w' c2 c3 c5 c6 pb df sb ∧ Only (fun k => k = sb) w0 w'
def SLd (wB : World) (c2 c3 c5 c6 pb df sb : Nat) (D : List Df) (m : Nat) : Prop := ∀ (fr ns : Nat) (g : Int → Option Int) (w0 : World), RC wB w0 c2 c3 c5 c6 pb df sb → MapIs Tryd.prog 3 3 enI w0 sb ns g → unseen D.length g ≤ m → ns + unseen D.length g ≤ D.length → fr < D.length →
 Ca Tryd.prog 72 #[.int .i64 (fr : Int), .pointer (some ⟨c2, 0, none⟩), .pointer (some ⟨c3, 0, none⟩), .pointer (some ⟨c5, 0, none⟩), .pointer (some ⟨c6, 0, none⟩)] w0 (LPost wB c2 c3 c5 c6 pb df sb D g fr w0)
end Go.Proofs.YtpbflfgigfdohaaDoor

namespace Go.Proofs.YtpbflfgigfdohaaDoor
open Go Go.Vc Go.RowKit Go.Proofs
set_option maxHeartbeats 2000000 in
theorem leads_step (wB : World) (c2 c3 c5 c6 pb mb df sb : Nat) (D : List Df) (dv : Value) (V : Nat → Value) (hB : Bk wB pb mb D dv V) (hsB : wB.heap.size ≤ sb) (hlim : DOk D) (hU : ∀ i, i < D.length → ∀ j ∈ usesD D i, j < D.length) (m : Nat) (IH : ∀ j, j < m → SLd wB c2 c3 c5 c6 pb df sb D j) (fr ns : Nat) (g : Int → Option Int) (w0 : World) (hRC : RC wB w0 c2 c3 c5 c6 pb df sb) (hM : MapIs Tryd.prog 3 3 enI w0 sb ns g) (hum : unseen D.length g ≤ m) (hns : ns + unseen D.length g ≤ D.length) (hfr : fr < D.length) : Ca Tryd.prog 72 #[.int .i64 (fr : Int), .pointer (some ⟨c2, 0, none⟩), .pointer (some ⟨c3, 0, none⟩), .pointer (some ⟨c5, 0, none⟩), .pointer (some ⟨c6, 0, none⟩)] w0 (LPost wB c2 c3 c5 c6 pb df sb D g fr w0) := by
 have hx : Only (fun k => k = sb) w0 w0 := Only.refl _ _
 have hlen := hlim.len
 have hsb := hM.lt
 have hul : (usesD D fr).length ≤ 4611686018427387904 := by have h1 := usesK_len D D[fr].ty D[fr].ty.length; rw [usesK_all hfr] at h1; have := hlim.ty _ (List.getElem_mem hfr); omega
 refine Ca.of Tryd.func72 Tryd.ntmps72 rfl rfl (We (Wb (Wa rfl (Wg vB (Wc (We (We (Wb (Wa rfl (Wk TI93 rfl (show _ = Value.pointer (some ⟨c2, 0, none⟩) from rfl) (Wh hRC.k2 rfl) (Wa rfl (Wf vI (Wa rfl (o_call Tryd.call64 (lc rfl (lc rfl ln)) ((uses_spec pb mb fr D dv V _ (hB.ext hRC.old) hlim hfr).mono ?_)))))))))))))))
 rintro v13 w13 ⟨hu, hx13⟩
 replace hRC := hRC.ext hx13
 replace hM := hM.ext hx13
 replace hx := hx.trans (hx13.mono (fun _ _ h => h.elim))
 refine Wa rfl (Ws TI57 rfl (Sl.own hu) (Wa rfl (Wf vI (Wc (W.block (W.loop (fun e w => ∃ (k nk : Nat) (gk : Int → Option Int), k ≤ (usesD D fr).length ∧ e 0 = .int .i64 (fr : Int) ∧ e 1 = .pointer (some ⟨c2, 0, none⟩) ∧ e 2 = .pointer (some ⟨c3, 0, none⟩) ∧ e 3 = .pointer (some ⟨c5, 0, none⟩) ∧ e 4 = .pointer (some ⟨c6, 0, none⟩) ∧ e 13 = v13 ∧ e 14 = .int .i64 ((usesD D fr).length : Int) ∧ e 15 = .int .i64 (k : Int) ∧ w.ownsRow w0.heap.size 3 1 v13 (usesD D fr).length ((usesD D fr).map iv) ∧ RC wB w c2 c3 c5 c6 pb df sb ∧ MapIs Tryd.prog 3 3 enI w sb nk gk ∧ nk + unseen D.length gk ≤ D.length ∧ Shut D.length (usesD D) df g gk ∧ (df ∉ (usesD D fr).take k) ∧ (∀ v ∈ (usesD D fr).take k, gk (v : Int) ≠ none) ∧ Only (fun k => k = sb) w0 w) (fun e w => (usesD D fr).length - (intOf (e 15)).toNat) ?_ ?_))))))
 ·exact ⟨0, ns, g, Nat.zero_le _, rfl, rfl, rfl, rfl, rfl, rfl, rfl, rfl, hu, hRC, hM, hns, Shut.refl, by simp, fun v hv => by simp at hv, hx⟩
 rintro e w ⟨k, nk, gk, hk, h0, h1, h2, h3, h4, h13, h14, h15, hu, hRC, hM, hnk, hSh, hdk, hak, hx⟩
 have hm15 := h15
 refine We (Wb (Wa rfl (o_lt h15 h14 (Wc (We (Wn rfl (fun c16 => ?_) (fun c16 => ?_)))))))
 ·try simp only [cs8] at c16
  have hk1 : k < (usesD D fr).length := by omega
  have hto := hU fr hfr _ (List.getElem_mem hk1)
  obtain ⟨ub, uo, uc, hV, hcell⟩ := Sl.at1 (Sl.own hu) hk1 (u := iv (usesD D fr)[k]) (by rw [List.getElem?_map, List.getElem?_eq_getElem hk1]; rfl)
  rw [hV] at h13
  refine Wp (We (W.block (We (Wb (Wa rfl (Wt (i := k) TI57 TI3 h13 h15 (by omega) (Wa rfl (Wk TI3 rfl rfl hcell (Wa rfl (Wg vI (Wc (We (We (Wb (Wa rfl (Wf vI (Wa rfl (Wk TI3 rfl h2 (Wh hRC.k3 rfl) (Wa rfl (o_eq rfl rfl (Wc (Wn rfl (fun c21 => ?_) (fun c21 => ?_)))))))))))))))))))))))
  ·try simp only [cs8] at c21
   refine We (Wb (Wa rfl (Wg vB (Wc (Wm (Wu rfl vB ?_))))))
   exact ⟨⟨true, rfl, fun _ => Relation.TransGen.single (show df ∈ usesD D fr by have h1 : (usesD D fr)[k] = df := (by have := c21; omega); rw [← h1]; exact List.getElem_mem hk1), fun h => by cases h⟩, hRC, hx⟩
  try simp only [cs8] at c21
  have hnd : ¬ (usesD D fr)[k] = df := by intro h; apply c21; rw [h]
  refine Wp (We (We (Wb (Wa rfl (Wk TI140 rfl h3 (Wh hRC.k5 rfl) (Wa rfl (Wf vI (Wa rfl (o_lkO MT140 rfl hM rfl (keyI Tryd.underlying3 (by omega)) (Wa rfl (Wf (by first | exact (show _ = Value.tuple _ from rfl) | exact rfl) (Wa rfl (o_ext rfl rfl (Wa rfl (o_ext rfl rfl (Wa rfl (Wg vI (Wa rfl (Wg vB (Wc (We (Wb (Wa rfl (Wf vB (Wc (Wn rfl (fun c28 => ?_) (fun c28 => ?_)))))))))))))))))))))))))))
  ·try simp only [cs8] at c28
   have hneN : gk ((usesD D fr)[k] : Int) ≠ none := by intro h; rw [h] at c28; simp at c28
   have hMN := hM
   have hnN := hnk
   have hShN := hSh
   have hmN : ∀ q, gk q ≠ none → gk q ≠ none := fun q h => h
   refine W.exit (Wb (Wa rfl (o_addi h15 rfl (by omega) (Wa rfl (Wf vI (Wc (⟨⟨k + 1, _, _, by omega, h0, h1, h2, h3, h4, h13.trans hV.symm, h14, rfl, hu, hRC, hMN, hnN, hShN, ?_, ?_, hx⟩, ?_⟩)))))))
   ·rw [List.take_succ_eq_append_getElem hk1]
    intro hmem
    rcases List.mem_append.1 hmem with hmem | hmem
    ·exact hdk hmem
    exact hnd (List.mem_singleton.1 hmem).symm
   ·rw [List.take_succ_eq_append_getElem hk1]
    intro q hq
    rcases List.mem_append.1 hq with hq | hq
    ·exact hmN _ (hak q hq)
    rw [List.mem_singleton.1 hq]; exact hneN
   show (usesD D fr).length - ((k : Int) + 1).toNat < _
   rw [hm15]; simp [intOf]; omega
  try simp only [cs8] at c28
  have hno : gk ((usesD D fr)[k] : Int) = none := by simpa using c28
  have hu1 := unseen_upd (v := (fr : Int)) hto hno
  have hu2 := unseen_mono (n := D.length) hSh.mono
  refine Wp (We (Wb (Wa rfl (Wk TI140 rfl h3 (Wh hRC.k5 rfl) (Wa rfl (Wf vI (Wa rfl (Wf h0 (WL.u (o_mu enI_inj MT140 rfl hM rfl (keyI Tryd.underlying3 (by omega)) rfl (wf_i64 (by omega)) (by rw [maxLen_eq]; omega) ?_))))))))))
  intro w31 hM31 ho31 hs31
  replace hRC := hRC.turn hM hsB ho31
  replace hu := own_only hu ho31 (fun b hb he => by have := (hu.lt b hb).1; omega)
  replace hx := hx.trans ho31
  refine Wc (We (Wb (Wa rfl (Wk TI133 rfl h4 (Wh hRC.k6 rfl) (Wa rfl (Wf vI (Wa rfl (o_callC (show _ = (Value.func (.func 72) #[] #[.pointer (some ⟨c2, 0, none⟩), .pointer (some ⟨c3, 0, none⟩), .pointer (some ⟨c5, 0, none⟩), .pointer (some ⟨c6, 0, none⟩)]) from rfl) Tryd.call72 (lc (show _ = Value.int .i64 ((usesD D fr)[k] : Int) from rfl) ln) ((IH _ (show unseen D.length _ < m by omega) (usesD D fr)[k] (nk + 1) _ _ hRC hM31 (Nat.le_refl _) (by omega) hto).mono ?_)))))))))
  rintro v34 w34 ⟨⟨r, rfl, hr1, hr2⟩, hRC34, ho34⟩
  have hRC := hRC34
  replace hu := own_only hu ho34 (fun b hb he => by have := (hu.lt b hb).1; omega)
  replace hx := hx.trans ho34
  refine Wc (Wn rfl (fun c34 => ?_) (fun c34 => ?_))
  ·try simp only [cs8] at c34
   refine We (Wb (Wa rfl (Wg vB (Wc (Wm (Wu rfl vB ?_))))))
   exact ⟨⟨true, rfl, fun _ => (Relation.TransGen.single (show Us (usesD D) fr (usesD D fr)[k] from List.getElem_mem hk1)).trans (hr1 c34), fun h => by cases h⟩, hRC, hx⟩
  try simp only [cs8] at c34
  obtain ⟨g', ns', hMN, hnN, hSh2, hd2, hall2⟩ := hr2 (by simpa using c34)
  obtain ⟨hShN, hmN, hneN⟩ := hSh.step hSh2 ⟨hd2, hall2⟩
  refine Wp (Wb (Wa rfl (o_addi h15 rfl (by omega) (Wa rfl (Wf vI (Wc (⟨⟨k + 1, _, _, by omega, h0, h1, h2, h3, h4, h13.trans hV.symm, h14, rfl, hu, hRC, hMN, hnN, hShN, ?_, ?_, hx⟩, ?_⟩)))))))
  ·rw [List.take_succ_eq_append_getElem hk1]
   intro hmem
   rcases List.mem_append.1 hmem with hmem | hmem
   ·exact hdk hmem
   exact hnd (List.mem_singleton.1 hmem).symm
  ·rw [List.take_succ_eq_append_getElem hk1]
   intro q hq
   rcases List.mem_append.1 hq with hq | hq
   ·exact hmN _ (hak q hq)
   rw [List.mem_singleton.1 hq]; exact hneN
  show (usesD D fr).length - ((k : Int) + 1).toNat < _
  rw [hm15]; simp [intOf]; omega
 try simp only [cs8] at c16
 have hk1 : k = (usesD D fr).length := by omega
 rw [hk1, List.take_length] at hdk hak
 refine W.exit (We (Wb (Wa rfl (Wg vB (Wc (Wm (Wu rfl vB ?_)))))))
 exact ⟨⟨false, rfl, fun h => absurd h (by decide), fun _ => ⟨gk, nk, hM, hnk, hSh, hdk, hak⟩⟩, hRC, hx⟩
end Go.Proofs.YtpbflfgigfdohaaDoor

namespace Go.Proofs.YtpbflfgigfdohaaDoor
open Go Go.Vc Go.RowKit Go.Proofs

theorem leads_all (wB : World) (c2 c3 c5 c6 pb mb df sb : Nat) (D : List Df) (dv : Value) (V : Nat → Value) (hB : Bk wB pb mb D dv V) (hsB : wB.heap.size ≤ sb) (hlim : DOk D) (hU : ∀ i, i < D.length → ∀ j ∈ usesD D i, j < D.length) (m : Nat) : SLd wB c2 c3 c5 c6 pb df sb D m := by
 induction m using Nat.strongRecOn with
 | _ m IH =>
  intro fr ns g w0 h1 h2 h3 h4 h5
  exact leads_step wB c2 c3 c5 c6 pb mb df sb D dv V hB hsB hlim hU m IH fr ns g w0 h1 h2 h3 h4 h5
theorem unseen_le (n : Nat) (g : Int → Option Int) : unseen n g ≤ n := by
 unfold unseen
 exact Nat.le_trans List.countP_le_length (by simp)
theorem lpost_ring {wB : World} {c2 c3 c5 c6 pb df sb : Nat} {D : List Df} {w0 w' : World} {v : Value} (h : LPost wB c2 c3 c5 c6 pb df sb D (fun _ => none) df w0 v w') : ∃ b : Bool, v = .bool b ∧ (b = true ↔ Relation.TransGen (Us (usesD D)) df df) := by
 obtain ⟨⟨r, hv, h1, h2⟩, -⟩ := h
 refine ⟨r, hv, h1, fun ht => ?_⟩
 cases r with
 | true => rfl
 | false =>
  obtain ⟨g', ns', -, -, hs, hd, ha⟩ := h2 rfl
  exact absurd ht (closed_no (S := fun k => g' (k : Int) ≠ none) ⟨hd, ha⟩ (fun k hk => hs.new k hk rfl))

set_option maxHeartbeats 1000000 in
theorem ringed_spec (pb mb i : Nat) (D : List Df) (dv : Value) (V : Nat → Value) (w0 : World) (hB : Bk w0 pb mb D dv V) (hlim : DOk D) (hU : ∀ i, i < D.length → ∀ j ∈ usesD D i, j < D.length) (hi : i < D.length) : Ca Tryd.prog 60 #[.pointer (some ⟨pb, 0, none⟩), .int .i64 (i : Int)] w0 (fun v w' => (∃ b : Bool, v = .bool b ∧ (b = true ↔ Relation.TransGen (Us (usesD D)) i i)) ∧ Ext w0 w') := by
 refine Ca.of Tryd.func60 Tryd.ntmps60 rfl rfl (We (Wb (Wa rfl (o_boxB rfl ?_))))
 intro w2 hC2 hx2 hs2
 obtain ⟨b2, hb2⟩ : ∃ b, b = w0.heap.size := ⟨_, rfl⟩
 rw [← hb2] at hC2 ⊢
 replace hC2 : w2.heap[b2]? = some (.cells ([.pointer (some ⟨pb, 0, none⟩)]).toArray 93 (0, 0)) := hC2
 have hx := hx2
 refine Wa rfl (o_boxB rfl ?_)
 intro w3 hC3 hx3 hs3
 obtain ⟨b3, hb3⟩ : ∃ b, b = w2.heap.size := ⟨_, rfl⟩
 rw [← hb3] at hC3 ⊢
 replace hC3 : w3.heap[b3]? = some (.cells ([.int .i64 (i : Int)]).toArray 3 (0, 0)) := hC3
 replace hx := hx.tr hx3
 replace hC2 := hx3.blk hC2 (fun h => h)
 have hl2 := (Array.getElem?_eq_some_iff.1 hC2).1
 have hl3 := (Array.getElem?_eq_some_iff.1 hC3).1
 refine Wa rfl (Wg vB (Wc (We (Wb (Wa rfl (o_mkM ?_))))))
 have hM := MapIs.made Tryd.prog 3 3 enI w3
 have hxm : Ext w3 (w3.alloc (.map #[] 0)) := Only.alloc w3 _
 obtain ⟨sb, hsb⟩ : ∃ b, b = w3.heap.size := ⟨_, rfl⟩
 have hsB : w0.heap.size ≤ sb := by rw [hsb]; exact hx.size
 rw [← hsb] at hM ⊢
 generalize w3.alloc (.map #[] 0) = wm at hM hxm ⊢
 replace hx := hx.tr hxm
 replace hC2 := hxm.blk hC2 (fun h => h)
 replace hC3 := hxm.blk hC3 (fun h => h)
 refine Wa rfl (o_alB TI140 ?_)
 have hxq := hx
 intro wa hCa hxa hsa
 replace hx := hx.tr hxa
 replace hC2 := hxa.blk hC2 (fun h => h)
 replace hC3 := hxa.blk hC3 (fun h => h)
 replace hM := hM.ext hxa
 obtain ⟨c5, hc5⟩ : ∃ c, c = wm.heap.size := ⟨_, rfl⟩
 rw [← hc5] at hCa ⊢
 have hz5 := hM.lt
 have hz5b : w0.heap.size ≤ c5 := by rw [hc5]; exact hxq.size
 refine WL.u (o_stB TI140 rfl (show _ = Value.map (some sb) from rfl) rfl hCa (show 0 < 1 by decide) ?_)
 intro wc hC5 ho5 hs5
 replace hC5 : wc.heap[c5]? = some (.cells #[.map (some sb)] 140 (0, 0)) := hC5
 replace hC2 := ho5.blk hC2 (by omega)
 replace hC3 := ho5.blk hC3 (by omega)
 replace hM := hM.only ho5 (fun h => map_ne hM hCa h.symm)
 replace hx := hx.trans' ho5 (fun _ h => h) (fun b hb he => by omega)
 refine Wc (We (Wb (Wa rfl (o_alB TI133 ?_))))
 have hxq6 := hx
 intro wd hCd hxd hsd
 replace hx := hx.tr hxd
 replace hC2 := hxd.blk hC2 (fun h => h)
 replace hC3 := hxd.blk hC3 (fun h => h)
 replace hC5 := hxd.blk hC5 (fun h => h)
 replace hM := hM.ext hxd
 obtain ⟨c6, hc6⟩ : ∃ c, c = wc.heap.size := ⟨_, rfl⟩
 rw [← hc6] at hCd ⊢
 have hz6 : w0.heap.size ≤ c6 := by rw [hc6]; exact hxq6.size
 refine Wc (We (Wb (Wa rfl (o_mkF (lc rfl (lc rfl (lc rfl (lc rfl ln)))) (WL.u (o_stB TI133 rfl (show _ = Value.func (.func 72) #[] #[.pointer (some ⟨b2, 0, none⟩), .pointer (some ⟨b3, 0, none⟩), .pointer (some ⟨c5, 0, none⟩), .pointer (some ⟨c6, 0, none⟩)] from rfl) rfl hCd (show 0 < 1 by decide) ?_))))))
 intro we hC6 ho6 hs6
 have hRC : RC w0 we b2 b3 c5 c6 pb i sb := ⟨ho6.blk hC2 (by omega), ho6.blk hC3 (by omega), ho6.blk hC5 (by omega), hC6, hx.trans' ho6 (fun _ h => h) (fun b hb he => by omega)⟩
 replace hM := hM.only ho6 (fun h => map_ne hM hCd h.symm)
 replace hx := hRC.old
 refine Wc (We (Wb (Wa rfl (Wk TI133 rfl rfl (Wh hRC.k6 rfl) (Wa rfl (Wk TI3 rfl rfl (Wh hRC.k3 rfl) (Wa rfl (o_callC (show _ = Value.func (.func 72) #[] #[.pointer (some ⟨b2, 0, none⟩), .pointer (some ⟨b3, 0, none⟩), .pointer (some ⟨c5, 0, none⟩), .pointer (some ⟨c6, 0, none⟩)] from rfl) Tryd.call72 (lc (show _ = Value.int .i64 (i : Int) from rfl) ln) ((leads_all w0 b2 b3 c5 c6 pb mb i sb D dv V hB hsB hlim hU _ i 0 _ _ hRC hM (Nat.le_refl _) (by have := unseen_le D.length (fun _ => none); omega) hi).mono ?_)))))))))
 intro v11 w11 hP
 obtain ⟨bb, rfl, hbb⟩ := lpost_ring hP
 have hxf : Ext w0 w11 := hP.2.1.old
 refine Wa rfl (Wg vB (Wc (Wm (Wu rfl vB ?_))))
 exact ⟨⟨bb, rfl, hbb⟩, hxf⟩
end Go.Proofs.YtpbflfgigfdohaaDoor

namespace Go.Proofs.YtpbflfgigfdohaaDoor
open Go Go.Vc Go.RowKit Go.Proofs

section
open Go.Vc
theorem r_lk {P : Program} {e : Env} {w : World} {ty : TypeId} {α : Type} {en : α → Lit} {t kt et : TypeId} {b n : Nat} {g : α → Option Int} {x y : Operand} {key : Value} {a : α} (hT : MTy P t kt et) (hx : ev e x = .map (some b)) (hM : MapIs P kt et en w b n g) (hy : ev e y = key) (hkl : keyOf P kt key = some (en a)) : RV P e (.lookup t x y false) ty w (.int .i64 ((g a).getD 0)) := by
 obtain ⟨D, hown, hD⟩ := hM
 obtain ⟨v, ps, hrun, hv⟩ := hown.lookup hT.kd hT.ht (hT.hz w) (plainElem_int hT.he (by decide)) hkl
 obtain ⟨c, rfl, hc, -⟩ := plainElem_int_inv hT.he hv
 have hcv := MapIs.val hD (congrArg Prod.fst hc)
 subst hcv
 simp [RV, execOp, hx, hy, hrun]
end
theorem trs_len_le : ∀ ts : Trs, ts.len ≤ ts.flat.length
 | .nil => Nat.le_refl _
 | .cons t ts => by
  have h := trs_len_le ts
  have ht : 0 < t.flat.length := by cases t; exact Nat.succ_pos _
  simp only [Trs.len, Trs.flat, List.length_append]
  omega
def dps (n : Nat) (dp : Nat → Nat) : List Value := (List.range n).map (fun j => iv (dp j))
theorem dps_at {n k : Nat} {dp : Nat → Nat} (hk : k < n) : (dps n dp)[k]? = some (iv (dp k)) := by
 unfold dps
 rw [List.getElem?_map, List.getElem?_range hk]
 rfl
mutual
theorem dep_le {wh : List UInt8 → Nat} {dp : Nat → Nat} {B : Nat} (h : ∀ j, dp j ≤ B) : ∀ t : Tr, depT wh dp t ≤ B + t.flat.length
 | .node y ks => by
  unfold depT
  split
  ·exact Nat.le_trans (h _) (Nat.le_add_right _ _)
  have := depK_le (wh := wh) (dp := dp) h ks 0 (Nat.zero_le _)
  show _ ≤ B + (ks.flat.length + 1)
  omega
theorem depK_le {wh : List UInt8 → Nat} {dp : Nat → Nat} {B : Nat} (h : ∀ j, dp j ≤ B) : ∀ (ts : Trs) (m : Nat), m ≤ B + ts.flat.length → depK wh dp ts m ≤ B + ts.flat.length
 | .nil, m, hm => hm
 | .cons t ts, m, hm => by
  have h1 := dep_le (wh := wh) h t
  have hl : (Trs.cons t ts).flat.length = t.flat.length + ts.flat.length := by simp [Trs.flat]
  unfold depK
  rw [hl] at hm ⊢
  have h2 := depK_le2 (wh := wh) h ts (max m (depT wh dp t)) (B + t.flat.length + ts.flat.length) (by omega) (by omega)
  omega
theorem depK_le2 {wh : List UInt8 → Nat} {dp : Nat → Nat} {B : Nat} (h : ∀ j, dp j ≤ B) : ∀ (ts : Trs) (m C : Nat), m ≤ C → B + ts.flat.length ≤ C → depK wh dp ts m ≤ C
 | .nil, m, C, hm, _ => hm
 | .cons t ts, m, C, hm, hC => by
  have h1 := dep_le (wh := wh) h t
  have hl : (Trs.cons t ts).flat.length = t.flat.length + ts.flat.length := by simp [Trs.flat]
  unfold depK
  exact depK_le2 h ts _ C (by omega) (by omega)
end
/-- the cells that a depth is reckoned with -/
structure DC (w : World) (cl co cb cf pb mb : Nat) (lv ov : Value) (L : List Ex) (dp : Nat → Nat) (D : List Df) (dv : Value) (V : Nat → Value) : Prop where
 kl : w.heap[cl]? = some (.cells #[lv] 36 (0, 0))
 sl : Sl w 7 lv L.length (exs L)
 ko : w.heap[co]? = some (.cells #[ov] 57 (0, 0))
 so : Sl w 1 ov D.length (dps D.length dp)
 kb : w.heap[cb]? = some (.cells #[.pointer (some ⟨pb, 0, none⟩)] 93 (0, 0))
 kf : w.heap[cf]? = some (.cells #[.func (.func 73) #[] #[.pointer (some ⟨cl, 0, none⟩), .pointer (some ⟨co, 0, none⟩), .pointer (some ⟨cb, 0, none⟩), .pointer (some ⟨cf, 0, none⟩)]] 143 (0, 0))
 bk : Bk w pb mb D dv V
theorem DC.ext {w w' : World} {cl co cb cf pb mb : Nat} {lv ov : Value} {L : List Ex} {dp : Nat → Nat} {D : List Df} {dv : Value} {V : Nat → Value} (h : DC w cl co cb cf pb mb lv ov L dp D dv V) (ho : Ext w w') : DC w' cl co cb cf pb mb lv ov L dp D dv V :=
 ⟨ho.blk h.kl (fun h => h), h.sl.ext ho, ho.blk h.ko (fun h => h), h.so.ext ho, ho.blk h.kb (fun h => h), ho.blk h.kf (fun h => h), h.bk.ext ho⟩
def SDp (cl co cb cf pb mb : Nat) (lv ov : Value) (L : List Ex) (dp : Nat → Nat) (D : List Df) (dv : Value) (V : Nat → Value) (t : Tr) : Prop := ∀ (at_ : Nat) (rest : List Ex) (a : Int) (d : Nat) (w0 : World), t.wf a d → L.drop at_ = t.flat ++ rest → (∀ x ∈ t.flat, x.kind = 9 → ∃ i, whereN D x.name = some i) → DC w0 cl co cb cf pb mb lv ov L dp D dv V →
 Ca Tryd.prog 73 #[.int .i64 (at_ : Int), .pointer (some ⟨cl, 0, none⟩), .pointer (some ⟨co, 0, none⟩), .pointer (some ⟨cb, 0, none⟩), .pointer (some ⟨cf, 0, none⟩)] w0 (fun u w' => u = .tuple #[iv (depT (whD D) dp t), iv (at_ + t.flat.length)] ∧ Ext w0 w')
set_option maxHeartbeats 2000000 in
theorem deep_step (cl co cb cf pb mb : Nat) (lv ov : Value) (L : List Ex) (dp : Nat → Nat) (D : List Df) (dv : Value) (V : Nat → Value) (hlim : DOk D) (hLl : L.length * 72 ≤ 140737488351232) (hLn : ∀ x ∈ L, x.name.length ≤ 9223372036854775807) (hdp : ∀ j, dp j ≤ 2305843009213693952) (y : Ex) (ks : Trs) (IH : ∀ t : Tr, t.flat.length < (Tr.node y ks).flat.length → SDp cl co cb cf pb mb lv ov L dp D dv V t) (at_ : Nat) (rest : List Ex) (a : Int) (d : Nat) (w0 : World) (hw : (Tr.node y ks).wf a d) (hL : L.drop at_ = (Tr.node y ks).flat ++ rest) (hkn : ∀ x ∈ (Tr.node y ks).flat, x.kind = 9 → ∃ i, whereN D x.name = some i) (hDC : DC w0 cl co cb cf pb mb lv ov L dp D dv V) : Ca Tryd.prog 73 #[.int .i64 (at_ : Int), .pointer (some ⟨cl, 0, none⟩), .pointer (some ⟨co, 0, none⟩), .pointer (some ⟨cb, 0, none⟩), .pointer (some ⟨cf, 0, none⟩)] w0 (fun u w' => u = .tuple #[iv (depT (whD D) dp (Tr.node y ks)), iv (at_ + (Tr.node y ks).flat.length)] ∧ Ext w0 w') := by
 have hx : Ext w0 w0 := Only.refl _ _
 obtain ⟨hat, hya, hL1⟩ := drop_at (show L.drop at_ = y :: (ks.flat ++ rest) from hL)
 obtain ⟨ub, uo, uc, hV, huc⟩ := Sl.exq hDC.sl hat
 rw [hya] at huc
 have hkl := hDC.kl
 rw [hV] at hkl
 have hkk : y.kids = (ks.len : Int) := hw.2.2.2.1.symm
 have hksl : ks.flat.length ≤ L.length := by have h1 := congrArg List.length hL1; simp at h1; omega
 have hlk := trs_len_le ks
 have hyn := hLn y (by rw [← hya]; exact List.getElem_mem hat)
 refine Ca.of Tryd.func73 Tryd.ntmps73 rfl rfl (We (Wb (Wa rfl (Wg vI (Wa rfl (Wg vI (Wc (We (Wb (Wa rfl (Wk TI36 rfl (show _ = Value.pointer (some ⟨cl, 0, none⟩) from rfl) (Wh hkl rfl) (Wa rfl (Wf vI (Wa rfl (Wt (i := at_) TI36 TI40 rfl rfl (by omega) (Wa rfl (o_ldA TI40 rfl rfl huc rfl (Wa rfl (o_alB TI40 ?_)))))))))))))))))))
 intro wa hCa hxa hsa
 refine WL.u (o_stA TI40 rfl (show _ = Value.agg (exV y).toArray from rfl) rfl rfl hCa rfl ?_)
 intro wb8 hC8 hob hsb
 have hxb := Ext.own hxa (Nat.le_refl _) hob
 obtain ⟨b8, hb8⟩ : ∃ b, b = w0.heap.size := ⟨_, rfl⟩
 rw [← hb8] at hC8 ⊢
 clear hCa hxa hsa hob hsb
 replace hx := hx.tr hxb
 replace hDC := hDC.ext hxb
 clear hxb
 refine Wc (We (We (Wb (Wa rfl (Wl 0 TI40 rfl TI3 rfl rfl (Wa rfl (Wk TI3 rfl rfl (Wh hC8 rfl) (Wa rfl (o_eq rfl rfl (Wc (Wn rfl (fun c19 => ?_) (fun c19 => ?_))))))))))))
 ·try simp only [cs8] at c19
  have hk9 : y.kind = 9 := by simpa using c19
  have hnil : ks = .nil := by have h1 := wf_leafy _ _ _ hw; unfold Tr.leafy at h1; exact h1.1 hk9
  subst hnil
  obtain ⟨wi, hwi⟩ := hkn y (List.mem_cons_self ..) hk9
  obtain ⟨hwl, -⟩ := whereN_some hwi
  obtain ⟨ob, oo, oc, hov, hocell⟩ := Sl.at1 hDC.so hwl (dps_at hwl)
  have hko := hDC.ko
  rw [hov] at hko
  have hlw : (((whereN D y.name).map Int.ofNat).getD 0) = (wi : Int) := by rw [hwi]; rfl
  refine We (W.quiet rfl (by kernel_rfl) (Wx rfl ((Wy rfl fun _ => Wk TI57 rfl (show _ = Value.pointer (some ⟨co, 0, none⟩) from rfl) (Wh hko rfl) ⟨rfl, rfl⟩)) (Wx rfl ((Wy rfl fun _ => Wk TI93 rfl (show _ = Value.pointer (some ⟨cb, 0, none⟩) from rfl) (Wh hDC.kb rfl) ⟨rfl, rfl⟩)) (Wx rfl ((QO.r fun _ => r_nil rfl)) (Wx rfl ((Wy rfl fun _ => Wl 1 TI132 rfl TI90 rfl rfl ⟨rfl, rfl⟩)) (Wx rfl ((Wy rfl fun _ => Wk TI90 rfl rfl (Wh hDC.bk.cell rfl) ⟨rfl, rfl⟩)) (Wx rfl ((Wy rfl fun _ => Wl 2 TI40 rfl TI9 rfl rfl ⟨rfl, rfl⟩)) (Wx rfl ((Wy rfl fun _ => Wk TI9 rfl rfl (Wh hC8 rfl) ⟨rfl, rfl⟩)) (Wx rfl ((QO.r fun _ => r_lk MT90 rfl hDC.bk.mp rfl (keyS Tryd.underlying9 (by rw [maxLen_eq]; omega)))) (Wx rfl ((Wy rfl fun _ => Wt (i := wi) TI57 TI3 rfl (congrArg (Value.int .i64) hlw) (by omega) ⟨rfl, rfl⟩)) (Wx rfl ((Wy rfl fun _ => Wk TI3 rfl rfl hocell ⟨rfl, rfl⟩)) (Wx rfl ((Wy rfl fun _ => Wf vI ⟨rfl, rfl⟩)) (Wx rfl ((Wy rfl fun _ => o_addi rfl rfl (by omega) ⟨rfl, rfl⟩)) (Wx rfl ((Wy rfl fun _ => Wg vI ⟨rfl, rfl⟩)) (Wx rfl ((Wy rfl fun _ => Wg vI ⟨rfl, rfl⟩)) (WQ.nil ?_))))))))))))))))
  intro nq
  replace hx := hx.tr (Only.drewN wb8 nq)
  refine Wm (ret2v rfl vI vI ?_)
  exact ⟨by rw [show depT (whD D) dp (Tr.node y .nil) = dp wi by unfold depT; rw [if_pos hk9, whD, hwi]; rfl]; show _ = Value.tuple #[iv (dp wi), iv (at_ + 1)]; rfl, hx⟩
 try simp only [cs8] at c19
 have hk9 : ¬ y.kind = 9 := by simpa using c19
 refine Wp (We (Wb (Wa rfl (Wf vI (Wa rfl (o_addi rfl rfl (by omega) (Wa rfl (Wg vI (Wa rfl (Wg vI (Wc (We (We (Wb (Wa rfl (Wl 5 TI40 rfl TI3 rfl rfl (Wa rfl (Wk TI3 rfl rfl (Wh hC8 rfl) (Wa rfl (Wf vI (Wc (W.block (W.loop (fun e w => ∃ (k m next : Nat) (ts : Trs), ks.len = k + ts.len ∧ e 4 = .pointer (some ⟨cf, 0, none⟩) ∧ e 9 = iv m ∧ e 10 = iv next ∧ e 35 = .int .i64 (ks.len : Int) ∧ e 36 = .int .i64 (k : Int) ∧ DC w cl co cb cf pb mb lv ov L dp D dv V ∧ ts.wf y.kind (d + 1) ∧ L.drop next = ts.flat ++ rest ∧ next + ts.flat.length = at_ + 1 + ks.flat.length ∧ depK (whD D) dp ts m = depK (whD D) dp ks 0 ∧ ts.flat.length ≤ ks.flat.length ∧ (∀ x ∈ ts.flat, x.kind = 9 → ∃ i, whereN D x.name = some i) ∧ m ≤ 2305843009213693952 + ks.flat.length ∧ Ext w0 w) (fun e w => ks.len - (intOf (e 36)).toNat) ?_ ?_)))))))))))))))))))))))
 ·exact ⟨0, 0, at_ + 1, ks, by omega, rfl, rfl, rfl, congrArg (Value.int .i64) hkk, rfl, hDC, hw.2.2.2.2, hL1, rfl, rfl, Nat.le_refl _, fun x hx => hkn x (List.mem_cons_of_mem _ hx), by omega, hx⟩
 rintro e w ⟨k, m, next, ts, hks, h4, h9, h10, h35, h36, hDC, hwt, hLn2, hnx, hdk, htl, hknt, hmb, hx⟩
 have hm36 := h36
 refine We (Wb (Wa rfl (o_lt h36 h35 (Wc (We (Wn rfl (fun c37 => ?_) (fun c37 => ?_)))))))
 ·try simp only [cs8] at c37
  have hk1 : k < ks.len := by omega
  obtain ⟨t, ts2, rfl⟩ : ∃ t t2, ts = .cons t t2 := by
   cases ts with
   | nil => simp [Trs.len] at hks; omega
   | cons a b => exact ⟨a, b, rfl⟩
  simp only [Trs.len] at hks
  have hfl : (Trs.cons t ts2).flat.length = t.flat.length + ts2.flat.length := by simp [Trs.flat]
  rw [hfl] at hnx htl
  have hdr : L.drop next = t.flat ++ (ts2.flat ++ rest) := by rw [hLn2]; simp [Trs.flat]
  have hdr2 : L.drop (next + t.flat.length) = ts2.flat ++ rest := by rw [← List.drop_drop, hdr, List.drop_left]
  have hdl := dep_le (wh := whD D) hdp t
  have hyl : (Tr.node y ks).flat.length = ks.flat.length + 1 := rfl
  refine Wp (We (W.block (We (Wb (Wa rfl (Wk TI143 rfl h4 (Wh hDC.kf rfl) (Wa rfl (Wf h10 (Wa rfl (o_callC (show _ = (Value.func (.func 73) #[] #[.pointer (some ⟨cl, 0, none⟩), .pointer (some ⟨co, 0, none⟩), .pointer (some ⟨cb, 0, none⟩), .pointer (some ⟨cf, 0, none⟩)]) from rfl) Tryd.call73 (lc (show _ = Value.int .i64 (next : Int) from rfl) ln) ((IH t (by omega) next (ts2.flat ++ rest) _ _ _ hwt.1 hdr (fun x hx => hknt x (List.mem_append_left _ hx)) hDC).mono ?_)))))))))))
  rintro v41 w41 ⟨rfl, hx41⟩
  rw [iv, iv]
  replace hx := hx.tr hx41
  replace hDC := hDC.ext hx41
  refine Wa rfl (Wf (by first | exact (show _ = Value.tuple _ from rfl) | exact rfl) (Wa rfl (o_ext rfl rfl (Wa rfl (o_ext rfl rfl (Wa rfl (Wg vI (Wa rfl (Wg vI (Wc (Wb (Wa rfl (Wf h9 (Wa rfl (Wf vI (Wa rfl (n_max (a := m) (b := depT (whD D) dp t) rfl rfl (Wa rfl (Wf vI (Wa rfl (Wg vI (Wa rfl (Wg vI (Wc (Wb (Wa rfl (o_addi h36 rfl (by omega) (Wa rfl (Wf vI (Wc (⟨⟨k + 1, max m (depT (whD D) dp t), next + t.flat.length, ts2, by omega, h4, rfl, rfl, h35, rfl, hDC, hwt.2, hdr2, by omega, hdk, by omega, fun x hx => hknt x (List.mem_append_right _ hx), by omega, hx⟩, ?_⟩)))))))))))))))))))))))))))))))
  show ks.len - ((k : Int) + 1).toNat < _
  rw [hm36]; simp [intOf]; omega
 try simp only [cs8] at c37
 have hk1 : k = ks.len := by omega
 have hnil : ts = .nil := by
  cases ts with
  | nil => rfl
  | cons a b => simp [Trs.len] at hks; omega
 subst hnil
 replace hdk : m = depK (whD D) dp ks 0 := hdk
 replace hnx : next = at_ + 1 + ks.flat.length := hnx
 refine W.exit (We (Wb (Wa rfl (Wf h9 (Wa rfl (o_addi (show _ = Value.int .i64 (m : Int) from rfl) rfl (by omega) (Wa rfl (Wf h10 (Wa rfl (Wg vI (Wa rfl (Wg vI (Wc (Wm (ret2v rfl vI vI ?_)))))))))))))))
 exact ⟨by rw [show depT (whD D) dp (Tr.node y ks) = m + 1 by unfold depT; rw [if_neg hk9, ← hdk], hnx]; show _ = Value.tuple #[iv (m + 1), iv (at_ + (ks.flat.length + 1))]; rw [show at_ + (ks.flat.length + 1) = at_ + 1 + ks.flat.length by omega]; rfl, hx⟩
end Go.Proofs.YtpbflfgigfdohaaDoor

namespace Go.Proofs.YtpbflfgigfdohaaDoor
open Go Go.Vc Go.RowKit Go.Proofs

theorem deep_all (cl co cb cf pb mb : Nat) (lv ov : Value) (L : List Ex) (dp : Nat → Nat) (D : List Df) (dv : Value) (V : Nat → Value) (hlim : DOk D) (hLl : L.length * 72 ≤ 140737488351232) (hLn : ∀ x ∈ L, x.name.length ≤ 9223372036854775807) (hdp : ∀ j, dp j ≤ 2305843009213693952) : ∀ (m : Nat) (t : Tr), t.flat.length ≤ m → SDp cl co cb cf pb mb lv ov L dp D dv V t
 | 0, .node y ks, h => by simp [Tr.flat] at h
 | m + 1, .node y ks, h => fun at_ rest a d w0 hw hL hkn hDC =>
  deep_step cl co cb cf pb mb lv ov L dp D dv V hlim hLl hLn hdp y ks (fun t ht => deep_all cl co cb cf pb mb lv ov L dp D dv V hlim hLl hLn hdp m t (by omega)) at_ rest a d w0 hw hL hkn hDC
theorem dps_set {n i v : Nat} {dp : Nat → Nat} : (dps n dp).set i (iv v) = dps n (updN dp i v) := by
 apply List.ext_getElem?
 intro j
 rw [List.getElem?_set]
 by_cases hj : j < n
 ·rw [dps_at hj, dps_at hj]
  unfold updN
  by_cases e : i = j
  ·subst e
   rw [if_pos rfl, if_pos (by simpa [dps] using hj), if_pos rfl]
  rw [if_neg e, if_neg (fun h => e h.symm)]
 have h1 : ∀ o, (dps n o)[j]? = none := fun o => List.getElem?_eq_none (by simp [dps]; omega)
 rw [h1, h1]
 split
 ·rw [if_neg (by simp [dps]; omega)]
 rfl
theorem dps_zero (n : Nat) : dps n (fun _ => 0) = List.replicate n (iv 0) := by
 unfold dps
 rw [List.eq_replicate_iff]
 refine ⟨by simp, fun b hb => ?_⟩
 obtain ⟨j, -, rfl⟩ := List.mem_map.1 hb
 rfl

end Go.Proofs.YtpbflfgigfdohaaDoor

namespace Go.Vc
open Go Go.RowKit
variable {D : List Deferred}
abbrev StTab := List (List Bool × List (Nat × Nat))
section
variable {P : Program} {l : List Oper} {Q : Exit → Env → World → Prop} {n : Nat} {I : Nat → Env → World → Prop}
def StR (P : Program) (l : List Oper) (Q : Exit → Env → World → Prop) (n : Nat) (I : Nat → Env → World → Prop) : List (Nat × Nat) → Env → World → Prop
 | [], _, _ => True
 | x :: r, e, w => WO P l Q n x.1 (I x.2) e w ∧ StR P l Q n I r e w
def StP (P : Program) (l : List Oper) (Q : Exit → Env → World → Prop) (n : Nat) (I : Nat → Env → World → Prop) : StTab → Nat → Prop
 | [], _ => True
 | x :: S, k => (∀ e w, I k e w → match x.2 with | [] => Q .normal e w | r => StR P l Q n I r e w) ∧ StP P l Q n I S (k + 1)
def stOkB (l : List Oper) (S : StTab) : Bool :=
 S.all (fun x => (Region.ready .any l.toArray x.1.toArray == x.2.map Prod.fst) && x.1.length == l.length && x.2.all (fun y => x.1[y.1]? == some false && (S[y.2]?).map Prod.fst == some (x.1.set y.1 true)))
theorem StR.get {e : Env} {w : World} : ∀ {r : List (Nat × Nat)}, StR P l Q n I r e w → ∀ x ∈ r, WO P l Q n x.1 (I x.2) e w
 | [], _, x, hx => by cases hx
 | y :: r, h, x, hx => by
  rcases List.mem_cons.1 hx with rfl | hx
  ·exact h.1
  exact StR.get h.2 x hx
theorem StP.get : ∀ {S : StTab} {k : Nat}, StP P l Q n I S k → ∀ j x, S[j]? = some x → ∀ e w, I (k + j) e w → (x.2 = [] → Q .normal e w) ∧ ∀ y ∈ x.2, WO P l Q n y.1 (I y.2) e w
 | [], k, _, j, x, hx => by simp at hx
 | s :: S, k, h, 0, x, hx => fun e w hI => by
  simp only [List.getElem?_cons_zero, Option.some.injEq] at hx
  subst hx
  have h1 := h.1 e w hI
  cases hr : s.2 with
  | nil => rw [hr] at h1; exact ⟨fun _ => h1, fun y hy => by cases hy⟩
  | cons a b => rw [hr] at h1; exact ⟨fun h => (by cases h), fun y hy => StR.get h1 y hy⟩
 | s :: S, k, h, j + 1, x, hx => fun e w hI => by
  simp only [List.getElem?_cons_succ] at hx
  exact StP.get h.2 j x hx e w (by rw [show k + 1 + j = k + (j + 1) by omega]; exact hI)
theorem cnt_set : ∀ {ls : List Bool} {i : Nat}, ls[i]? = some false → (ls.set i true).count true = ls.count true + 1
 | [], i, h => by simp at h
 | b :: ls, 0, h => by simp at h; subst h; simp
 | b :: ls, i + 1, h => by
  simp only [List.getElem?_cons_succ] at h
  rw [List.set_cons_succ, List.count_cons, List.count_cons, cnt_set h]
  omega
theorem WA.states {S : StTab} (hok : stOkB l S = true) (hS : StP P l Q n I S 0) : ∀ (fuel k : Nat) (x : List Bool × List (Nat × Nat)) (e : Env) (w : World), S[k]? = some x → l.length ≤ fuel + x.1.count true → I k e w → WA P l Q n fuel x.1 e w := by
 have hok' := hok
 unfold stOkB at hok'
 rw [List.all_eq_true] at hok'
 intro fuel
 induction fuel with
 | zero =>
  intro k x e w hx hf hI
  have h1 := hok' x (List.mem_of_getElem? hx)
  simp only [Bool.and_eq_true, beq_iff_eq, List.all_eq_true] at h1
  obtain ⟨⟨hr, hl⟩, hn⟩ := h1
  have h2 := hS.get k x hx e w (by rw [Nat.zero_add]; exact hI)
  have h3 : x.2 = [] := by
   cases hq : x.2 with
   | nil => rfl
   | cons y r =>
    exfalso
    have := (hn y (by rw [hq]; exact List.mem_cons_self ..)).1
    have h4 := cnt_set this
    have h5 := List.count_le_length (a := true) (l := x.1.set y.1 true)
    rw [List.length_set] at h5
    omega
  exact WA.done (by rw [hr, h3]; rfl) (h2.1 h3)
 | succ fuel ih =>
  intro k x e w hx hf hI
  have h1 := hok' x (List.mem_of_getElem? hx)
  simp only [Bool.and_eq_true, beq_iff_eq, List.all_eq_true] at h1
  obtain ⟨⟨hr, hl⟩, hn⟩ := h1
  have h2 := hS.get k x hx e w (by rw [Nat.zero_add]; exact hI)
  cases hq : x.2 with
  | nil => exact WA.done (by rw [hr, hq]; rfl) (h2.1 hq)
  | cons y r =>
   refine WA.step hr (by rw [hq]; simp) (fun i hi => ?_)
   obtain ⟨y, hy, rfl⟩ := List.mem_map.1 hi
   obtain ⟨h3, h4⟩ := hn y hy
   have h5 := h2.2 y hy
   cases hz : S[y.2]? with
   | none => rw [hz] at h4; simp at h4
   | some z =>
    rw [hz] at h4
    simp only [Option.map_some, Option.some.injEq] at h4
    intro D a ha K' hK
    refine h5 D a ha K' (fun a' e' w' hr' hI' => hK a' e' w' hr' ?_)
    have h6 := ih y.2 z e' w' hz (by rw [h4, cnt_set h3]; omega) hI'
    rw [h4] at h6
    exact h6
theorem W.states {id : Nat} {e : Env} {w : World} (I : Nat → Env → World → Prop) (S : StTab) (hm : P.follows .mixedOrders = true) (hok : stOkB l S = true) (h0 : (S[0]?).map Prod.fst = some (List.replicate l.length false)) (hI : I 0 e w.drew) (hS : StP P l Q n I S 0) : W P (.region id l.toArray true) Q n e w := by
 cases hz : S[0]? with
 | none => rw [hz] at h0; simp at h0
 | some z =>
  rw [hz] at h0
  simp only [Option.map_some, Option.some.injEq] at h0
  refine W.enum hm ?_
  rw [← h0]
  exact WA.states hok hS l.length 0 z e w.drew hz (by omega) hI
end
end Go.Vc

namespace Go.Proofs.YtpbflfgigfdohaaDoor
open Go Go.Vc Go.RowKit Go.Proofs

theorem depO_le {wh : List UInt8 → Nat} {T : Nat → Tr} {n B : Nat} (hT : ∀ i, i < n → (T i).flat.length ≤ B) : ∀ (l : List Nat) (f : Nat → Nat) (C : Nat), (∀ i ∈ l, i < n) → (∀ j, f j ≤ C) → ∀ j, depO wh T l f j ≤ C + l.length * B
 | [], f, C, _, hf, j => by have := hf j; unfold depO; omega
 | i :: l, f, C, hl, hf, j => by
  unfold depO
  have h1 := hT i (hl i (List.mem_cons_self ..))
  have h2 := dep_le (wh := wh) hf (T i)
  have h3 := depO_le (wh := wh) hT l (updN f i (depT wh f (T i))) (C + B) (fun j hj => hl j (List.mem_cons_of_mem _ hj)) (fun j => by
   unfold updN
   split
   ·omega
   have := hf j; omega) j
  rw [List.length_cons, Nat.succ_mul]
  omega
/-- a source whose types are trees -/
structure Trd (D : List Df) (T : Nat → Tr) : Prop where
 n : D.length ≤ 256
 wf : ∀ i, i < D.length → (T i).wf 0 0
 nm : ∀ d ∈ D, nameB d.name = true
 fl : ∀ i, i < D.length → (T i).flat = tyD D i
def kn9 (D : List Df) : Prop := ∀ d ∈ D, ∀ x ∈ d.ty, x.kind = 9 → ∃ i, whereN D x.name = some i
theorem ord_told {D : List Df} (hk : kn9 D) (hac : ∀ i, i < D.length → ¬ Relation.TransGen (Us (usesD D)) i i) : Told D.length (usesD D) (ordN D) ∧ (ordN D).length = D.length :=
 orderF_told (fun i hi => uses_lt hk hi) hac _ [] Told.nil (by simp)
theorem depO_take {wh : List UInt8 → Nat} {T : Nat → Tr} {l : List Nat} {f : Nat → Nat} {k : Nat} (hk : k < l.length) : depO wh T (l.take (k + 1)) f = updN (depO wh T (l.take k) f) l[k] (depT wh (depO wh T (l.take k) f) (T l[k])) := by
 rw [List.take_succ_eq_append_getElem hk, depO_snoc]

set_option maxHeartbeats 2000000 in
theorem depths_spec (pb mb : Nat) (D : List Df) (T : Nat → Tr) (dv : Value) (V : Nat → Value) (w0 : World) (hB : Bk w0 pb mb D dv V) (hlim : DOk D) (hT : Trd D T) (hkn : kn9 D) (hac : ∀ i, i < D.length → ¬ Relation.TransGen (Us (usesD D)) i i) : Ca Tryd.prog 62 #[.pointer (some ⟨pb, 0, none⟩)] w0 (fun v w' => w'.ownsRow w0.heap.size 3 1 v D.length (dps D.length (depN D T)) ∧ Ext w0 w') := by
 have hx : Ext w0 w0 := Only.refl _ _
 have hlen := hlim.len
 have hB00 := hB
 obtain ⟨hto, htl⟩ := ord_told hkn hac
 have h256 := hT.n
 obtain ⟨BB, hBB⟩ : ∃ B, B = w0.heap.size := ⟨_, rfl⟩
 rw [← hBB]
 refine Ca.of Tryd.func62 Tryd.ntmps62 rfl rfl (We (Wb (Wa rfl (o_boxB rfl ?_))))
 intro w1 hC1 hx1 hs1
 obtain ⟨b1, hb1⟩ : ∃ b, b = w0.heap.size := ⟨_, rfl⟩
 rw [← hb1] at hC1 ⊢
 replace hC1 : w1.heap[b1]? = some (.cells ([.pointer (some ⟨pb, 0, none⟩)]).toArray 93 (0, 0)) := hC1
 have hx := hx1
 replace hB := hB.ext hx1
 refine Wa rfl (Wg (by first | exact vS | exact rfl) (Wc (We (Wb (Wa rfl (Wk TI93 rfl rfl (Wh hC1 rfl) (Wa rfl (o_nil rfl (Wa rfl (Wl 0 TI132 rfl TI22 rfl rfl (Wa rfl (Wk TI22 rfl rfl (Wh hB.cell rfl) (Wa rfl (Ws TI22 rfl hB.rd.row (Wa rfl (o_mk2 TI57 TI3 (l := D.length) (n := D.length) rfl rfl (Nat.le_refl _) (by omega) (by omega) ?_))))))))))))))))
 have hrv := own_made1 (w := w1) (el := 3) (l := D.length) (n := D.length) (z := .int .i64 0) rfl (Nat.le_refl _) (by omega)
 have hxb : Ext w1 (w1.alloc (.cells (madeCells (Value.int .i64 0).cells (D.length * 1)) 3)) := Only.alloc w1 _
 generalize w1.alloc (.cells (madeCells (Value.int .i64 0).cells (D.length * 1)) 3) = wt at hrv hxb ⊢
 obtain ⟨ov, hov⟩ : ∃ o, o = Value.slice (some ⟨w1.heap.size, 0, none⟩) D.length D.length := ⟨_, rfl⟩
 rw [← hov] at hrv ⊢
 replace hrv : wt.ownsRow w1.heap.size 3 1 ov D.length (dps D.length (fun _ => 0)) := by rw [dps_zero]; exact hrv
 replace hrv := own_mono hrv (show BB ≤ w1.heap.size by rw [hBB]; exact hx.size)
 replace hx := hx.tr hxb
 replace hB := hB.ext hxb
 replace hC1 := hxb.blk hC1 (fun h => h)
 clear hxb hov
 refine Wa rfl (o_alB TI57 ?_)
 have hxt := hx
 have hq1 := (Array.getElem?_eq_some_iff.1 hC1).1
 intro wb hCb hxb hsb
 replace hrv := Wr hrv hxb
 replace hx := hx.tr hxb
 replace hB := hB.ext hxb
 replace hC1 := hxb.blk hC1 (fun h => h)
 obtain ⟨c3, hc3⟩ : ∃ c, c = wt.heap.size := ⟨_, rfl⟩
 rw [← hc3] at hCb ⊢
 have hzt : BB ≤ c3 := by rw [hc3, hBB]; exact hxt.size
 have hz1 : b1 ≠ c3 := by omega
 refine WL.u (o_stB TI57 rfl (show _ = ov from rfl) (own_one hrv) hCb (show 0 < 1 by decide) ?_)
 intro wc hC3 ho hsc
 replace hC3 : wc.heap[c3]? = some (.cells #[ov] 57 (0, 0)) := hC3
 replace hrv := own_only hrv ho (fun b hb he => by subst he; exact own_off hrv hCb (by decide) hb)
 replace hC1 := ho.blk hC1 hz1
 replace hx := hx.trans' ho (fun _ h => h) (fun b hb he => by omega)
 replace hB := hB00.ext hx
 clear hCb ho
 refine Wc (We (We (Wb (Wa rfl (Wk TI93 rfl rfl (Wh hC1 rfl) (Wa rfl (o_call Tryd.call34 (lc rfl ln) ((order_spec pb mb D dv V _ hB hlim (fun i hi => uses_lt hkn hi) hac).mono ?_))))))))
 rintro v15 w15 ⟨hro, hx15⟩
 have hvb : ∀ b, ov.ownBlock = some b → b < wc.heap.size := fun b hb => (hrv.lt b hb).2
 obtain ⟨B2, hB2⟩ : ∃ B, B = wc.heap.size := ⟨_, rfl⟩
 rw [← hB2] at hro hvb
 have hzB : BB ≤ B2 := by rw [hB2, hBB]; exact hx.size
 replace hx := hx.tr hx15
 replace hB := hB.ext hx15
 replace hC1 := hx15.blk hC1 (fun h => h)
 replace hC3 := hx15.blk hC3 (fun h => h)
 replace hrv := Wr hrv hx15
 clear hx15
 refine Wa rfl (Ws TI57 rfl (Sl.own hro) (Wa rfl (Wf vI (Wc (W.block (W.loop (fun e w => ∃ (k : Nat), k ≤ (ordN D).length ∧ e 1 = .pointer (some ⟨b1, 0, none⟩) ∧ e 3 = .pointer (some ⟨c3, 0, none⟩) ∧ e 15 = v15 ∧ e 16 = .int .i64 ((ordN D).length : Int) ∧ e 17 = .int .i64 (k : Int) ∧ w.ownsRow B2 3 1 v15 (ordN D).length ((ordN D).map iv) ∧ w.ownsRow BB 3 1 ov D.length (dps D.length (depO (whD D) T ((ordN D).take k) (fun _ => 0))) ∧ w.heap[b1]? = some (.cells #[.pointer (some ⟨pb, 0, none⟩)] 93 (0, 0)) ∧ w.heap[c3]? = some (.cells #[ov] 57 (0, 0)) ∧ Bk w pb mb D dv V ∧ Ext w0 w) (fun e w => (ordN D).length - (intOf (e 17)).toNat) ?_ ?_))))))
 ·exact ⟨0, Nat.zero_le _, rfl, rfl, rfl, rfl, rfl, hro, hrv, hC1, hC3, hB, hx⟩
 rintro e w ⟨k, hk, h1, h3, h15, h16, h17, hro, hrv, hC1, hC3, hB, hx⟩
 have hm17 := h17
 refine We (Wb (Wa rfl (o_lt h17 h16 (Wc (We (Wn rfl (fun c18 => ?_) (fun c18 => ?_)))))))
 ·try simp only [cs8] at c18
  have hk1 : k < (ordN D).length := by omega
  have hi : (ordN D)[k] < D.length := hto.lt _ (List.getElem_mem hk1)
  obtain ⟨ub, uo, uc, hV15, hcell⟩ := Sl.at1 (Sl.own hro) hk1 (u := iv (ordN D)[k]) (by rw [List.getElem?_map, List.getElem?_eq_getElem hk1]; rfl)
  rw [hV15] at h15
  obtain ⟨i, hie⟩ : ∃ i, i = (ordN D)[k] := ⟨_, rfl⟩
  rw [← hie] at hi hcell
  obtain ⟨gb, go, gc, hdv, hgc, hty⟩ := hB.rd.atk hi
  have hcl := hB.cell
  rw [hdv] at hcl
  obtain ⟨dp, hdp⟩ : ∃ f, f = depO (whD D) T ((ordN D).take k) (fun _ => 0) := ⟨_, rfl⟩
  rw [← hdp] at hrv
  have hdb : ∀ j, dp j ≤ 2305843009213693952 := fun j => by
   rw [hdp]
   refine Nat.le_trans (depO_le (n := D.length) (B := 1954687338212) (fun i hi => ?_) _ _ 0 (fun i hi => hto.lt i (List.mem_of_mem_take hi)) (fun _ => Nat.le_refl _) j) ?_
   ·rw [hT.fl i hi, tyD_at hi]; have := hlim.ty _ (List.getElem_mem hi); omega
   rw [List.length_take]; have : min k (ordN D).length ≤ 256 := by omega
   omega
  refine Wp (We (W.block (We (Wb (Wa rfl (Wt (i := k) TI57 TI3 h15 h17 (by omega) (Wa rfl (Wk TI3 rfl rfl hcell (Wa rfl (Wg vI (Wc (We (Wb (Wa rfl (Wk TI93 rfl h1 (Wh hC1 rfl) (Wa rfl (o_nil rfl (Wa rfl (Wl 0 TI132 rfl TI22 rfl rfl (Wa rfl (Wk TI22 rfl rfl (Wh hcl rfl) (Wa rfl (Wf vI (Wa rfl (Wt (i := i) TI22 TI38 rfl (show _ = Value.int .i64 (i : Int) from rfl) (by omega) (Wa rfl (Wl 2 TI38 rfl TI36 rfl rfl (Wa rfl (Wk TI36 rfl rfl (hgc 2 _ rfl) (Wa rfl (o_alB TI36 ?_)))))))))))))))))))))))))))))))
  have hx6 := hx
  have hC1w := hC1
  have hC3w := hC3
  intro wa hCa hxa hsa
  replace hx := hx.tr hxa
  replace hB := hB.ext hxa
  replace hC1 := hxa.blk hC1 (fun h => h)
  replace hC3 := hxa.blk hC3 (fun h => h)
  replace hro := Wr hro hxa
  replace hrv := Wr hrv hxa
  replace hty := hty.ext hxa
  obtain ⟨c6, hc6⟩ : ∃ c, c = w.heap.size := ⟨_, rfl⟩
  rw [← hc6] at hCa ⊢
  have hz6 : BB ≤ c6 := by rw [hc6, hBB]; exact hx6.size
  have hn1 := (Array.getElem?_eq_some_iff.1 hC1w).1
  have hn3 := (Array.getElem?_eq_some_iff.1 hC3w).1
  refine WL.u (o_stB TI36 rfl (show _ = V i from rfl) (sl_one1 hty) hCa (show 0 < 1 by decide) ?_)
  intro wd hC6 ho6 hs6
  replace hC6 : wd.heap[c6]? = some (.cells #[V i] 36 (0, 0)) := hC6
  have hxd : Ext w0 wd := hx.trans' ho6 (fun _ h => h) (fun b hb he => by omega)
  replace hC1 := ho6.blk hC1 (by omega)
  replace hC3 := ho6.blk hC3 (by omega)
  replace hro := own_only hro ho6 (fun b hb he => by subst he; exact own_off hro hCa (by decide) hb)
  replace hrv := own_only hrv ho6 (fun b hb he => by subst he; exact own_off hrv hCa (by decide) hb)
  replace hx := hxd
  replace hB := hB00.ext hx
  replace hty := (hB.rd.tys i hi)
  rw [tyD_at hi] at hty
  refine Wc (We (Wb (Wa rfl (o_alB TI143 ?_))))
  have hx7 := hx
  have hC6w := hC6
  intro wf hCf hxf hsf
  replace hx := hx.tr hxf
  replace hB := hB.ext hxf
  replace hC1 := hxf.blk hC1 (fun h => h)
  replace hC3 := hxf.blk hC3 (fun h => h)
  replace hro := Wr hro hxf
  replace hrv := Wr hrv hxf
  replace hty := hty.ext hxf
  replace hC6 := hxf.blk hC6 (fun h => h)
  obtain ⟨c7, hc7⟩ : ∃ c, c = wd.heap.size := ⟨_, rfl⟩
  rw [← hc7] at hCf ⊢
  have hz7 : BB ≤ c7 := by rw [hc7, hBB]; exact hx7.size
  have hn6 := (Array.getElem?_eq_some_iff.1 hC6w).1
  have hs67 : w.heap.size < wd.heap.size := by omega
  refine Wc (We (Wb (Wa rfl (o_mkF (lc rfl (lc h3 (lc h1 (lc rfl ln)))) (WL.u (o_stB TI143 rfl (show _ = (Value.func (.func 73) #[] #[.pointer (some ⟨c6, 0, none⟩), .pointer (some ⟨c3, 0, none⟩), .pointer (some ⟨b1, 0, none⟩), .pointer (some ⟨c7, 0, none⟩)]) from rfl) rfl hCf (show 0 < 1 by decide) ?_))))))
  intro wg hC7 ho7 hs7
  replace hC7 : wg.heap[c7]? = some (.cells #[(Value.func (.func 73) #[] #[.pointer (some ⟨c6, 0, none⟩), .pointer (some ⟨c3, 0, none⟩), .pointer (some ⟨b1, 0, none⟩), .pointer (some ⟨c7, 0, none⟩)])] 143 (0, 0)) := hC7
  have hxd : Ext w0 wg := hx.trans' ho7 (fun _ h => h) (fun b hb he => by omega)
  replace hC1 := ho7.blk hC1 (by omega)
  replace hC3 := ho7.blk hC3 (by omega)
  replace hC6 := ho7.blk hC6 (by omega)
  replace hro := own_only hro ho7 (fun b hb he => by subst he; exact own_off hro hCf (by decide) hb)
  replace hrv := own_only hrv ho7 (fun b hb he => by subst he; exact own_off hrv hCf (by decide) hb)
  replace hx := hxd
  replace hB := hB00.ext hx
  replace hty := (hB.rd.tys i hi)
  rw [tyD_at hi] at hty
  refine Wc ?_
  have hDC : DC wg c6 c3 b1 c7 pb mb (V i) ov D[i].ty dp D dv V := ⟨hC6, hty, hC3, Sl.own hrv, hC1, hC7, hB⟩
  have hfl := hT.fl i hi
  rw [tyD_at hi] at hfl
  have hcall := fun w9 (hR : Ext wg w9) => deep_all c6 c3 b1 c7 pb mb (V i) ov D[i].ty dp D dv V hlim (hlim.ty _ (List.getElem_mem hi)) (fun x hx => (hlim.ex _ (List.getElem_mem hi) x hx).1) hdb _ (T i) (Nat.le_refl _) 0 [] 0 0 w9 (hT.wf i hi) (by rw [hfl, List.append_nil]; rfl) (fun x hx h9 => hkn _ (List.getElem_mem hi) x (by rw [← hfl]; exact hx) h9) (hDC.ext hR)
  obtain ⟨tb, tc, htv, htb⟩ := own_some hrv (by omega)
  have hC3s := hC3
  rw [htv] at hC3s
  clear hDC hcl hgc
  refine W.states (fun kS e w => match kS with | 0 => e 1 = (.pointer (some ⟨b1, 0, none⟩)) ∧ e 3 = (.pointer (some ⟨c3, 0, none⟩)) ∧ e 5 = (.int .i64 (i : Int)) ∧ e 7 = (.pointer (some ⟨c7, 0, none⟩)) ∧ e 15 = (.slice (some ⟨ub, uo, none⟩) (ordN D).length uc) ∧ e 16 = (.int .i64 ((ordN D).length : Int)) ∧ e 17 = (.int .i64 (k : Int)) ∧ Ext wg w | 1 => e 1 = (.pointer (some ⟨b1, 0, none⟩)) ∧ e 3 = (.pointer (some ⟨c3, 0, none⟩)) ∧ e 5 = (.int .i64 (i : Int)) ∧ e 7 = (.pointer (some ⟨c7, 0, none⟩)) ∧ e 15 = (.slice (some ⟨ub, uo, none⟩) (ordN D).length uc) ∧ e 16 = (.int .i64 ((ordN D).length : Int)) ∧ e 17 = (.int .i64 (k : Int)) ∧ e 31 = (.slice (some ⟨tb, 0, none⟩) D.length tc) ∧ Ext wg w | 2 => e 1 = (.pointer (some ⟨b1, 0, none⟩)) ∧ e 3 = (.pointer (some ⟨c3, 0, none⟩)) ∧ e 5 = (.int .i64 (i : Int)) ∧ e 7 = (.pointer (some ⟨c7, 0, none⟩)) ∧ e 15 = (.slice (some ⟨ub, uo, none⟩) (ordN D).length uc) ∧ e 16 = (.int .i64 ((ordN D).length : Int)) ∧ e 17 = (.int .i64 (k : Int)) ∧ e 32 = (.int .i64 (i : Int)) ∧ Ext wg w | 3 => e 1 = (.pointer (some ⟨b1, 0, none⟩)) ∧ e 3 = (.pointer (some ⟨c3, 0, none⟩)) ∧ e 5 = (.int .i64 (i : Int)) ∧ e 7 = (.pointer (some ⟨c7, 0, none⟩)) ∧ e 15 = (.slice (some ⟨ub, uo, none⟩) (ordN D).length uc) ∧ e 16 = (.int .i64 ((ordN D).length : Int)) ∧ e 17 = (.int .i64 (k : Int)) ∧ e 33 = (Value.func (.func 73) #[] #[.pointer (some ⟨c6, 0, none⟩), .pointer (some ⟨c3, 0, none⟩), .pointer (some ⟨b1, 0, none⟩), .pointer (some ⟨c7, 0, none⟩)]) ∧ Ext wg w | 4 => e 1 = (.pointer (some ⟨b1, 0, none⟩)) ∧ e 3 = (.pointer (some ⟨c3, 0, none⟩)) ∧ e 5 = (.int .i64 (i : Int)) ∧ e 7 = (.pointer (some ⟨c7, 0, none⟩)) ∧ e 15 = (.slice (some ⟨ub, uo, none⟩) (ordN D).length uc) ∧ e 16 = (.int .i64 ((ordN D).length : Int)) ∧ e 17 = (.int .i64 (k : Int)) ∧ e 31 = (.slice (some ⟨tb, 0, none⟩) D.length tc) ∧ e 32 = (.int .i64 (i : Int)) ∧ Ext wg w | 5 => e 1 = (.pointer (some ⟨b1, 0, none⟩)) ∧ e 3 = (.pointer (some ⟨c3, 0, none⟩)) ∧ e 5 = (.int .i64 (i : Int)) ∧ e 7 = (.pointer (some ⟨c7, 0, none⟩)) ∧ e 15 = (.slice (some ⟨ub, uo, none⟩) (ordN D).length uc) ∧ e 16 = (.int .i64 ((ordN D).length : Int)) ∧ e 17 = (.int .i64 (k : Int)) ∧ e 31 = (.slice (some ⟨tb, 0, none⟩) D.length tc) ∧ e 33 = (Value.func (.func 73) #[] #[.pointer (some ⟨c6, 0, none⟩), .pointer (some ⟨c3, 0, none⟩), .pointer (some ⟨b1, 0, none⟩), .pointer (some ⟨c7, 0, none⟩)]) ∧ Ext wg w | 6 => e 1 = (.pointer (some ⟨b1, 0, none⟩)) ∧ e 3 = (.pointer (some ⟨c3, 0, none⟩)) ∧ e 5 = (.int .i64 (i : Int)) ∧ e 7 = (.pointer (some ⟨c7, 0, none⟩)) ∧ e 15 = (.slice (some ⟨ub, uo, none⟩) (ordN D).length uc) ∧ e 16 = (.int .i64 ((ordN D).length : Int)) ∧ e 17 = (.int .i64 (k : Int)) ∧ e 32 = (.int .i64 (i : Int)) ∧ e 33 = (Value.func (.func 73) #[] #[.pointer (some ⟨c6, 0, none⟩), .pointer (some ⟨c3, 0, none⟩), .pointer (some ⟨b1, 0, none⟩), .pointer (some ⟨c7, 0, none⟩)]) ∧ Ext wg w | 7 => e 1 = (.pointer (some ⟨b1, 0, none⟩)) ∧ e 3 = (.pointer (some ⟨c3, 0, none⟩)) ∧ e 5 = (.int .i64 (i : Int)) ∧ e 7 = (.pointer (some ⟨c7, 0, none⟩)) ∧ e 15 = (.slice (some ⟨ub, uo, none⟩) (ordN D).length uc) ∧ e 16 = (.int .i64 ((ordN D).length : Int)) ∧ e 17 = (.int .i64 (k : Int)) ∧ e 33 = (Value.func (.func 73) #[] #[.pointer (some ⟨c6, 0, none⟩), .pointer (some ⟨c3, 0, none⟩), .pointer (some ⟨b1, 0, none⟩), .pointer (some ⟨c7, 0, none⟩)]) ∧ e 34 = (.tuple #[iv (depT (whD D) dp (T i)), iv (0 + (T i).flat.length)]) ∧ Ext wg w | 8 => e 1 = (.pointer (some ⟨b1, 0, none⟩)) ∧ e 3 = (.pointer (some ⟨c3, 0, none⟩)) ∧ e 5 = (.int .i64 (i : Int)) ∧ e 7 = (.pointer (some ⟨c7, 0, none⟩)) ∧ e 15 = (.slice (some ⟨ub, uo, none⟩) (ordN D).length uc) ∧ e 16 = (.int .i64 ((ordN D).length : Int)) ∧ e 17 = (.int .i64 (k : Int)) ∧ e 31 = (.slice (some ⟨tb, 0, none⟩) D.length tc) ∧ e 32 = (.int .i64 (i : Int)) ∧ e 33 = (Value.func (.func 73) #[] #[.pointer (some ⟨c6, 0, none⟩), .pointer (some ⟨c3, 0, none⟩), .pointer (some ⟨b1, 0, none⟩), .pointer (some ⟨c7, 0, none⟩)]) ∧ Ext wg w | 9 => e 1 = (.pointer (some ⟨b1, 0, none⟩)) ∧ e 3 = (.pointer (some ⟨c3, 0, none⟩)) ∧ e 5 = (.int .i64 (i : Int)) ∧ e 7 = (.pointer (some ⟨c7, 0, none⟩)) ∧ e 15 = (.slice (some ⟨ub, uo, none⟩) (ordN D).length uc) ∧ e 16 = (.int .i64 ((ordN D).length : Int)) ∧ e 17 = (.int .i64 (k : Int)) ∧ e 31 = (.slice (some ⟨tb, 0, none⟩) D.length tc) ∧ e 33 = (Value.func (.func 73) #[] #[.pointer (some ⟨c6, 0, none⟩), .pointer (some ⟨c3, 0, none⟩), .pointer (some ⟨b1, 0, none⟩), .pointer (some ⟨c7, 0, none⟩)]) ∧ e 34 = (.tuple #[iv (depT (whD D) dp (T i)), iv (0 + (T i).flat.length)]) ∧ Ext wg w | 10 => e 1 = (.pointer (some ⟨b1, 0, none⟩)) ∧ e 3 = (.pointer (some ⟨c3, 0, none⟩)) ∧ e 5 = (.int .i64 (i : Int)) ∧ e 7 = (.pointer (some ⟨c7, 0, none⟩)) ∧ e 15 = (.slice (some ⟨ub, uo, none⟩) (ordN D).length uc) ∧ e 16 = (.int .i64 ((ordN D).length : Int)) ∧ e 17 = (.int .i64 (k : Int)) ∧ e 32 = (.int .i64 (i : Int)) ∧ e 33 = (Value.func (.func 73) #[] #[.pointer (some ⟨c6, 0, none⟩), .pointer (some ⟨c3, 0, none⟩), .pointer (some ⟨b1, 0, none⟩), .pointer (some ⟨c7, 0, none⟩)]) ∧ e 34 = (.tuple #[iv (depT (whD D) dp (T i)), iv (0 + (T i).flat.length)]) ∧ Ext wg w | 11 => e 1 = (.pointer (some ⟨b1, 0, none⟩)) ∧ e 3 = (.pointer (some ⟨c3, 0, none⟩)) ∧ e 5 = (.int .i64 (i : Int)) ∧ e 7 = (.pointer (some ⟨c7, 0, none⟩)) ∧ e 15 = (.slice (some ⟨ub, uo, none⟩) (ordN D).length uc) ∧ e 16 = (.int .i64 ((ordN D).length : Int)) ∧ e 17 = (.int .i64 (k : Int)) ∧ e 33 = (Value.func (.func 73) #[] #[.pointer (some ⟨c6, 0, none⟩), .pointer (some ⟨c3, 0, none⟩), .pointer (some ⟨b1, 0, none⟩), .pointer (some ⟨c7, 0, none⟩)]) ∧ e 34 = (.tuple #[iv (depT (whD D) dp (T i)), iv (0 + (T i).flat.length)]) ∧ e 30 = (.tuple #[iv (depT (whD D) dp (T i)), iv (0 + (T i).flat.length)]) ∧ Ext wg w | 12 => e 1 = (.pointer (some ⟨b1, 0, none⟩)) ∧ e 3 = (.pointer (some ⟨c3, 0, none⟩)) ∧ e 5 = (.int .i64 (i : Int)) ∧ e 7 = (.pointer (some ⟨c7, 0, none⟩)) ∧ e 15 = (.slice (some ⟨ub, uo, none⟩) (ordN D).length uc) ∧ e 16 = (.int .i64 ((ordN D).length : Int)) ∧ e 17 = (.int .i64 (k : Int)) ∧ e 31 = (.slice (some ⟨tb, 0, none⟩) D.length tc) ∧ e 32 = (.int .i64 (i : Int)) ∧ e 33 = (Value.func (.func 73) #[] #[.pointer (some ⟨c6, 0, none⟩), .pointer (some ⟨c3, 0, none⟩), .pointer (some ⟨b1, 0, none⟩), .pointer (some ⟨c7, 0, none⟩)]) ∧ e 34 = (.tuple #[iv (depT (whD D) dp (T i)), iv (0 + (T i).flat.length)]) ∧ Ext wg w | 13 => e 1 = (.pointer (some ⟨b1, 0, none⟩)) ∧ e 3 = (.pointer (some ⟨c3, 0, none⟩)) ∧ e 5 = (.int .i64 (i : Int)) ∧ e 7 = (.pointer (some ⟨c7, 0, none⟩)) ∧ e 15 = (.slice (some ⟨ub, uo, none⟩) (ordN D).length uc) ∧ e 16 = (.int .i64 ((ordN D).length : Int)) ∧ e 17 = (.int .i64 (k : Int)) ∧ e 31 = (.slice (some ⟨tb, 0, none⟩) D.length tc) ∧ e 33 = (Value.func (.func 73) #[] #[.pointer (some ⟨c6, 0, none⟩), .pointer (some ⟨c3, 0, none⟩), .pointer (some ⟨b1, 0, none⟩), .pointer (some ⟨c7, 0, none⟩)]) ∧ e 34 = (.tuple #[iv (depT (whD D) dp (T i)), iv (0 + (T i).flat.length)]) ∧ e 30 = (.tuple #[iv (depT (whD D) dp (T i)), iv (0 + (T i).flat.length)]) ∧ Ext wg w | 14 => e 1 = (.pointer (some ⟨b1, 0, none⟩)) ∧ e 3 = (.pointer (some ⟨c3, 0, none⟩)) ∧ e 5 = (.int .i64 (i : Int)) ∧ e 7 = (.pointer (some ⟨c7, 0, none⟩)) ∧ e 15 = (.slice (some ⟨ub, uo, none⟩) (ordN D).length uc) ∧ e 16 = (.int .i64 ((ordN D).length : Int)) ∧ e 17 = (.int .i64 (k : Int)) ∧ e 32 = (.int .i64 (i : Int)) ∧ e 33 = (Value.func (.func 73) #[] #[.pointer (some ⟨c6, 0, none⟩), .pointer (some ⟨c3, 0, none⟩), .pointer (some ⟨b1, 0, none⟩), .pointer (some ⟨c7, 0, none⟩)]) ∧ e 34 = (.tuple #[iv (depT (whD D) dp (T i)), iv (0 + (T i).flat.length)]) ∧ e 30 = (.tuple #[iv (depT (whD D) dp (T i)), iv (0 + (T i).flat.length)]) ∧ Ext wg w | 15 => e 1 = (.pointer (some ⟨b1, 0, none⟩)) ∧ e 3 = (.pointer (some ⟨c3, 0, none⟩)) ∧ e 5 = (.int .i64 (i : Int)) ∧ e 7 = (.pointer (some ⟨c7, 0, none⟩)) ∧ e 15 = (.slice (some ⟨ub, uo, none⟩) (ordN D).length uc) ∧ e 16 = (.int .i64 ((ordN D).length : Int)) ∧ e 17 = (.int .i64 (k : Int)) ∧ e 33 = (Value.func (.func 73) #[] #[.pointer (some ⟨c6, 0, none⟩), .pointer (some ⟨c3, 0, none⟩), .pointer (some ⟨b1, 0, none⟩), .pointer (some ⟨c7, 0, none⟩)]) ∧ e 34 = (.tuple #[iv (depT (whD D) dp (T i)), iv (0 + (T i).flat.length)]) ∧ e 30 = (.tuple #[iv (depT (whD D) dp (T i)), iv (0 + (T i).flat.length)]) ∧ e 35 = (iv (depT (whD D) dp (T i))) ∧ Ext wg w | 16 => e 1 = (.pointer (some ⟨b1, 0, none⟩)) ∧ e 3 = (.pointer (some ⟨c3, 0, none⟩)) ∧ e 5 = (.int .i64 (i : Int)) ∧ e 7 = (.pointer (some ⟨c7, 0, none⟩)) ∧ e 15 = (.slice (some ⟨ub, uo, none⟩) (ordN D).length uc) ∧ e 16 = (.int .i64 ((ordN D).length : Int)) ∧ e 17 = (.int .i64 (k : Int)) ∧ e 33 = (Value.func (.func 73) #[] #[.pointer (some ⟨c6, 0, none⟩), .pointer (some ⟨c3, 0, none⟩), .pointer (some ⟨b1, 0, none⟩), .pointer (some ⟨c7, 0, none⟩)]) ∧ e 34 = (.tuple #[iv (depT (whD D) dp (T i)), iv (0 + (T i).flat.length)]) ∧ e 30 = (.tuple #[iv (depT (whD D) dp (T i)), iv (0 + (T i).flat.length)]) ∧ e 36 = (iv (0 + (T i).flat.length)) ∧ Ext wg w | 17 => e 1 = (.pointer (some ⟨b1, 0, none⟩)) ∧ e 3 = (.pointer (some ⟨c3, 0, none⟩)) ∧ e 5 = (.int .i64 (i : Int)) ∧ e 7 = (.pointer (some ⟨c7, 0, none⟩)) ∧ e 15 = (.slice (some ⟨ub, uo, none⟩) (ordN D).length uc) ∧ e 16 = (.int .i64 ((ordN D).length : Int)) ∧ e 17 = (.int .i64 (k : Int)) ∧ e 31 = (.slice (some ⟨tb, 0, none⟩) D.length tc) ∧ e 32 = (.int .i64 (i : Int)) ∧ e 33 = (Value.func (.func 73) #[] #[.pointer (some ⟨c6, 0, none⟩), .pointer (some ⟨c3, 0, none⟩), .pointer (some ⟨b1, 0, none⟩), .pointer (some ⟨c7, 0, none⟩)]) ∧ e 34 = (.tuple #[iv (depT (whD D) dp (T i)), iv (0 + (T i).flat.length)]) ∧ e 30 = (.tuple #[iv (depT (whD D) dp (T i)), iv (0 + (T i).flat.length)]) ∧ Ext wg w | 18 => e 1 = (.pointer (some ⟨b1, 0, none⟩)) ∧ e 3 = (.pointer (some ⟨c3, 0, none⟩)) ∧ e 5 = (.int .i64 (i : Int)) ∧ e 7 = (.pointer (some ⟨c7, 0, none⟩)) ∧ e 15 = (.slice (some ⟨ub, uo, none⟩) (ordN D).length uc) ∧ e 16 = (.int .i64 ((ordN D).length : Int)) ∧ e 17 = (.int .i64 (k : Int)) ∧ e 31 = (.slice (some ⟨tb, 0, none⟩) D.length tc) ∧ e 33 = (Value.func (.func 73) #[] #[.pointer (some ⟨c6, 0, none⟩), .pointer (some ⟨c3, 0, none⟩), .pointer (some ⟨b1, 0, none⟩), .pointer (some ⟨c7, 0, none⟩)]) ∧ e 34 = (.tuple #[iv (depT (whD D) dp (T i)), iv (0 + (T i).flat.length)]) ∧ e 30 = (.tuple #[iv (depT (whD D) dp (T i)), iv (0 + (T i).flat.length)]) ∧ e 35 = (iv (depT (whD D) dp (T i))) ∧ Ext wg w | 19 => e 1 = (.pointer (some ⟨b1, 0, none⟩)) ∧ e 3 = (.pointer (some ⟨c3, 0, none⟩)) ∧ e 5 = (.int .i64 (i : Int)) ∧ e 7 = (.pointer (some ⟨c7, 0, none⟩)) ∧ e 15 = (.slice (some ⟨ub, uo, none⟩) (ordN D).length uc) ∧ e 16 = (.int .i64 ((ordN D).length : Int)) ∧ e 17 = (.int .i64 (k : Int)) ∧ e 31 = (.slice (some ⟨tb, 0, none⟩) D.length tc) ∧ e 33 = (Value.func (.func 73) #[] #[.pointer (some ⟨c6, 0, none⟩), .pointer (some ⟨c3, 0, none⟩), .pointer (some ⟨b1, 0, none⟩), .pointer (some ⟨c7, 0, none⟩)]) ∧ e 34 = (.tuple #[iv (depT (whD D) dp (T i)), iv (0 + (T i).flat.length)]) ∧ e 30 = (.tuple #[iv (depT (whD D) dp (T i)), iv (0 + (T i).flat.length)]) ∧ e 36 = (iv (0 + (T i).flat.length)) ∧ Ext wg w | 20 => e 1 = (.pointer (some ⟨b1, 0, none⟩)) ∧ e 3 = (.pointer (some ⟨c3, 0, none⟩)) ∧ e 5 = (.int .i64 (i : Int)) ∧ e 7 = (.pointer (some ⟨c7, 0, none⟩)) ∧ e 15 = (.slice (some ⟨ub, uo, none⟩) (ordN D).length uc) ∧ e 16 = (.int .i64 ((ordN D).length : Int)) ∧ e 17 = (.int .i64 (k : Int)) ∧ e 32 = (.int .i64 (i : Int)) ∧ e 33 = (Value.func (.func 73) #[] #[.pointer (some ⟨c6, 0, none⟩), .pointer (some ⟨c3, 0, none⟩), .pointer (some ⟨b1, 0, none⟩), .pointer (some ⟨c7, 0, none⟩)]) ∧ e 34 = (.tuple #[iv (depT (whD D) dp (T i)), iv (0 + (T i).flat.length)]) ∧ e 30 = (.tuple #[iv (depT (whD D) dp (T i)), iv (0 + (T i).flat.length)]) ∧ e 35 = (iv (depT (whD D) dp (T i))) ∧ Ext wg w | 21 => e 1 = (.pointer (some ⟨b1, 0, none⟩)) ∧ e 3 = (.pointer (some ⟨c3, 0, none⟩)) ∧ e 5 = (.int .i64 (i : Int)) ∧ e 7 = (.pointer (some ⟨c7, 0, none⟩)) ∧ e 15 = (.slice (some ⟨ub, uo, none⟩) (ordN D).length uc) ∧ e 16 = (.int .i64 ((ordN D).length : Int)) ∧ e 17 = (.int .i64 (k : Int)) ∧ e 32 = (.int .i64 (i : Int)) ∧ e 33 = (Value.func (.func 73) #[] #[.pointer (some ⟨c6, 0, none⟩), .pointer (some ⟨c3, 0, none⟩), .pointer (some ⟨b1, 0, none⟩), .pointer (some ⟨c7, 0, none⟩)]) ∧ e 34 = (.tuple #[iv (depT (whD D) dp (T i)), iv (0 + (T i).flat.length)]) ∧ e 30 = (.tuple #[iv (depT (whD D) dp (T i)), iv (0 + (T i).flat.length)]) ∧ e 36 = (iv (0 + (T i).flat.length)) ∧ Ext wg w | 22 => e 1 = (.pointer (some ⟨b1, 0, none⟩)) ∧ e 3 = (.pointer (some ⟨c3, 0, none⟩)) ∧ e 5 = (.int .i64 (i : Int)) ∧ e 7 = (.pointer (some ⟨c7, 0, none⟩)) ∧ e 15 = (.slice (some ⟨ub, uo, none⟩) (ordN D).length uc) ∧ e 16 = (.int .i64 ((ordN D).length : Int)) ∧ e 17 = (.int .i64 (k : Int)) ∧ e 33 = (Value.func (.func 73) #[] #[.pointer (some ⟨c6, 0, none⟩), .pointer (some ⟨c3, 0, none⟩), .pointer (some ⟨b1, 0, none⟩), .pointer (some ⟨c7, 0, none⟩)]) ∧ e 34 = (.tuple #[iv (depT (whD D) dp (T i)), iv (0 + (T i).flat.length)]) ∧ e 30 = (.tuple #[iv (depT (whD D) dp (T i)), iv (0 + (T i).flat.length)]) ∧ e 35 = (iv (depT (whD D) dp (T i))) ∧ e 36 = (iv (0 + (T i).flat.length)) ∧ Ext wg w | 23 => e 1 = (.pointer (some ⟨b1, 0, none⟩)) ∧ e 3 = (.pointer (some ⟨c3, 0, none⟩)) ∧ e 5 = (.int .i64 (i : Int)) ∧ e 7 = (.pointer (some ⟨c7, 0, none⟩)) ∧ e 15 = (.slice (some ⟨ub, uo, none⟩) (ordN D).length uc) ∧ e 16 = (.int .i64 ((ordN D).length : Int)) ∧ e 17 = (.int .i64 (k : Int)) ∧ e 31 = (.slice (some ⟨tb, 0, none⟩) D.length tc) ∧ e 32 = (.int .i64 (i : Int)) ∧ e 33 = (Value.func (.func 73) #[] #[.pointer (some ⟨c6, 0, none⟩), .pointer (some ⟨c3, 0, none⟩), .pointer (some ⟨b1, 0, none⟩), .pointer (some ⟨c7, 0, none⟩)]) ∧ e 34 = (.tuple #[iv (depT (whD D) dp (T i)), iv (0 + (T i).flat.length)]) ∧ e 30 = (.tuple #[iv (depT (whD D) dp (T i)), iv (0 + (T i).flat.length)]) ∧ e 35 = (iv (depT (whD D) dp (T i))) ∧ Ext wg w | 24 => e 1 = (.pointer (some ⟨b1, 0, none⟩)) ∧ e 3 = (.pointer (some ⟨c3, 0, none⟩)) ∧ e 5 = (.int .i64 (i : Int)) ∧ e 7 = (.pointer (some ⟨c7, 0, none⟩)) ∧ e 15 = (.slice (some ⟨ub, uo, none⟩) (ordN D).length uc) ∧ e 16 = (.int .i64 ((ordN D).length : Int)) ∧ e 17 = (.int .i64 (k : Int)) ∧ e 31 = (.slice (some ⟨tb, 0, none⟩) D.length tc) ∧ e 32 = (.int .i64 (i : Int)) ∧ e 33 = (Value.func (.func 73) #[] #[.pointer (some ⟨c6, 0, none⟩), .pointer (some ⟨c3, 0, none⟩), .pointer (some ⟨b1, 0, none⟩), .pointer (some ⟨c7, 0, none⟩)]) ∧ e 34 = (.tuple #[iv (depT (whD D) dp (T i)), iv (0 + (T i).flat.length)]) ∧ e 30 = (.tuple #[iv (depT (whD D) dp (T i)), iv (0 + (T i).flat.length)]) ∧ e 36 = (iv (0 + (T i).flat.length)) ∧ Ext wg w | 25 => e 1 = (.pointer (some ⟨b1, 0, none⟩)) ∧ e 3 = (.pointer (some ⟨c3, 0, none⟩)) ∧ e 5 = (.int .i64 (i : Int)) ∧ e 7 = (.pointer (some ⟨c7, 0, none⟩)) ∧ e 15 = (.slice (some ⟨ub, uo, none⟩) (ordN D).length uc) ∧ e 16 = (.int .i64 ((ordN D).length : Int)) ∧ e 17 = (.int .i64 (k : Int)) ∧ e 31 = (.slice (some ⟨tb, 0, none⟩) D.length tc) ∧ e 33 = (Value.func (.func 73) #[] #[.pointer (some ⟨c6, 0, none⟩), .pointer (some ⟨c3, 0, none⟩), .pointer (some ⟨b1, 0, none⟩), .pointer (some ⟨c7, 0, none⟩)]) ∧ e 34 = (.tuple #[iv (depT (whD D) dp (T i)), iv (0 + (T i).flat.length)]) ∧ e 30 = (.tuple #[iv (depT (whD D) dp (T i)), iv (0 + (T i).flat.length)]) ∧ e 35 = (iv (depT (whD D) dp (T i))) ∧ e 36 = (iv (0 + (T i).flat.length)) ∧ Ext wg w | 26 => e 1 = (.pointer (some ⟨b1, 0, none⟩)) ∧ e 3 = (.pointer (some ⟨c3, 0, none⟩)) ∧ e 5 = (.int .i64 (i : Int)) ∧ e 7 = (.pointer (some ⟨c7, 0, none⟩)) ∧ e 15 = (.slice (some ⟨ub, uo, none⟩) (ordN D).length uc) ∧ e 16 = (.int .i64 ((ordN D).length : Int)) ∧ e 17 = (.int .i64 (k : Int)) ∧ e 32 = (.int .i64 (i : Int)) ∧ e 33 = (Value.func (.func 73) #[] #[.pointer (some ⟨c6, 0, none⟩), .pointer (some ⟨c3, 0, none⟩), .pointer (some ⟨b1, 0, none⟩), .pointer (some ⟨c7, 0, none⟩)]) ∧ e 34 = (.tuple #[iv (depT (whD D) dp (T i)), iv (0 + (T i).flat.length)]) ∧ e 30 = (.tuple #[iv (depT (whD D) dp (T i)), iv (0 + (T i).flat.length)]) ∧ e 35 = (iv (depT (whD D) dp (T i))) ∧ e 36 = (iv (0 + (T i).flat.length)) ∧ Ext wg w | 27 => e 1 = (.pointer (some ⟨b1, 0, none⟩)) ∧ e 3 = (.pointer (some ⟨c3, 0, none⟩)) ∧ e 5 = (.int .i64 (i : Int)) ∧ e 7 = (.pointer (some ⟨c7, 0, none⟩)) ∧ e 15 = (.slice (some ⟨ub, uo, none⟩) (ordN D).length uc) ∧ e 16 = (.int .i64 ((ordN D).length : Int)) ∧ e 17 = (.int .i64 (k : Int)) ∧ e 31 = (.slice (some ⟨tb, 0, none⟩) D.length tc) ∧ e 32 = (.int .i64 (i : Int)) ∧ e 33 = (Value.func (.func 73) #[] #[.pointer (some ⟨c6, 0, none⟩), .pointer (some ⟨c3, 0, none⟩), .pointer (some ⟨b1, 0, none⟩), .pointer (some ⟨c7, 0, none⟩)]) ∧ e 34 = (.tuple #[iv (depT (whD D) dp (T i)), iv (0 + (T i).flat.length)]) ∧ e 30 = (.tuple #[iv (depT (whD D) dp (T i)), iv (0 + (T i).flat.length)]) ∧ e 35 = (iv (depT (whD D) dp (T i))) ∧ e 36 = (iv (0 + (T i).flat.length)) ∧ Ext wg w | 28 => e 1 = (.pointer (some ⟨b1, 0, none⟩)) ∧ e 3 = (.pointer (some ⟨c3, 0, none⟩)) ∧ e 5 = (.int .i64 (i : Int)) ∧ e 7 = (.pointer (some ⟨c7, 0, none⟩)) ∧ e 15 = (.slice (some ⟨ub, uo, none⟩) (ordN D).length uc) ∧ e 16 = (.int .i64 ((ordN D).length : Int)) ∧ e 17 = (.int .i64 (k : Int)) ∧ e 31 = (.slice (some ⟨tb, 0, none⟩) D.length tc) ∧ e 32 = (.int .i64 (i : Int)) ∧ e 33 = (Value.func (.func 73) #[] #[.pointer (some ⟨c6, 0, none⟩), .pointer (some ⟨c3, 0, none⟩), .pointer (some ⟨b1, 0, none⟩), .pointer (some ⟨c7, 0, none⟩)]) ∧ e 34 = (.tuple #[iv (depT (whD D) dp (T i)), iv (0 + (T i).flat.length)]) ∧ e 30 = (.tuple #[iv (depT (whD D) dp (T i)), iv (0 + (T i).flat.length)]) ∧ e 35 = (iv (depT (whD D) dp (T i))) ∧ e 37 = (.pointer (some ⟨tb, 0 + i * 1, none⟩)) ∧ Ext wg w | 29 => e 1 = (.pointer (some ⟨b1, 0, none⟩)) ∧ e 3 = (.pointer (some ⟨c3, 0, none⟩)) ∧ e 5 = (.int .i64 (i : Int)) ∧ e 7 = (.pointer (some ⟨c7, 0, none⟩)) ∧ e 15 = (.slice (some ⟨ub, uo, none⟩) (ordN D).length uc) ∧ e 16 = (.int .i64 ((ordN D).length : Int)) ∧ e 17 = (.int .i64 (k : Int)) ∧ e 31 = (.slice (some ⟨tb, 0, none⟩) D.length tc) ∧ e 32 = (.int .i64 (i : Int)) ∧ e 33 = (Value.func (.func 73) #[] #[.pointer (some ⟨c6, 0, none⟩), .pointer (some ⟨c3, 0, none⟩), .pointer (some ⟨b1, 0, none⟩), .pointer (some ⟨c7, 0, none⟩)]) ∧ e 34 = (.tuple #[iv (depT (whD D) dp (T i)), iv (0 + (T i).flat.length)]) ∧ e 30 = (.tuple #[iv (depT (whD D) dp (T i)), iv (0 + (T i).flat.length)]) ∧ e 35 = (iv (depT (whD D) dp (T i))) ∧ e 36 = (iv (0 + (T i).flat.length)) ∧ e 37 = (.pointer (some ⟨tb, 0 + i * 1, none⟩)) ∧ Ext wg w | 30 => e 1 = (.pointer (some ⟨b1, 0, none⟩)) ∧ e 3 = (.pointer (some ⟨c3, 0, none⟩)) ∧ e 5 = (.int .i64 (i : Int)) ∧ e 7 = (.pointer (some ⟨c7, 0, none⟩)) ∧ e 15 = (.slice (some ⟨ub, uo, none⟩) (ordN D).length uc) ∧ e 16 = (.int .i64 ((ordN D).length : Int)) ∧ e 17 = (.int .i64 (k : Int)) ∧ e 31 = (.slice (some ⟨tb, 0, none⟩) D.length tc) ∧ e 32 = (.int .i64 (i : Int)) ∧ e 33 = (Value.func (.func 73) #[] #[.pointer (some ⟨c6, 0, none⟩), .pointer (some ⟨c3, 0, none⟩), .pointer (some ⟨b1, 0, none⟩), .pointer (some ⟨c7, 0, none⟩)]) ∧ e 34 = (.tuple #[iv (depT (whD D) dp (T i)), iv (0 + (T i).flat.length)]) ∧ e 30 = (.tuple #[iv (depT (whD D) dp (T i)), iv (0 + (T i).flat.length)]) ∧ e 35 = (iv (depT (whD D) dp (T i))) ∧ e 37 = (.pointer (some ⟨tb, 0 + i * 1, none⟩)) ∧ w.ownsRow B2 3 1 v15 (ordN D).length ((ordN D).map iv) ∧ w.ownsRow BB 3 1 ov D.length (dps D.length (updN dp i (depT (whD D) dp (T i)))) ∧ w.heap[b1]? = some (.cells #[.pointer (some ⟨pb, 0, none⟩)] 93 (0, 0)) ∧ w.heap[c3]? = some (.cells #[ov] 57 (0, 0)) ∧ Bk w pb mb D dv V ∧ Ext w0 w | 31 => e 1 = (.pointer (some ⟨b1, 0, none⟩)) ∧ e 3 = (.pointer (some ⟨c3, 0, none⟩)) ∧ e 5 = (.int .i64 (i : Int)) ∧ e 7 = (.pointer (some ⟨c7, 0, none⟩)) ∧ e 15 = (.slice (some ⟨ub, uo, none⟩) (ordN D).length uc) ∧ e 16 = (.int .i64 ((ordN D).length : Int)) ∧ e 17 = (.int .i64 (k : Int)) ∧ e 31 = (.slice (some ⟨tb, 0, none⟩) D.length tc) ∧ e 32 = (.int .i64 (i : Int)) ∧ e 33 = (Value.func (.func 73) #[] #[.pointer (some ⟨c6, 0, none⟩), .pointer (some ⟨c3, 0, none⟩), .pointer (some ⟨b1, 0, none⟩), .pointer (some ⟨c7, 0, none⟩)]) ∧ e 34 = (.tuple #[iv (depT (whD D) dp (T i)), iv (0 + (T i).flat.length)]) ∧ e 30 = (.tuple #[iv (depT (whD D) dp (T i)), iv (0 + (T i).flat.length)]) ∧ e 35 = (iv (depT (whD D) dp (T i))) ∧ e 36 = (iv (0 + (T i).flat.length)) ∧ e 37 = (.pointer (some ⟨tb, 0 + i * 1, none⟩)) ∧ w.ownsRow B2 3 1 v15 (ordN D).length ((ordN D).map iv) ∧ w.ownsRow BB 3 1 ov D.length (dps D.length (updN dp i (depT (whD D) dp (T i)))) ∧ w.heap[b1]? = some (.cells #[.pointer (some ⟨pb, 0, none⟩)] 93 (0, 0)) ∧ w.heap[c3]? = some (.cells #[ov] 57 (0, 0)) ∧ Bk w pb mb D dv V ∧ Ext w0 w | _ => False) ([([false, false, false, false, false, false, false, false, false], [(0, 1), (1, 2), (2, 3)]), ([true, false, false, false, false, false, false, false, false], [(1, 4), (2, 5)]), ([false, true, false, false, false, false, false, false, false], [(0, 4), (2, 6)]), ([false, false, true, false, false, false, false, false, false], [(0, 5), (1, 6), (3, 7)]), ([true, true, false, false, false, false, false, false, false], [(2, 8)]), ([true, false, true, false, false, false, false, false, false], [(1, 8), (3, 9)]), ([false, true, true, false, false, false, false, false, false], [(0, 8), (3, 10)]), ([false, false, true, true, false, false, false, false, false], [(0, 9), (1, 10), (4, 11)]), ([true, true, true, false, false, false, false, false, false], [(3, 12)]), ([true, false, true, true, false, false, false, false, false], [(1, 12), (4, 13)]), ([false, true, true, true, false, false, false, false, false], [(0, 12), (4, 14)]), ([false, false, true, true, true, false, false, false, false], [(0, 13), (1, 14), (5, 15), (6, 16)]), ([true, true, true, true, false, false, false, false, false], [(4, 17)]), ([true, false, true, true, true, false, false, false, false], [(1, 17), (5, 18), (6, 19)]), ([false, true, true, true, true, false, false, false, false], [(0, 17), (5, 20), (6, 21)]), ([false, false, true, true, true, true, false, false, false], [(0, 18), (1, 20), (6, 22)]), ([false, false, true, true, true, false, true, false, false], [(0, 19), (1, 21), (5, 22)]), ([true, true, true, true, true, false, false, false, false], [(5, 23), (6, 24)]), ([true, false, true, true, true, true, false, false, false], [(1, 23), (6, 25)]), ([true, false, true, true, true, false, true, false, false], [(1, 24), (5, 25)]), ([false, true, true, true, true, true, false, false, false], [(0, 23), (6, 26)]), ([false, true, true, true, true, false, true, false, false], [(0, 24), (5, 26)]), ([false, false, true, true, true, true, true, false, false], [(0, 25), (1, 26)]), ([true, true, true, true, true, true, false, false, false], [(6, 27), (7, 28)]), ([true, true, true, true, true, false, true, false, false], [(5, 27)]), ([true, false, true, true, true, true, true, false, false], [(1, 27)]), ([false, true, true, true, true, true, true, false, false], [(0, 27)]), ([true, true, true, true, true, true, true, false, false], [(7, 29)]), ([true, true, true, true, true, true, false, true, false], [(6, 29), (8, 30)]), ([true, true, true, true, true, true, true, true, false], [(8, 31)]), ([true, true, true, true, true, true, false, true, true], [(6, 31)]), ([true, true, true, true, true, true, true, true, true], [])]) rfl (by kernel_rfl) rfl ⟨h1, h3, rfl, rfl, h15, h16, h17, Only.drew wg⟩ (⟨?_, ?_, ?_, ?_, ?_, ?_, ?_, ?_, ?_, ?_, ?_, ?_, ?_, ?_, ?_, ?_, ?_, ?_, ?_, ?_, ?_, ?_, ?_, ?_, ?_, ?_, ?_, ?_, ?_, ?_, ?_, ?_, trivial⟩)
  ·-- state 0 of region 8
   rintro e w ⟨h1, h3, h5, h7, h15, h16, h17, hR⟩
   refine ⟨?_, ?_, ?_, trivial⟩
   ·skip
    refine WO.c rfl rfl (Wk TI57 rfl h3 (Wh (hR.blk hC3s (fun h => h)) rfl) ?_)
    exact ⟨h1, h3, h5, h7, h15, h16, h17, rfl, hR⟩
   ·skip
    refine WO.c rfl rfl (Wf h5 ?_)
    exact ⟨h1, h3, h5, h7, h15, h16, h17, rfl, hR⟩
   skip
   refine WO.c rfl rfl (Wk TI143 rfl h7 (Wh (hR.blk hC7 (fun h => h)) rfl) ?_)
   exact ⟨h1, h3, h5, h7, h15, h16, h17, rfl, hR⟩
  ·-- state 1 of region 8
   rintro e w ⟨h1, h3, h5, h7, h15, h16, h17, h31, hR⟩
   refine ⟨?_, ?_, trivial⟩
   ·skip
    refine WO.c rfl rfl (Wf h5 ?_)
    exact ⟨h1, h3, h5, h7, h15, h16, h17, h31, rfl, hR⟩
   skip
   refine WO.c rfl rfl (Wk TI143 rfl h7 (Wh (hR.blk hC7 (fun h => h)) rfl) ?_)
   exact ⟨h1, h3, h5, h7, h15, h16, h17, h31, rfl, hR⟩
  ·-- state 2 of region 8
   rintro e w ⟨h1, h3, h5, h7, h15, h16, h17, h32, hR⟩
   refine ⟨?_, ?_, trivial⟩
   ·skip
    refine WO.c rfl rfl (Wk TI57 rfl h3 (Wh (hR.blk hC3s (fun h => h)) rfl) ?_)
    exact ⟨h1, h3, h5, h7, h15, h16, h17, rfl, h32, hR⟩
   skip
   refine WO.c rfl rfl (Wk TI143 rfl h7 (Wh (hR.blk hC7 (fun h => h)) rfl) ?_)
   exact ⟨h1, h3, h5, h7, h15, h16, h17, h32, rfl, hR⟩
  ·-- state 3 of region 8
   rintro e w ⟨h1, h3, h5, h7, h15, h16, h17, h33, hR⟩
   refine ⟨?_, ?_, ?_, trivial⟩
   ·skip
    refine WO.c rfl rfl (Wk TI57 rfl h3 (Wh (hR.blk hC3s (fun h => h)) rfl) ?_)
    exact ⟨h1, h3, h5, h7, h15, h16, h17, rfl, h33, hR⟩
   ·skip
    refine WO.c rfl rfl (Wf h5 ?_)
    exact ⟨h1, h3, h5, h7, h15, h16, h17, rfl, h33, hR⟩
   skip
   refine WO.c rfl rfl (o_callC h33 Tryd.call73 (lc (show _ = Value.int .i64 ((0 : Nat) : Int) from rfl) ln) ((hcall _ hR).mono ?_))
   rintro v34 w34 ⟨rfl, hx34⟩
   replace hR := hR.tr hx34
   exact ⟨h1, h3, h5, h7, h15, h16, h17, h33, rfl, hR⟩
  ·-- state 4 of region 8
   rintro e w ⟨h1, h3, h5, h7, h15, h16, h17, h31, h32, hR⟩
   refine ⟨?_, trivial⟩
   skip
   refine WO.c rfl rfl (Wk TI143 rfl h7 (Wh (hR.blk hC7 (fun h => h)) rfl) ?_)
   exact ⟨h1, h3, h5, h7, h15, h16, h17, h31, h32, rfl, hR⟩
  ·-- state 5 of region 8
   rintro e w ⟨h1, h3, h5, h7, h15, h16, h17, h31, h33, hR⟩
   refine ⟨?_, ?_, trivial⟩
   ·skip
    refine WO.c rfl rfl (Wf h5 ?_)
    exact ⟨h1, h3, h5, h7, h15, h16, h17, h31, rfl, h33, hR⟩
   skip
   refine WO.c rfl rfl (o_callC h33 Tryd.call73 (lc (show _ = Value.int .i64 ((0 : Nat) : Int) from rfl) ln) ((hcall _ hR).mono ?_))
   rintro v34 w34 ⟨rfl, hx34⟩
   replace hR := hR.tr hx34
   exact ⟨h1, h3, h5, h7, h15, h16, h17, h31, h33, rfl, hR⟩
  ·-- state 6 of region 8
   rintro e w ⟨h1, h3, h5, h7, h15, h16, h17, h32, h33, hR⟩
   refine ⟨?_, ?_, trivial⟩
   ·skip
    refine WO.c rfl rfl (Wk TI57 rfl h3 (Wh (hR.blk hC3s (fun h => h)) rfl) ?_)
    exact ⟨h1, h3, h5, h7, h15, h16, h17, rfl, h32, h33, hR⟩
   skip
   refine WO.c rfl rfl (o_callC h33 Tryd.call73 (lc (show _ = Value.int .i64 ((0 : Nat) : Int) from rfl) ln) ((hcall _ hR).mono ?_))
   rintro v34 w34 ⟨rfl, hx34⟩
   replace hR := hR.tr hx34
   exact ⟨h1, h3, h5, h7, h15, h16, h17, h32, h33, rfl, hR⟩
  ·-- state 7 of region 8
   rintro e w ⟨h1, h3, h5, h7, h15, h16, h17, h33, h34, hR⟩
   refine ⟨?_, ?_, ?_, trivial⟩
   ·skip
    refine WO.c rfl rfl (Wk TI57 rfl h3 (Wh (hR.blk hC3s (fun h => h)) rfl) ?_)
    exact ⟨h1, h3, h5, h7, h15, h16, h17, rfl, h33, h34, hR⟩
   ·skip
    refine WO.c rfl rfl (Wf h5 ?_)
    exact ⟨h1, h3, h5, h7, h15, h16, h17, rfl, h33, h34, hR⟩
   skip
   refine WO.c rfl rfl (Wf h34 ?_)
   exact ⟨h1, h3, h5, h7, h15, h16, h17, h33, h34, rfl, hR⟩
  ·-- state 8 of region 8
   rintro e w ⟨h1, h3, h5, h7, h15, h16, h17, h31, h32, h33, hR⟩
   refine ⟨?_, trivial⟩
   skip
   refine WO.c rfl rfl (o_callC h33 Tryd.call73 (lc (show _ = Value.int .i64 ((0 : Nat) : Int) from rfl) ln) ((hcall _ hR).mono ?_))
   rintro v34 w34 ⟨rfl, hx34⟩
   replace hR := hR.tr hx34
   exact ⟨h1, h3, h5, h7, h15, h16, h17, h31, h32, h33, rfl, hR⟩
  ·-- state 9 of region 8
   rintro e w ⟨h1, h3, h5, h7, h15, h16, h17, h31, h33, h34, hR⟩
   refine ⟨?_, ?_, trivial⟩
   ·skip
    refine WO.c rfl rfl (Wf h5 ?_)
    exact ⟨h1, h3, h5, h7, h15, h16, h17, h31, rfl, h33, h34, hR⟩
   skip
   refine WO.c rfl rfl (Wf h34 ?_)
   exact ⟨h1, h3, h5, h7, h15, h16, h17, h31, h33, h34, rfl, hR⟩
  ·-- state 10 of region 8
   rintro e w ⟨h1, h3, h5, h7, h15, h16, h17, h32, h33, h34, hR⟩
   refine ⟨?_, ?_, trivial⟩
   ·skip
    refine WO.c rfl rfl (Wk TI57 rfl h3 (Wh (hR.blk hC3s (fun h => h)) rfl) ?_)
    exact ⟨h1, h3, h5, h7, h15, h16, h17, rfl, h32, h33, h34, hR⟩
   skip
   refine WO.c rfl rfl (Wf h34 ?_)
   exact ⟨h1, h3, h5, h7, h15, h16, h17, h32, h33, h34, rfl, hR⟩
  ·-- state 11 of region 8
   rintro e w ⟨h1, h3, h5, h7, h15, h16, h17, h33, h34, h30, hR⟩
   refine ⟨?_, ?_, ?_, ?_, trivial⟩
   ·skip
    refine WO.c rfl rfl (Wk TI57 rfl h3 (Wh (hR.blk hC3s (fun h => h)) rfl) ?_)
    exact ⟨h1, h3, h5, h7, h15, h16, h17, rfl, h33, h34, h30, hR⟩
   ·skip
    refine WO.c rfl rfl (Wf h5 ?_)
    exact ⟨h1, h3, h5, h7, h15, h16, h17, rfl, h33, h34, h30, hR⟩
   ·skip
    refine WO.c rfl rfl (o_ext h30 rfl ?_)
    exact ⟨h1, h3, h5, h7, h15, h16, h17, h33, h34, h30, rfl, hR⟩
   skip
   refine WO.c rfl rfl (o_ext h30 rfl ?_)
   exact ⟨h1, h3, h5, h7, h15, h16, h17, h33, h34, h30, rfl, hR⟩
  ·-- state 12 of region 8
   rintro e w ⟨h1, h3, h5, h7, h15, h16, h17, h31, h32, h33, h34, hR⟩
   refine ⟨?_, trivial⟩
   skip
   refine WO.c rfl rfl (Wf h34 ?_)
   exact ⟨h1, h3, h5, h7, h15, h16, h17, h31, h32, h33, h34, rfl, hR⟩
  ·-- state 13 of region 8
   rintro e w ⟨h1, h3, h5, h7, h15, h16, h17, h31, h33, h34, h30, hR⟩
   refine ⟨?_, ?_, ?_, trivial⟩
   ·skip
    refine WO.c rfl rfl (Wf h5 ?_)
    exact ⟨h1, h3, h5, h7, h15, h16, h17, h31, rfl, h33, h34, h30, hR⟩
   ·skip
    refine WO.c rfl rfl (o_ext h30 rfl ?_)
    exact ⟨h1, h3, h5, h7, h15, h16, h17, h31, h33, h34, h30, rfl, hR⟩
   skip
   refine WO.c rfl rfl (o_ext h30 rfl ?_)
   exact ⟨h1, h3, h5, h7, h15, h16, h17, h31, h33, h34, h30, rfl, hR⟩
  ·-- state 14 of region 8
   rintro e w ⟨h1, h3, h5, h7, h15, h16, h17, h32, h33, h34, h30, hR⟩
   refine ⟨?_, ?_, ?_, trivial⟩
   ·skip
    refine WO.c rfl rfl (Wk TI57 rfl h3 (Wh (hR.blk hC3s (fun h => h)) rfl) ?_)
    exact ⟨h1, h3, h5, h7, h15, h16, h17, rfl, h32, h33, h34, h30, hR⟩
   ·skip
    refine WO.c rfl rfl (o_ext h30 rfl ?_)
    exact ⟨h1, h3, h5, h7, h15, h16, h17, h32, h33, h34, h30, rfl, hR⟩
   skip
   refine WO.c rfl rfl (o_ext h30 rfl ?_)
   exact ⟨h1, h3, h5, h7, h15, h16, h17, h32, h33, h34, h30, rfl, hR⟩
  ·-- state 15 of region 8
   rintro e w ⟨h1, h3, h5, h7, h15, h16, h17, h33, h34, h30, h35, hR⟩
   refine ⟨?_, ?_, ?_, trivial⟩
   ·skip
    refine WO.c rfl rfl (Wk TI57 rfl h3 (Wh (hR.blk hC3s (fun h => h)) rfl) ?_)
    exact ⟨h1, h3, h5, h7, h15, h16, h17, rfl, h33, h34, h30, h35, hR⟩
   ·skip
    refine WO.c rfl rfl (Wf h5 ?_)
    exact ⟨h1, h3, h5, h7, h15, h16, h17, rfl, h33, h34, h30, h35, hR⟩
   skip
   refine WO.c rfl rfl (o_ext h30 rfl ?_)
   exact ⟨h1, h3, h5, h7, h15, h16, h17, h33, h34, h30, h35, rfl, hR⟩
  ·-- state 16 of region 8
   rintro e w ⟨h1, h3, h5, h7, h15, h16, h17, h33, h34, h30, h36, hR⟩
   refine ⟨?_, ?_, ?_, trivial⟩
   ·skip
    refine WO.c rfl rfl (Wk TI57 rfl h3 (Wh (hR.blk hC3s (fun h => h)) rfl) ?_)
    exact ⟨h1, h3, h5, h7, h15, h16, h17, rfl, h33, h34, h30, h36, hR⟩
   ·skip
    refine WO.c rfl rfl (Wf h5 ?_)
    exact ⟨h1, h3, h5, h7, h15, h16, h17, rfl, h33, h34, h30, h36, hR⟩
   skip
   refine WO.c rfl rfl (o_ext h30 rfl ?_)
   exact ⟨h1, h3, h5, h7, h15, h16, h17, h33, h34, h30, rfl, h36, hR⟩
  ·-- state 17 of region 8
   rintro e w ⟨h1, h3, h5, h7, h15, h16, h17, h31, h32, h33, h34, h30, hR⟩
   refine ⟨?_, ?_, trivial⟩
   ·skip
    refine WO.c rfl rfl (o_ext h30 rfl ?_)
    exact ⟨h1, h3, h5, h7, h15, h16, h17, h31, h32, h33, h34, h30, rfl, hR⟩
   skip
   refine WO.c rfl rfl (o_ext h30 rfl ?_)
   exact ⟨h1, h3, h5, h7, h15, h16, h17, h31, h32, h33, h34, h30, rfl, hR⟩
  ·-- state 18 of region 8
   rintro e w ⟨h1, h3, h5, h7, h15, h16, h17, h31, h33, h34, h30, h35, hR⟩
   refine ⟨?_, ?_, trivial⟩
   ·skip
    refine WO.c rfl rfl (Wf h5 ?_)
    exact ⟨h1, h3, h5, h7, h15, h16, h17, h31, rfl, h33, h34, h30, h35, hR⟩
   skip
   refine WO.c rfl rfl (o_ext h30 rfl ?_)
   exact ⟨h1, h3, h5, h7, h15, h16, h17, h31, h33, h34, h30, h35, rfl, hR⟩
  ·-- state 19 of region 8
   rintro e w ⟨h1, h3, h5, h7, h15, h16, h17, h31, h33, h34, h30, h36, hR⟩
   refine ⟨?_, ?_, trivial⟩
   ·skip
    refine WO.c rfl rfl (Wf h5 ?_)
    exact ⟨h1, h3, h5, h7, h15, h16, h17, h31, rfl, h33, h34, h30, h36, hR⟩
   skip
   refine WO.c rfl rfl (o_ext h30 rfl ?_)
   exact ⟨h1, h3, h5, h7, h15, h16, h17, h31, h33, h34, h30, rfl, h36, hR⟩
  ·-- state 20 of region 8
   rintro e w ⟨h1, h3, h5, h7, h15, h16, h17, h32, h33, h34, h30, h35, hR⟩
   refine ⟨?_, ?_, trivial⟩
   ·skip
    refine WO.c rfl rfl (Wk TI57 rfl h3 (Wh (hR.blk hC3s (fun h => h)) rfl) ?_)
    exact ⟨h1, h3, h5, h7, h15, h16, h17, rfl, h32, h33, h34, h30, h35, hR⟩
   skip
   refine WO.c rfl rfl (o_ext h30 rfl ?_)
   exact ⟨h1, h3, h5, h7, h15, h16, h17, h32, h33, h34, h30, h35, rfl, hR⟩
  ·-- state 21 of region 8
   rintro e w ⟨h1, h3, h5, h7, h15, h16, h17, h32, h33, h34, h30, h36, hR⟩
   refine ⟨?_, ?_, trivial⟩
   ·skip
    refine WO.c rfl rfl (Wk TI57 rfl h3 (Wh (hR.blk hC3s (fun h => h)) rfl) ?_)
    exact ⟨h1, h3, h5, h7, h15, h16, h17, rfl, h32, h33, h34, h30, h36, hR⟩
   skip
   refine WO.c rfl rfl (o_ext h30 rfl ?_)
   exact ⟨h1, h3, h5, h7, h15, h16, h17, h32, h33, h34, h30, rfl, h36, hR⟩
  ·-- state 22 of region 8
   rintro e w ⟨h1, h3, h5, h7, h15, h16, h17, h33, h34, h30, h35, h36, hR⟩
   refine ⟨?_, ?_, trivial⟩
   ·skip
    refine WO.c rfl rfl (Wk TI57 rfl h3 (Wh (hR.blk hC3s (fun h => h)) rfl) ?_)
    exact ⟨h1, h3, h5, h7, h15, h16, h17, rfl, h33, h34, h30, h35, h36, hR⟩
   skip
   refine WO.c rfl rfl (Wf h5 ?_)
   exact ⟨h1, h3, h5, h7, h15, h16, h17, rfl, h33, h34, h30, h35, h36, hR⟩
  ·-- state 23 of region 8
   rintro e w ⟨h1, h3, h5, h7, h15, h16, h17, h31, h32, h33, h34, h30, h35, hR⟩
   refine ⟨?_, ?_, trivial⟩
   ·skip
    refine WO.c rfl rfl (o_ext h30 rfl ?_)
    exact ⟨h1, h3, h5, h7, h15, h16, h17, h31, h32, h33, h34, h30, h35, rfl, hR⟩
   skip
   refine WO.c rfl rfl (Wt (i := i) TI57 TI3 h31 h32 (by omega) ?_)
   exact ⟨h1, h3, h5, h7, h15, h16, h17, h31, h32, h33, h34, h30, h35, rfl, hR⟩
  ·-- state 24 of region 8
   rintro e w ⟨h1, h3, h5, h7, h15, h16, h17, h31, h32, h33, h34, h30, h36, hR⟩
   refine ⟨?_, trivial⟩
   skip
   refine WO.c rfl rfl (o_ext h30 rfl ?_)
   exact ⟨h1, h3, h5, h7, h15, h16, h17, h31, h32, h33, h34, h30, rfl, h36, hR⟩
  ·-- state 25 of region 8
   rintro e w ⟨h1, h3, h5, h7, h15, h16, h17, h31, h33, h34, h30, h35, h36, hR⟩
   refine ⟨?_, trivial⟩
   skip
   refine WO.c rfl rfl (Wf h5 ?_)
   exact ⟨h1, h3, h5, h7, h15, h16, h17, h31, rfl, h33, h34, h30, h35, h36, hR⟩
  ·-- state 26 of region 8
   rintro e w ⟨h1, h3, h5, h7, h15, h16, h17, h32, h33, h34, h30, h35, h36, hR⟩
   refine ⟨?_, trivial⟩
   skip
   refine WO.c rfl rfl (Wk TI57 rfl h3 (Wh (hR.blk hC3s (fun h => h)) rfl) ?_)
   exact ⟨h1, h3, h5, h7, h15, h16, h17, rfl, h32, h33, h34, h30, h35, h36, hR⟩
  ·-- state 27 of region 8
   rintro e w ⟨h1, h3, h5, h7, h15, h16, h17, h31, h32, h33, h34, h30, h35, h36, hR⟩
   refine ⟨?_, trivial⟩
   skip
   refine WO.c rfl rfl (Wt (i := i) TI57 TI3 h31 h32 (by omega) ?_)
   exact ⟨h1, h3, h5, h7, h15, h16, h17, h31, h32, h33, h34, h30, h35, h36, rfl, hR⟩
  ·-- state 28 of region 8
   rintro e w ⟨h1, h3, h5, h7, h15, h16, h17, h31, h32, h33, h34, h30, h35, h37, hR⟩
   refine ⟨?_, ?_, trivial⟩
   ·skip
    refine WO.c rfl rfl (o_ext h30 rfl ?_)
    exact ⟨h1, h3, h5, h7, h15, h16, h17, h31, h32, h33, h34, h30, h35, rfl, h37, hR⟩
   skip
   refine WO.u rfl (o_stRj TI3 h37 (show 0 + i * 1 = i by omega) h35 rfl (htv ▸ Wr hrv hR) (show Value.ownBlock (Value.slice (some ⟨tb, 0, none⟩) D.length tc) = some tb from rfl) (by omega) ?_)
   intro w49 hrt49 ho49 hs49
   have hlo : ∀ b, ov.ownBlock = some b → BB ≤ b := fun b hb => (hrv.lt b hb).1
   rw [← htv] at hrt49 ho49
   replace hrv := Wr hrv hR
   replace hro := Wr hro hR
   replace hC3 := ho49.blk (hR.blk hC3 (fun h => h)) (fun hb => own_off hrv (hR.blk hC3 (fun h => h)) (by decide) hb)
   replace hC1 := ho49.blk (hR.blk hC1 (fun h => h)) (fun hb => own_off hrv (hR.blk hC1 (fun h => h)) (by decide) hb)
   replace hro := own_only hro ho49 (fun b hb he => by have h1 := hvb b he; have h2 := (hro.lt b hb).1; omega)
   replace hx := (hx.tr hR).trans' ho49 (fun _ h => h) (fun b hb he => by have := hlo b he; omega)
   rw [dps_set] at hrt49
   have hE := And.intro hro (And.intro hrt49 (And.intro hC1 (And.intro hC3 (And.intro (hB00.ext hx) hx))))
   exact ⟨h1, h3, h5, h7, h15, h16, h17, h31, h32, h33, h34, h30, h35, h37, hE⟩
  ·-- state 29 of region 8
   rintro e w ⟨h1, h3, h5, h7, h15, h16, h17, h31, h32, h33, h34, h30, h35, h36, h37, hR⟩
   refine ⟨?_, trivial⟩
   skip
   refine WO.u rfl (o_stRj TI3 h37 (show 0 + i * 1 = i by omega) h35 rfl (htv ▸ Wr hrv hR) (show Value.ownBlock (Value.slice (some ⟨tb, 0, none⟩) D.length tc) = some tb from rfl) (by omega) ?_)
   intro w49 hrt49 ho49 hs49
   have hlo : ∀ b, ov.ownBlock = some b → BB ≤ b := fun b hb => (hrv.lt b hb).1
   rw [← htv] at hrt49 ho49
   replace hrv := Wr hrv hR
   replace hro := Wr hro hR
   replace hC3 := ho49.blk (hR.blk hC3 (fun h => h)) (fun hb => own_off hrv (hR.blk hC3 (fun h => h)) (by decide) hb)
   replace hC1 := ho49.blk (hR.blk hC1 (fun h => h)) (fun hb => own_off hrv (hR.blk hC1 (fun h => h)) (by decide) hb)
   replace hro := own_only hro ho49 (fun b hb he => by have h1 := hvb b he; have h2 := (hro.lt b hb).1; omega)
   replace hx := (hx.tr hR).trans' ho49 (fun _ h => h) (fun b hb he => by have := hlo b he; omega)
   rw [dps_set] at hrt49
   have hE := And.intro hro (And.intro hrt49 (And.intro hC1 (And.intro hC3 (And.intro (hB00.ext hx) hx))))
   exact ⟨h1, h3, h5, h7, h15, h16, h17, h31, h32, h33, h34, h30, h35, h36, h37, hE⟩
  ·-- state 30 of region 8
   rintro e w ⟨h1, h3, h5, h7, h15, h16, h17, h31, h32, h33, h34, h30, h35, h37, hE⟩
   refine ⟨?_, trivial⟩
   skip
   refine WO.c rfl rfl (o_ext h30 rfl ?_)
   exact ⟨h1, h3, h5, h7, h15, h16, h17, h31, h32, h33, h34, h30, h35, rfl, h37, hE⟩
  -- state 31 of region 8
  rintro e w ⟨h1, h3, h5, h7, h15, h16, h17, h31, h32, h33, h34, h30, h35, h36, h37, hE⟩
  obtain ⟨hro, hrv, hC1, hC3, hB, hx⟩ := hE
  rw [hie, hdp] at hrv
  clear hie hdp
  refine Wb (Wa rfl (o_addi h17 rfl (by omega) (Wa rfl (Wf vI (Wc (⟨⟨k + 1, by omega, h1, h3, h15.trans hV15.symm, h16, rfl, hro, by rw [depO_take hk1]; exact hrv, hC1, hC3, hB, hx⟩, ?_⟩))))))
  show (ordN D).length - ((k : Int) + 1).toNat < _
  rw [hm17]; simp [intOf]; omega
 try simp only [cs8] at c18
 have hk1 : k = (ordN D).length := by omega
 rw [hk1, List.take_length] at hrv
 refine W.exit (We (Wb (Wa rfl (Wk TI57 rfl h3 (Wh hC3 rfl) (Wa rfl (Wg (by first | exact vS | exact rfl) (Wc (Wm (Wu rfl rfl ?_)))))))))
 exact ⟨hrv, hx⟩
end Go.Proofs.YtpbflfgigfdohaaDoor

namespace Go.Proofs.YtpbflfgigfdohaaDoor
open Go Go.Vc Go.RowKit Go.Proofs

theorem dupK_step {kind : Int} {t : Tr} {ts : Trs} {next : Nat} {seen : List Ex} (q : Int) : (∃ p ∈ dupK kind (.cons t ts) next seen, q = (p : Int)) ↔ ((dupB kind seen t.top = true ∧ q = (next : Int)) ∨ (∃ p ∈ dupT t next, q = (p : Int)) ∨ ∃ p ∈ dupK kind ts (next + t.flat.length) (seen ++ [t.top]), q = (p : Int)) := by
 rw [dupK]
 constructor
 ·rintro ⟨p, hp, hq⟩
  rcases List.mem_append.1 hp with hp | hp
  ·split at hp
   ·rename_i hd
    rw [List.mem_singleton.1 hp] at hq
    exact .inl ⟨hd, hq⟩
   cases hp
  rcases List.mem_append.1 hp with hp | hp
  ·exact .inr (.inl ⟨p, hp, hq⟩)
  exact .inr (.inr ⟨p, hp, hq⟩)
 rintro (⟨hd, hq⟩ | ⟨p, hp, hq⟩ | ⟨p, hp, hq⟩)
 ·exact ⟨next, by rw [if_pos hd]; simp, hq⟩
 ·exact ⟨p, List.mem_append_right _ (List.mem_append_left _ hp), hq⟩
 exact ⟨p, List.mem_append_right _ (List.mem_append_right _ hp), hq⟩
theorem Sl.exw {w : World} {b o c : Nat} {ts : List Ex} (h : Sl w 7 (.slice (some ⟨b, o, none⟩) ts.length c) ts.length (exs ts)) {k : Nat} (hk : k < ts.length) : Cells w b (o + k * 7) (exV ts[k]) := by
 obtain ⟨b', o', c', he, hc⟩ := Sl.exq h hk
 simp only [Value.slice.injEq, Option.some.injEq, Addr.mk.injEq] at he
 obtain ⟨⟨rfl, rfl, -⟩, -, -⟩ := he
 exact hc
theorem map_cell_ne {α : Type} {kt et : TypeId} {en : α → Lit} {w : World} {b n : Nat} {g : α → Option Int} {c o : Nat} {v : Value} (hM : MapIs Tryd.prog kt et en w b n g) (hc : w.cell? ⟨c, o, none⟩ = some v) : c ≠ b := by
 obtain ⟨Dm, ⟨es, clock, hb, -⟩, -⟩ := hM
 intro e
 subst e
 unfold World.cell? at hc
 simp [hb] at hc
theorem map_blk_ne {α : Type} {kt et : TypeId} {en : α → Lit} {w : World} {b n : Nat} {g : α → Option Int} {c : Nat} {cs : Array Value} {T : TypeId} {fr : Nat × Nat} (hM : MapIs Tryd.prog kt et en w b n g) (hc : w.heap[c]? = some (.cells cs T fr)) : c ≠ b := by
 obtain ⟨Dm, ⟨es, clock, hb, -⟩, -⟩ := hM
 intro e
 rw [e, hb] at hc
 cases hc
theorem Trs.split {ts : Trs} {n k : Nat} (h : n = k + ts.len) (hk : k < n) : ∃ t t2, ts = .cons t t2 := by
 cases ts with
 | nil => simp [Trs.len] at h; omega
 | cons a b => exact ⟨a, b, rfl⟩
theorem Trs.none {ts : Trs} {n k : Nat} (h : n = k + ts.len) (hk : k = n) : ts = .nil := by
 cases ts with
 | nil => rfl
 | cons a b => simp [Trs.len] at h; omega

set_option maxHeartbeats 4000000 in
theorem twice_step (y : Ex) (ks : Trs) (IH : ∀ t : Tr, t.flat.length < (Tr.node y ks).flat.length → STw t) (L rest : List Ex) (v : Value) (at_ mb n : Nat) (g : Int → Option Int) (a : Int) (d : Nat) (w0 : World) (hw : (Tr.node y ks).wf a d) (hL : L.drop at_ = (Tr.node y ks).flat ++ rest) (hS : Sl w0 7 v L.length (exs L)) (hLl : L.length * 72 ≤ 140737488351232) (hMM : MapIs Tryd.prog 3 3 enI w0 mb n g) (hnl : n + (Tr.node y ks).flat.length ≤ 4611686018427387904) : Ca Tryd.prog 71 #[v, .int .i64 (at_ : Int), .map (some mb)] w0 (fun u w' => u = .int .i64 ((at_ + (Tr.node y ks).flat.length : Nat) : Int) ∧ (∃ g' n', n' + 1 ≤ n + (Tr.node y ks).flat.length ∧ MapIs Tryd.prog 3 3 enI w' mb n' g' ∧ ∀ q, (g' q).isSome = true ↔ ((g q).isSome = true ∨ ∃ p ∈ dupT (Tr.node y ks) at_, q = (p : Int))) ∧ Only (fun k => k = mb) w0 w') := by
 have hx : Only (fun k => k = mb) w0 w0 := Only.refl _ _
 obtain ⟨hat, hya, hL1⟩ := drop_at (show L.drop at_ = y :: (ks.flat ++ rest) from hL)
 obtain ⟨ub, uo, uc, rfl, huc⟩ := Sl.exq hS hat
 rw [hya] at huc
 have hum : ub ≠ mb := map_cell_ne hMM (huc 0 _ rfl)
 have hkk : y.kids = (ks.len : Int) := hw.2.2.2.1.symm
 have hksl : ks.flat.length ≤ L.length := by have h1 := congrArg List.length hL1; simp at h1; omega
 have hlk := trs_len_le ks
 have hub : ub < w0.heap.size := by
  have := huc 0 _ rfl
  exact cell_lt this
 have hmb : mb < w0.heap.size := hMM.lt
 have hfl : (Tr.node y ks).flat.length = ks.flat.length + 1 := rfl
 rw [hfl] at hnl
 refine Ca.of Tryd.func71 Tryd.ntmps71 rfl rfl (We (Wb (Wa rfl (Wg vI (Wc (We (Wb (Wa rfl (Wf vI (Wa rfl (o_addi rfl rfl (by omega) (Wa rfl (Wg vI (Wc (We (Wb (Wa rfl (o_mkM ?_))))))))))))))))))
 have hML := MapIs.made Tryd.prog 9 3 enS w0
 have hxm : Ext w0 (w0.alloc (.map #[] 0)) := Only.alloc w0 _
 obtain ⟨lb, hlb⟩ : ∃ b, b = w0.heap.size := ⟨_, rfl⟩
 rw [← hlb] at hML ⊢
 have hlb2 : lb < (w0.alloc (.map #[] 0)).heap.size := hML.lt
 generalize w0.alloc (.map #[] 0) = wm at hML hxm hlb2 ⊢
 replace hx := hx.trans (hxm.mono (fun _ _ h => h.elim))
 replace hS := hS.ext hxm
 replace hMM := hMM.ext hxm
 refine Wa rfl (o_mkM ?_)
 have hMT := MapIs.made Tryd.prog 3 3 enI wm
 have hxm2 : Ext wm (wm.alloc (.map #[] 0)) := Only.alloc wm _
 obtain ⟨tb, htb⟩ : ∃ b, b = wm.heap.size := ⟨_, rfl⟩
 rw [← htb] at hMT ⊢
 generalize wm.alloc (.map #[] 0) = wn at hMT hxm2 ⊢
 replace hx := hx.trans (hxm2.mono (fun _ _ h => h.elim))
 replace hS := hS.ext hxm2
 replace hMM := hMM.ext hxm2
 replace hML := hML.ext hxm2
 have hul : ub ≠ lb := by omega
 have hut : ub ≠ tb := by omega
 have hlm : ¬ lb = mb := by omega
 have htm : ¬ tb = mb := by omega
 have hml : ¬ mb = lb := by omega
 have hmt : ¬ mb = tb := by omega
 have hlt : ¬ lb = tb := by omega
 have hlw : w0.heap.size ≤ lb := by omega
 have htw : w0.heap.size ≤ tb := by omega
 have huc := Sl.exw hS hat
 rw [hya] at huc
 clear hxm hxm2
 refine Wa rfl (Wo (Wa rfl (Wo (Wc (We (We (Wb (Wa rfl (Wf (by first | exact vS | exact rfl) (Wa rfl (Wf vI (Wa rfl (Wt TI36 TI40 rfl rfl (by omega) (Wa rfl (Wl 5 TI40 rfl TI3 rfl rfl (Wa rfl (Wk TI3 rfl rfl (huc 5 _ rfl) (Wa rfl (Wf vI (Wc (W.block (W.loop (fun e w => ∃ (k next nl nt nm : Nat) (ts : Trs) (seen : List Ex) (gl : List UInt8 → Option Int) (gt gm : Int → Option Int), ks.len = k + ts.len ∧ e 0 = (Value.slice (some ⟨ub, uo, none⟩) L.length uc) ∧ e 1 = .int .i64 (at_ : Int) ∧ e 2 = .map (some mb) ∧ e 7 = .int .i64 (next : Int) ∧ e 8 = .map (some lb) ∧ e 9 = .map (some tb) ∧ e 24 = .int .i64 (ks.len : Int) ∧ e 25 = .int .i64 (k : Int) ∧ Sl w 7 (Value.slice (some ⟨ub, uo, none⟩) L.length uc) L.length (exs L) ∧ MapIs Tryd.prog 9 3 enS w lb nl gl ∧ MapIs Tryd.prog 3 3 enI w tb nt gt ∧ MapIs Tryd.prog 3 3 enI w mb nm gm ∧ nl ≤ k ∧ nt ≤ k ∧ nm + ts.flat.length ≤ n + ks.flat.length ∧ ts.wf y.kind (d + 1) ∧ L.drop next = ts.flat ++ rest ∧ next + ts.flat.length = at_ + 1 + ks.flat.length ∧ ts.flat.length ≤ ks.flat.length ∧ (y.kind = 8 → ∀ s, (gl s).isSome = seen.any (fun z => decide (z.label = s))) ∧ (y.kind = 7 → ∀ q, (gt q).isSome = seen.any (fun z => decide (z.tag = q))) ∧ (∀ q : Int, ((gm q).isSome = true ∨ ∃ p ∈ dupK y.kind ts next seen, q = (p : Int)) ↔ ((g q).isSome = true ∨ ∃ p ∈ dupK y.kind ks (at_ + 1) [], q = (p : Int))) ∧ Only (fun k => k = mb) w0 w) (fun e w => ks.len - (intOf (e 25)).toNat) ?_ ?_))))))))))))))))))))))
 ·exact ⟨0, at_ + 1, 0, 0, n, ks, [], fun _ => none, fun _ => none, g, by omega, rfl, rfl, rfl, rfl, rfl, rfl, congrArg (Value.int .i64) hkk, rfl, hS, hML, hMT, hMM, Nat.le_refl _, Nat.le_refl _, Nat.le_refl _, hw.2.2.2.2, hL1, rfl, Nat.le_refl _, fun _ _ => rfl, fun _ _ => rfl, fun _ => Iff.rfl, hx⟩
 rintro e w ⟨k, next, nl, nt, nm, ts, seen, gl, gt, gm, hks, h0, h1, h2, h7, h8, h9, h24, h25, hS, hML, hMT, hMM, hnlk, hntk, hnmk, hwt, hLn, hnx, htl, hlab, htag, hiff, hx⟩
 have hm25 := h25
 have huc := Sl.exw hS hat
 rw [hya] at huc
 refine We (Wb (Wa rfl (o_lt h25 h24 (Wc (We (Wn rfl (fun c26 => ?_) (fun c26 => ?_)))))))
 ·try simp only [cs8] at c26
  have hk1 : k < ks.len := by omega
  obtain ⟨t, ts2, rfl⟩ := Trs.split hks hk1
  simp only [Trs.len] at hks
  have hfl2 : (Trs.cons t ts2).flat.length = t.flat.length + ts2.flat.length := by simp [Trs.flat]
  have htp := tr_pos t
  rw [hfl2] at hnx htl hnmk
  have hdr : L.drop next = t.flat ++ (ts2.flat ++ rest) := by rw [hLn]; simp [Trs.flat]
  have hdr2 : L.drop (next + t.flat.length) = ts2.flat ++ rest := by rw [← List.drop_drop, hdr, List.drop_left]
  obtain ⟨r, hr⟩ := top_flat t
  obtain ⟨hnl1, hxe, -⟩ := drop_at (show L.drop next = t.top :: (r ++ (ts2.flat ++ rest)) by rw [hdr, hr]; rfl)
  have huc2 := Sl.exw hS hnl1
  rw [hxe] at huc2
  obtain ⟨hlb32, htg0, htg1⟩ := top_bounds hwt.1
  refine Wp (We (W.block (We (Wb (Wa rfl (Wf h25 (Wa rfl (Wg vI (Wc (We (Wb (Wa rfl (Wf h0 (Wa rfl (Wf h7 (Wa rfl (Wt TI36 TI40 rfl rfl (by omega) (Wa rfl (o_ldA TI40 rfl rfl huc2 rfl (Wa rfl (o_alB TI40 ?_)))))))))))))))))))))
  intro wa hCa hxa hsa
  refine WL.u (o_stA TI40 rfl (show _ = Value.agg (exV t.top).toArray from rfl) rfl rfl hCa rfl ?_)
  intro wb11 hC11 hob hsb
  have hxb := Ext.own hxa (Nat.le_refl _) hob
  obtain ⟨b11, hb11⟩ : ∃ b, b = w.heap.size := ⟨_, rfl⟩
  rw [← hb11] at hC11 ⊢
  clear hCa hxa hsa hob hsb
  replace hx := hx.trans (hxb.mono (fun _ _ h => h.elim))
  replace hS := hS.ext hxb
  replace hML := hML.ext hxb
  replace hMT := hMT.ext hxb
  replace hMM := hMM.ext hxb
  clear hxb
  refine Wc (We (We (Wb (Wa rfl (Wf h0 (Wa rfl (Wf h1 (Wa rfl (Wt TI36 TI40 rfl rfl (by omega) (Wa rfl (Wl 0 TI40 rfl TI3 rfl rfl (Wa rfl (Wk TI3 rfl rfl (Sl.exw hS hat 0 _ (by rw [hya]; rfl)) (Wc (W.block (We (Wb (Wa rfl (o_eq rfl rfl (Wa rfl (Wg vB (Wc (Wn rfl (fun c37 => ?_) (fun c37 => ?_))))))))))))))))))))))))
  ·try simp only [cs8] at c37
   have hk8 : y.kind = 8 := by simpa using c37
   refine We (We (Wb (Wa rfl (Wf h8 (Wa rfl (Wl 3 TI40 rfl TI9 rfl rfl (Wa rfl (Wk TI9 rfl rfl (Wh hC11 rfl) (Wa rfl (o_lkO MT90 rfl hML rfl (keyS Tryd.underlying9 (by rw [maxLen_eq]; omega)) (Wa rfl (Wf (by first | exact (show _ = Value.tuple _ from rfl) | exact rfl) (Wa rfl (o_ext rfl rfl (Wa rfl (o_ext rfl rfl (Wa rfl (Wg vI (Wa rfl (Wg vB (Wc (We (Wb (Wa rfl (Wf vB (Wc (Wn rfl (fun c46 => ?_) (fun c46 => ?_))))))))))))))))))))))))))))
   ·try simp only [cs8] at c46
    have hdup : dupB y.kind seen t.top = true := by unfold dupB; rw [if_pos hk8, ← hlab hk8]; exact c46
    refine Wb (Wa rfl (Wf h2 (Wa rfl (Wf h7 (Wa rfl (Wf vI (WL.u (o_mu enI_inj MT140 rfl hMM rfl (keyI Tryd.underlying3 (by omega)) rfl (wf_i64 (by omega)) (by rw [maxLen_eq]; omega) ?_))))))))
    intro wq hMq hoq hsq
    replace hS := hS.only hoq (fun b hb he => by
     have h1 : ub = b := by simpa [Value.ownBlock] using hb
     exact hum (h1.trans he))
    replace hML := hML.only hoq hlm
    replace hMT := hMT.only hoq htm
    replace hC11 := hoq.blk hC11 (map_blk_ne hMM hC11)
    replace hx := hx.trans hoq
    obtain ⟨gmN, hgN⟩ : ∃ f, f = (fun c => if c = (next : Int) then some (k : Int) else gm c) := ⟨_, rfl⟩
    rw [← hgN] at hMq
    have hnew : ∀ q, (gmN q).isSome = true ↔ ((gm q).isSome = true ∨ (dupB y.kind seen t.top = true ∧ q = (next : Int))) := fun q => by
     rw [hgN, hdup]
     by_cases hq : q = (next : Int) <;> simp [hq]
    clear hMM
    have hMM := hMq
    clear hMq hoq
    refine Wc (Wb (Wa rfl (Wf h8 (Wa rfl (Wl 3 TI40 rfl TI9 rfl rfl (Wa rfl (Wk TI9 rfl rfl (Wh hC11 rfl) (Wa rfl (Wf vI (WL.u (o_mu enS_inj MT90 rfl hML rfl (keyS Tryd.underlying9 (by rw [maxLen_eq]; omega)) rfl (wf_i64 (by omega)) (by rw [maxLen_eq]; omega) ?_)))))))))))
    intro wq hMq hoq hsq
    replace hS := hS.only hoq (fun b hb he => by
     have h1 : ub = b := by simpa [Value.ownBlock] using hb
     exact hul (h1.trans he))
    replace hMM := hMM.only hoq hml
    replace hMT := hMT.only hoq (fun h => hlt h.symm)
    replace hx := hx.trans' hoq (fun _ h => h) (fun b hb he => by omega)
    obtain ⟨glN, hgl⟩ : ∃ f, f = (fun c => if c = t.top.label then some (k : Int) else gl c) := ⟨_, rfl⟩
    rw [← hgl] at hMq
    clear hML
    have hML := hMq
    clear hMq
    have hlabN : y.kind = 8 → ∀ s, (glN s).isSome = (seen ++ [t.top]).any (fun z => decide (z.label = s)) := fun h s => by
     rw [hgl, List.any_append, ← hlab h s]
     by_cases hq : s = t.top.label
     ·simp [hq]
     have hq2 : ¬ t.top.label = s := fun h => hq h.symm
     simp [hq, hq2]
    obtain ⟨gtN, hgtN⟩ : ∃ f, f = gt := ⟨_, rfl⟩
    rw [← hgtN] at hMT
    replace hMT := hMT.mono (Nat.le_succ nt)
    have htagN : y.kind = 7 → ∀ q, (gtN q).isSome = (seen ++ [t.top]).any (fun z => decide (z.tag = q)) := fun h => by omega
    refine Wc (Wb (Wa rfl (Wf h0 (Wa rfl (Wf h7 (Wa rfl (Wf h2 (Wa rfl (o_call Tryd.call71 (lc rfl (lc rfl (lc rfl ln))) ((IH t (by rw [hfl]; omega) L (ts2.flat ++ rest) (Value.slice (some ⟨ub, uo, none⟩) L.length uc) next mb (nm + 1) gmN _ _ _ hwt.1 hdr hS hLl hMM (by omega)).mono ?_))))))))))
    rintro v74 w74 ⟨rfl, ⟨g18, n18, hn18, hM18, hg18⟩, ho18⟩
    replace hS := hS.only ho18 (fun b hb he => by
     have h1 : ub = b := by simpa [Value.ownBlock] using hb
     exact hum (h1.trans he))
    replace hML := hML.only ho18 hlm
    replace hMT := hMT.only ho18 htm
    replace hx := hx.trans ho18
    refine Wa rfl (Wg vI (Wc (Wb (Wa rfl (o_addi h25 rfl (by omega) (Wa rfl (Wf vI (Wc (⟨⟨k + 1, next + t.flat.length, _, _, n18, ts2, seen ++ [t.top], glN, gtN, g18, by omega, h0, h1, h2, rfl, h8, h9, h24, rfl, hS, hML, hMT, hM18, by omega, by omega, by omega, hwt.2, hdr2, by omega, by omega, hlabN, htagN, fun q => ?_, hx⟩, ?_⟩)))))))))
    ·rw [← hiff q, dupK_step, hg18 q, hnew q]
     simp only [or_assoc]
    show ks.len - ((k : Int) + 1).toNat < _
    rw [hm25]; simp [intOf]; omega
   try simp only [cs8] at c46
   have hdup : dupB y.kind seen t.top = false := by unfold dupB; rw [if_pos hk8, ← hlab hk8]; simpa using c46
   obtain ⟨gmN, hgN⟩ : ∃ f, f = gm := ⟨_, rfl⟩
   have hnew : ∀ q, (gmN q).isSome = true ↔ ((gm q).isSome = true ∨ (dupB y.kind seen t.top = true ∧ q = (next : Int))) := fun q => by
    rw [hgN, hdup]
    simp
   rw [← hgN] at hMM
   replace hMM := hMM.mono (Nat.le_succ nm)
   refine Wp (Wb (Wa rfl (Wf h8 (Wa rfl (Wl 3 TI40 rfl TI9 rfl rfl (Wa rfl (Wk TI9 rfl rfl (Wh hC11 rfl) (Wa rfl (Wf vI (WL.u (o_mu enS_inj MT90 rfl hML rfl (keyS Tryd.underlying9 (by rw [maxLen_eq]; omega)) rfl (wf_i64 (by omega)) (by rw [maxLen_eq]; omega) ?_)))))))))))
   intro wq hMq hoq hsq
   replace hS := hS.only hoq (fun b hb he => by
    have h1 : ub = b := by simpa [Value.ownBlock] using hb
    exact hul (h1.trans he))
   replace hMM := hMM.only hoq hml
   replace hMT := hMT.only hoq (fun h => hlt h.symm)
   replace hx := hx.trans' hoq (fun _ h => h) (fun b hb he => by omega)
   obtain ⟨glN, hgl⟩ : ∃ f, f = (fun c => if c = t.top.label then some (k : Int) else gl c) := ⟨_, rfl⟩
   rw [← hgl] at hMq
   clear hML
   have hML := hMq
   clear hMq
   have hlabN : y.kind = 8 → ∀ s, (glN s).isSome = (seen ++ [t.top]).any (fun z => decide (z.label = s)) := fun h s => by
    rw [hgl, List.any_append, ← hlab h s]
    by_cases hq : s = t.top.label
    ·simp [hq]
    have hq2 : ¬ t.top.label = s := fun h => hq h.symm
    simp [hq, hq2]
   obtain ⟨gtN, hgtN⟩ : ∃ f, f = gt := ⟨_, rfl⟩
   rw [← hgtN] at hMT
   replace hMT := hMT.mono (Nat.le_succ nt)
   have htagN : y.kind = 7 → ∀ q, (gtN q).isSome = (seen ++ [t.top]).any (fun z => decide (z.tag = q)) := fun h => by omega
   refine Wc (Wb (Wa rfl (Wf h0 (Wa rfl (Wf h7 (Wa rfl (Wf h2 (Wa rfl (o_call Tryd.call71 (lc rfl (lc rfl (lc rfl ln))) ((IH t (by rw [hfl]; omega) L (ts2.flat ++ rest) (Value.slice (some ⟨ub, uo, none⟩) L.length uc) next mb (nm + 1) gmN _ _ _ hwt.1 hdr hS hLl hMM (by omega)).mono ?_))))))))))
   rintro v74 w74 ⟨rfl, ⟨g18, n18, hn18, hM18, hg18⟩, ho18⟩
   replace hS := hS.only ho18 (fun b hb he => by
    have h1 : ub = b := by simpa [Value.ownBlock] using hb
    exact hum (h1.trans he))
   replace hML := hML.only ho18 hlm
   replace hMT := hMT.only ho18 htm
   replace hx := hx.trans ho18
   refine Wa rfl (Wg vI (Wc (Wb (Wa rfl (o_addi h25 rfl (by omega) (Wa rfl (Wf vI (Wc (⟨⟨k + 1, next + t.flat.length, _, _, n18, ts2, seen ++ [t.top], glN, gtN, g18, by omega, h0, h1, h2, rfl, h8, h9, h24, rfl, hS, hML, hMT, hM18, by omega, by omega, by omega, hwt.2, hdr2, by omega, by omega, hlabN, htagN, fun q => ?_, hx⟩, ?_⟩)))))))))
   ·rw [← hiff q, dupK_step, hg18 q, hnew q]
    simp only [or_assoc]
   show ks.len - ((k : Int) + 1).toNat < _
   rw [hm25]; simp [intOf]; omega
  try simp only [cs8] at c37
  have hk8 : ¬ y.kind = 8 := by simpa using c37
  refine We (Wb (Wa rfl (o_eq rfl rfl (Wa rfl (Wg vB (Wc (Wn rfl (fun c54 => ?_) (fun c54 => ?_))))))))
  ·try simp only [cs8] at c54
   have hk7 : y.kind = 7 := by simpa using c54
   refine We (We (Wb (Wa rfl (Wf h9 (Wa rfl (Wl 4 TI40 rfl TI3 rfl rfl (Wa rfl (Wk TI3 rfl rfl (Wh hC11 rfl) (Wa rfl (o_lkO MT140 rfl hMT rfl (keyI Tryd.underlying3 (by omega)) (Wa rfl (Wf (by first | exact (show _ = Value.tuple _ from rfl) | exact rfl) (Wa rfl (o_ext rfl rfl (Wa rfl (o_ext rfl rfl (Wa rfl (Wg vI (Wa rfl (Wg vB (Wc (We (Wb (Wa rfl (Wf vB (Wc (Wn rfl (fun c63 => ?_) (fun c63 => ?_))))))))))))))))))))))))))))
   ·try simp only [cs8] at c63
    have hdup : dupB y.kind seen t.top = true := by unfold dupB; rw [if_neg hk8, if_pos hk7, ← htag hk7]; exact c63
    refine Wb (Wa rfl (Wf h2 (Wa rfl (Wf h7 (Wa rfl (Wf vI (WL.u (o_mu enI_inj MT140 rfl hMM rfl (keyI Tryd.underlying3 (by omega)) rfl (wf_i64 (by omega)) (by rw [maxLen_eq]; omega) ?_))))))))
    intro wq hMq hoq hsq
    replace hS := hS.only hoq (fun b hb he => by
     have h1 : ub = b := by simpa [Value.ownBlock] using hb
     exact hum (h1.trans he))
    replace hML := hML.only hoq hlm
    replace hMT := hMT.only hoq htm
    replace hC11 := hoq.blk hC11 (map_blk_ne hMM hC11)
    replace hx := hx.trans hoq
    obtain ⟨gmN, hgN⟩ : ∃ f, f = (fun c => if c = (next : Int) then some (k : Int) else gm c) := ⟨_, rfl⟩
    rw [← hgN] at hMq
    have hnew : ∀ q, (gmN q).isSome = true ↔ ((gm q).isSome = true ∨ (dupB y.kind seen t.top = true ∧ q = (next : Int))) := fun q => by
     rw [hgN, hdup]
     by_cases hq : q = (next : Int) <;> simp [hq]
    clear hMM
    have hMM := hMq
    clear hMq hoq
    refine Wc (Wb (Wa rfl (Wf h9 (Wa rfl (Wl 4 TI40 rfl TI3 rfl rfl (Wa rfl (Wk TI3 rfl rfl (Wh hC11 rfl) (Wa rfl (Wf vI (WL.u (o_mu enI_inj MT140 rfl hMT rfl (keyI Tryd.underlying3 (by omega)) rfl (wf_i64 (by omega)) (by rw [maxLen_eq]; omega) ?_)))))))))))
    intro wq hMq hoq hsq
    replace hS := hS.only hoq (fun b hb he => by
     have h1 : ub = b := by simpa [Value.ownBlock] using hb
     exact hut (h1.trans he))
    replace hMM := hMM.only hoq hmt
    replace hML := hML.only hoq hlt
    replace hx := hx.trans' hoq (fun _ h => h) (fun b hb he => by omega)
    obtain ⟨gtN, hgt⟩ : ∃ f, f = (fun c => if c = t.top.tag then some (k : Int) else gt c) := ⟨_, rfl⟩
    rw [← hgt] at hMq
    clear hMT
    have hMT := hMq
    clear hMq
    have htagN : y.kind = 7 → ∀ q, (gtN q).isSome = (seen ++ [t.top]).any (fun z => decide (z.tag = q)) := fun h q => by
     rw [hgt, List.any_append, ← htag h q]
     by_cases hq : q = t.top.tag
     ·simp [hq]
     have hq2 : ¬ t.top.tag = q := fun h => hq h.symm
     simp [hq, hq2]
    obtain ⟨glN, hglN⟩ : ∃ f, f = gl := ⟨_, rfl⟩
    rw [← hglN] at hML
    replace hML := hML.mono (Nat.le_succ nl)
    have hlabN : y.kind = 8 → ∀ s, (glN s).isSome = (seen ++ [t.top]).any (fun z => decide (z.label = s)) := fun h => absurd h hk8
    refine Wc (Wb (Wa rfl (Wf h0 (Wa rfl (Wf h7 (Wa rfl (Wf h2 (Wa rfl (o_call Tryd.call71 (lc rfl (lc rfl (lc rfl ln))) ((IH t (by rw [hfl]; omega) L (ts2.flat ++ rest) (Value.slice (some ⟨ub, uo, none⟩) L.length uc) next mb (nm + 1) gmN _ _ _ hwt.1 hdr hS hLl hMM (by omega)).mono ?_))))))))))
    rintro v74 w74 ⟨rfl, ⟨g18, n18, hn18, hM18, hg18⟩, ho18⟩
    replace hS := hS.only ho18 (fun b hb he => by
     have h1 : ub = b := by simpa [Value.ownBlock] using hb
     exact hum (h1.trans he))
    replace hML := hML.only ho18 hlm
    replace hMT := hMT.only ho18 htm
    replace hx := hx.trans ho18
    refine Wa rfl (Wg vI (Wc (Wb (Wa rfl (o_addi h25 rfl (by omega) (Wa rfl (Wf vI (Wc (⟨⟨k + 1, next + t.flat.length, _, _, n18, ts2, seen ++ [t.top], glN, gtN, g18, by omega, h0, h1, h2, rfl, h8, h9, h24, rfl, hS, hML, hMT, hM18, by omega, by omega, by omega, hwt.2, hdr2, by omega, by omega, hlabN, htagN, fun q => ?_, hx⟩, ?_⟩)))))))))
    ·rw [← hiff q, dupK_step, hg18 q, hnew q]
     simp only [or_assoc]
    show ks.len - ((k : Int) + 1).toNat < _
    rw [hm25]; simp [intOf]; omega
   try simp only [cs8] at c63
   have hdup : dupB y.kind seen t.top = false := by unfold dupB; rw [if_neg hk8, if_pos hk7, ← htag hk7]; simpa using c63
   obtain ⟨gmN, hgN⟩ : ∃ f, f = gm := ⟨_, rfl⟩
   have hnew : ∀ q, (gmN q).isSome = true ↔ ((gm q).isSome = true ∨ (dupB y.kind seen t.top = true ∧ q = (next : Int))) := fun q => by
    rw [hgN, hdup]
    simp
   rw [← hgN] at hMM
   replace hMM := hMM.mono (Nat.le_succ nm)
   refine Wp (Wb (Wa rfl (Wf h9 (Wa rfl (Wl 4 TI40 rfl TI3 rfl rfl (Wa rfl (Wk TI3 rfl rfl (Wh hC11 rfl) (Wa rfl (Wf vI (WL.u (o_mu enI_inj MT140 rfl hMT rfl (keyI Tryd.underlying3 (by omega)) rfl (wf_i64 (by omega)) (by rw [maxLen_eq]; omega) ?_)))))))))))
   intro wq hMq hoq hsq
   replace hS := hS.only hoq (fun b hb he => by
    have h1 : ub = b := by simpa [Value.ownBlock] using hb
    exact hut (h1.trans he))
   replace hMM := hMM.only hoq hmt
   replace hML := hML.only hoq hlt
   replace hx := hx.trans' hoq (fun _ h => h) (fun b hb he => by omega)
   obtain ⟨gtN, hgt⟩ : ∃ f, f = (fun c => if c = t.top.tag then some (k : Int) else gt c) := ⟨_, rfl⟩
   rw [← hgt] at hMq
   clear hMT
   have hMT := hMq
   clear hMq
   have htagN : y.kind = 7 → ∀ q, (gtN q).isSome = (seen ++ [t.top]).any (fun z => decide (z.tag = q)) := fun h q => by
    rw [hgt, List.any_append, ← htag h q]
    by_cases hq : q = t.top.tag
    ·simp [hq]
    have hq2 : ¬ t.top.tag = q := fun h => hq h.symm
    simp [hq, hq2]
   obtain ⟨glN, hglN⟩ : ∃ f, f = gl := ⟨_, rfl⟩
   rw [← hglN] at hML
   replace hML := hML.mono (Nat.le_succ nl)
   have hlabN : y.kind = 8 → ∀ s, (glN s).isSome = (seen ++ [t.top]).any (fun z => decide (z.label = s)) := fun h => absurd h hk8
   refine Wc (Wb (Wa rfl (Wf h0 (Wa rfl (Wf h7 (Wa rfl (Wf h2 (Wa rfl (o_call Tryd.call71 (lc rfl (lc rfl (lc rfl ln))) ((IH t (by rw [hfl]; omega) L (ts2.flat ++ rest) (Value.slice (some ⟨ub, uo, none⟩) L.length uc) next mb (nm + 1) gmN _ _ _ hwt.1 hdr hS hLl hMM (by omega)).mono ?_))))))))))
   rintro v74 w74 ⟨rfl, ⟨g18, n18, hn18, hM18, hg18⟩, ho18⟩
   replace hS := hS.only ho18 (fun b hb he => by
    have h1 : ub = b := by simpa [Value.ownBlock] using hb
    exact hum (h1.trans he))
   replace hML := hML.only ho18 hlm
   replace hMT := hMT.only ho18 htm
   replace hx := hx.trans ho18
   refine Wa rfl (Wg vI (Wc (Wb (Wa rfl (o_addi h25 rfl (by omega) (Wa rfl (Wf vI (Wc (⟨⟨k + 1, next + t.flat.length, _, _, n18, ts2, seen ++ [t.top], glN, gtN, g18, by omega, h0, h1, h2, rfl, h8, h9, h24, rfl, hS, hML, hMT, hM18, by omega, by omega, by omega, hwt.2, hdr2, by omega, by omega, hlabN, htagN, fun q => ?_, hx⟩, ?_⟩)))))))))
   ·rw [← hiff q, dupK_step, hg18 q, hnew q]
    simp only [or_assoc]
   show ks.len - ((k : Int) + 1).toNat < _
   rw [hm25]; simp [intOf]; omega
  try simp only [cs8] at c54
  have hk7 : ¬ y.kind = 7 := by simpa using c54
  have hdup : dupB y.kind seen t.top = false := by unfold dupB; rw [if_neg hk8, if_neg hk7]
  obtain ⟨gmN, hgN⟩ : ∃ f, f = gm := ⟨_, rfl⟩
  have hnew : ∀ q, (gmN q).isSome = true ↔ ((gm q).isSome = true ∨ (dupB y.kind seen t.top = true ∧ q = (next : Int))) := fun q => by
   rw [hgN, hdup]
   simp
  rw [← hgN] at hMM
  replace hMM := hMM.mono (Nat.le_succ nm)
  obtain ⟨glN, hglN⟩ : ∃ f, f = gl := ⟨_, rfl⟩
  obtain ⟨gtN, hgtN⟩ : ∃ f, f = gt := ⟨_, rfl⟩
  rw [← hglN] at hML
  rw [← hgtN] at hMT
  replace hML := hML.mono (Nat.le_succ nl)
  replace hMT := hMT.mono (Nat.le_succ nt)
  have hlabN : y.kind = 8 → ∀ s, (glN s).isSome = (seen ++ [t.top]).any (fun z => decide (z.label = s)) := fun h => absurd h hk8
  have htagN : y.kind = 7 → ∀ q, (gtN q).isSome = (seen ++ [t.top]).any (fun z => decide (z.tag = q)) := fun h => absurd h hk7
  refine Wp (Wb (Wa rfl (Wf h0 (Wa rfl (Wf h7 (Wa rfl (Wf h2 (Wa rfl (o_call Tryd.call71 (lc rfl (lc rfl (lc rfl ln))) ((IH t (by rw [hfl]; omega) L (ts2.flat ++ rest) (Value.slice (some ⟨ub, uo, none⟩) L.length uc) next mb (nm + 1) gmN _ _ _ hwt.1 hdr hS hLl hMM (by omega)).mono ?_))))))))))
  rintro v74 w74 ⟨rfl, ⟨g18, n18, hn18, hM18, hg18⟩, ho18⟩
  replace hS := hS.only ho18 (fun b hb he => by
   have h1 : ub = b := by simpa [Value.ownBlock] using hb
   exact hum (h1.trans he))
  replace hML := hML.only ho18 hlm
  replace hMT := hMT.only ho18 htm
  replace hx := hx.trans ho18
  refine Wa rfl (Wg vI (Wc (Wb (Wa rfl (o_addi h25 rfl (by omega) (Wa rfl (Wf vI (Wc (⟨⟨k + 1, next + t.flat.length, _, _, n18, ts2, seen ++ [t.top], glN, gtN, g18, by omega, h0, h1, h2, rfl, h8, h9, h24, rfl, hS, hML, hMT, hM18, by omega, by omega, by omega, hwt.2, hdr2, by omega, by omega, hlabN, htagN, fun q => ?_, hx⟩, ?_⟩)))))))))
  ·rw [← hiff q, dupK_step, hg18 q, hnew q]
   simp only [or_assoc]
  show ks.len - ((k : Int) + 1).toNat < _
  rw [hm25]; simp [intOf]; omega
 try simp only [cs8] at c26
 have hk1 : k = ks.len := by omega
 have hnil := Trs.none hks hk1
 subst hnil
 refine W.exit (We (Wb (Wa rfl (Wf h7 (Wa rfl (Wg vI (Wc (Wm (Wu rfl vI ?_)))))))))
 exact ⟨congrArg (Value.int .i64) (by rw [hfl]; simp [Trs.flat] at hnx; omega), ⟨gm, nm, by rw [hfl]; omega, hMM, fun q => by have := hiff q; simp only [dupK, List.not_mem_nil, false_and, exists_false, or_false] at this; rw [this]; rfl⟩, hx⟩

theorem twice_all : ∀ (m : Nat) (t : Tr), t.flat.length ≤ m → STw t
 | 0, .node y ks, h => by simp [Tr.flat] at h
 | m + 1, .node y ks, h => fun L rest v at_ mb n g a d w0 h1 h2 h3 h4 h5 h6 => twice_step y ks (fun t ht => twice_all m t (by omega)) L rest v at_ mb n g a d w0 h1 h2 h3 h4 h5 h6

end Go.Proofs.YtpbflfgigfdohaaDoor

namespace Go.Proofs.YtpbflfgigfdohaaDoor
open Go Go.Vc Go.RowKit Go.Proofs

theorem where_take {D : List Df} {k : Nat} (hk : k < D.length) (s : List UInt8) : whereN (D.take (k + 1)) s = (whereN (D.take k) s).or (if D[k].name = s then some k else none) := by
 unfold whereN
 rw [List.take_succ_eq_append_getElem hk, List.findIdx?_append]
 have : (D.take k).length = k := by rw [List.length_take]; omega
 congr 1
 rw [this]
 by_cases h : D[k].name = s
 ·simp [List.findIdx?_cons, h]
 simp [List.findIdx?_cons, h]
theorem where_self {D : List Df} {i : Nat} (hi : i < D.length) : ∃ j, whereN D D[i].name = some j ∧ j ≤ i := by
 cases h : whereN D D[i].name with
 | none => exact absurd rfl (whereN_none h _ (List.getElem_mem hi))
 | some j =>
  obtain ⟨hj, h1, h2⟩ := whereN_some h
  refine ⟨j, rfl, ?_⟩
  rcases Nat.lt_or_ge i j with hl | hl
  ·exact absurd rfl (h2 i hl)
  exact hl
open Classical in
noncomputable def TD (D : List Df) : Nat → Tr := if h : (chkS D).2.2 = 0 then fun i => ((chkS_trees h).2.choose.getD i ([], .node ex0 .nil)).2 else fun _ => .node ex0 .nil
theorem trd_of {D : List Df} (h : (chkS D).2.2 = 0) : Trd D (TD D) := by
 have hs := (chkS_trees h).2.choose_spec
 have hT : TD D = fun i => ((chkS_trees h).2.choose.getD i ([], .node ex0 .nil)).2 := by unfold TD; rw [dif_pos h]
 obtain ⟨l, hl⟩ : ∃ l, l = (chkS_trees h).2.choose := ⟨_, rfl⟩
 rw [← hl] at hs hT
 obtain ⟨hw, hm⟩ := hs
 have hlen : D.length = l.length := by simpa using congrArg List.length hm
 have hat : ∀ i (hi : i < D.length), (D[i].name, D[i].ty) = ((l[i]'(by omega)).1, (l[i]'(by omega)).2.flat) := fun i hi => by
  have h1 : (D.map (fun d => (d.name, d.ty)))[i]? = (l.map (fun p => (p.1, p.2.flat)))[i]? := by rw [hm]
  rw [List.getElem?_map, List.getElem?_map, List.getElem?_eq_getElem hi, List.getElem?_eq_getElem (by omega)] at h1
  simpa using h1
 refine ⟨(chkS_trees h).1, fun i hi => ?_, fun d hd => ?_, fun i hi => ?_⟩
 ·rw [hT]
  have h1 := hw _ (List.getElem_mem (show i < l.length by omega))
  simp only [List.getD_eq_getElem?_getD, List.getElem?_eq_getElem (show i < l.length by omega), Option.getD_some]
  exact h1.2
 ·obtain ⟨i, hi, rfl⟩ := List.getElem_of_mem hd
  have h1 := hw _ (List.getElem_mem (show i < l.length by omega))
  have h2 := congrArg Prod.fst (hat i hi)
  rw [show D[i].name = (l[i]'(by omega)).1 from h2]
  exact h1.1
 rw [hT, tyD_at hi]
 have h2 := congrArg Prod.snd (hat i hi)
 simp only [List.getD_eq_getElem?_getD, List.getElem?_eq_getElem (show i < l.length by omega), Option.getD_some]
 exact h2.symm
noncomputable def resA (D : List Df) : Option (Int × Int) := if (chkS D).2.2 = 0 then resF D (TD D) else some (62, 0)
theorem resA_src {D : List Df} (h : ¬ (chkS D).2.2 = 0) : resA D = some (62, 0) := if_neg h
theorem resA_ok {D : List Df} (h : (chkS D).2.2 = 0) : resA D = resF D (TD D) := if_pos h
theorem resF_hit {D : List Df} {T : Nat → Tr} {i : Nat} {v : Int × Int} (hi : i < D.length) (hv : defF D T i = some v) (hb : ∀ j, j < i → defF D T j = none) : resF D T = some v := firstN_hit hi hv hb
theorem resF_miss {D : List Df} {T : Nat → Tr} (hb : ∀ j, j < D.length → defF D T j = none) : resF D T = none := firstN_miss hb
/-- what resolved answers -/
def PRes (D : List Df) (dv : Value) (V : Nat → Value) (w0 : World) (v : Value) (w' : World) : Prop :=
 (∃ er at_ : Int, v = .tuple #[.pointer none, .agg #[.int .i64 er, .int .i64 at_]] ∧ resA D = some (er, at_) ∧ ¬ er = 0 ∧ Ext w0 w') ∨ (resA D = none ∧ (chkS D).2.2 = 0 ∧ ∃ pb mb, v = .tuple #[.pointer (some ⟨pb, 0, none⟩), .agg #[.int .i64 0, .int .i64 0]] ∧ Bk w' pb mb D dv V ∧ Ext w0 w')
theorem nodeF_at {D : List Df} {dup : List Nat} {L : List Ex} {j : Nat} (hj : j < L.length) : nodeF D dup L j = if j ∈ dup then some (80, L[j].at_) else if L[j].kind = 9 ∧ whereN D L[j].name = none then some (81, L[j].at_) else none := by
 unfold nodeF
 rw [List.getD_eq_getElem?_getD, List.getElem?_eq_getElem hj, Option.getD_some]
theorem defF_twice {D : List Df} {T : Nat → Tr} {i : Nat} (hi : i < D.length) (h : ¬ whereN D D[i].name = some i) : defF D T i = some (80, D[i].at_) := by
 unfold defF
 rw [getD_at hi, if_neg h]
theorem defF_nodes {D : List Df} {T : Nat → Tr} {i : Nat} (hi : i < D.length) (h : whereN D D[i].name = some i) : defF D T i = firstN D[i].ty.length (nodeF D (dupT (T i) 0) D[i].ty) := by
 unfold defF
 rw [getD_at hi, if_pos h, tyD_at hi]

set_option maxHeartbeats 4000000 in
theorem resolved_spec (D : List Df) (dv : Value) (V : Nat → Value) (w0 : World) (hD : DefR w0 D dv V) (hlim : DOk D) : Ca Tryd.prog 59 #[.agg #[dv]] w0 (PRes D dv V w0) := by
 have hD00 := hD
 have hlen := hlim.len
 refine Ca.of Tryd.func59 Tryd.ntmps59 rfl rfl (We (Wb (Wa rfl (o_boxB rfl ?_))))
 intro w1 hC1 hx1 hs1
 obtain ⟨b1, hb1⟩ : ∃ b, b = w0.heap.size := ⟨_, rfl⟩
 rw [← hb1] at hC1 ⊢
 replace hC1 : w1.heap[b1]? = some (.cells ([dv]).toArray 24 (0, 0)) := hC1
 have hx := hx1
 replace hD := hD.ext hx1
 refine Wa rfl (Wg (by first | exact (show _ = Value.pointer _ from rfl) | exact rfl) (Wa rfl (o_alB TI32 ?_)))
 have hxq := hx
 intro wb hC3 hxb hsb
 replace hx := hx.tr hxb
 replace hD := hD.ext hxb
 replace hC1 := hxb.blk hC1 (fun h => h)
 obtain ⟨c3, hc3⟩ : ∃ c, c = w1.heap.size := ⟨_, rfl⟩
 rw [← hc3] at hC3 ⊢
 replace hC3 : wb.heap[c3]? = some (.cells #[.int .i64 0, .int .i64 0] 32 (0, 0)) := hC3
 have hz3 : w0.heap.size ≤ c3 := by rw [hc3]; exact hxq.size
 have hl1 := (Array.getElem?_eq_some_iff.1 hC1).1
 clear hxq hxb
 refine Wc (We (We (Wb (Wa rfl (o_ldA TI24 rfl rfl (show Cells _ b1 0 [dv] from Cells.of hC1 0 _ (by simp)) rfl (Wa rfl (o_call Tryd.call12 (lc rfl ln) ((check_spec D dv V _ hD hlim.lim).mono ?_))))))))
 rintro v23 w23 ⟨rfl, hx23⟩
 rw [show rs3 (chkS D) = .tuple #[.int .i64 ((chkS D).1 : Int), .int .i64 ((chkS D).2.1 : Int), .int .i64 ((chkS D).2.2 : Int)] from rfl]
 replace hx := hx.tr hx23
 replace hD := hD.ext hx23
 replace hC1 := hx23.blk hC1 (fun h => h)
 replace hC3 := hx23.blk hC3 (fun h => h)
 refine Wa rfl (Wf (by first | exact (show _ = Value.tuple _ from rfl) | exact rfl) (Wa rfl (o_ext rfl rfl (Wa rfl (o_ext rfl rfl (Wa rfl (o_ext rfl rfl (Wa rfl (Wg vI (Wa rfl (Wg vI (Wa rfl (Wg vI (Wc (We (Wb (Wa rfl (Wf vI (Wa rfl (o_ne rfl rfl (Wc (Wn rfl (fun c28 => ?_) (fun c28 => ?_)))))))))))))))))))))))
 ·try simp only [cs8] at c28
  have hck : ¬ (chkS D).2.2 = 0 := by intro h; simp [h] at c28
  refine We (Wb (Wa rfl (o_call Tryd.call61 (lc rfl (lc rfl ln)) ((fault_spec 62 0 _).mono ?_))))
  rintro v29 w29 ⟨rfl, hx29⟩
  replace hx := hx.tr hx29
  replace hD := hD.ext hx29
  replace hC1 := hx29.blk hC1 (fun h => h)
  replace hC3 := hx29.blk hC3 (fun h => h)
  refine Wa rfl (Wg (by first | exact (show _ = Value.pointer _ from rfl) | exact rfl) (WL.u (o_stA TI32 rfl (show _ = Value.agg #[.int .i64 62, .int .i64 0] from rfl) rfl rfl hC3 rfl ?_)))
  intro wz hCz hoz hsz
  replace hx := hx.trans' hoz (fun _ h => h) (fun b hb he => by omega)
  refine Wc (Wm (retTC rfl TI32 rfl rfl rfl (show Cells _ c3 0 [.int .i64 62, .int .i64 0] from Cells.of hCz 0 _ (by simp)) rfl ?_))
  exact .inl ⟨62, 0, rfl, resA_src hck, by decide, hx⟩
 try simp only [cs8] at c28
 have hck : (chkS D).2.2 = 0 := by simpa using c28
 have hT := trd_of hck
 refine Wp (We (Wb (Wa rfl (o_mkM ?_))))
 have hMF := MapIs.made Tryd.prog 9 3 enS w23
 have hxm : Ext w23 (w23.alloc (.map #[] 0)) := Only.alloc w23 _
 obtain ⟨fb, hfb⟩ : ∃ b, b = w23.heap.size := ⟨_, rfl⟩
 have hzfb : w0.heap.size ≤ fb := by rw [hfb]; exact hx.size
 rw [← hfb] at hMF ⊢
 generalize w23.alloc (.map #[] 0) = wfb at hMF hxm ⊢
 replace hx := hx.tr hxm
 replace hD := hD.ext hxm
 replace hC1 := hxm.blk hC1 (fun h => h)
 replace hC3 := hxm.blk hC3 (fun h => h)
 clear hxm
 have h256 := hT.n
 refine Wa rfl (Wo (Wc (We (We (Wb (Wa rfl (Wl 0 TI24 rfl TI22 rfl rfl (Wa rfl (Wk TI22 rfl rfl (Wh hC1 rfl) (Wa rfl (Ws TI22 rfl hD.row (Wa rfl (Wf vI (Wc (W.block (W.loop (fun e w => ∃ k : Nat, k ≤ D.length ∧ e 1 = .pointer (some ⟨b1, 0, none⟩) ∧ e 3 = .pointer (some ⟨c3, 0, none⟩) ∧ e 7 = .map (some fb) ∧ e 32 = dv ∧ e 33 = .int .i64 (D.length : Int) ∧ e 34 = .int .i64 (k : Int) ∧ DefR w D dv V ∧ w.heap[b1]? = some (.cells #[dv] 24 (0, 0)) ∧ w.heap[c3]? = some (.cells #[.int .i64 0, .int .i64 0] 32 (0, 0)) ∧ MapIs Tryd.prog 9 3 enS w fb k (fun s => (whereN (D.take k) s).map Int.ofNat) ∧ Ext w0 w) (fun e w => D.length - (intOf (e 34)).toNat) ?_ ?_))))))))))))))))
 ·exact ⟨0, Nat.zero_le _, rfl, rfl, rfl, rfl, rfl, rfl, hD, hC1, hC3, hMF, hx⟩
 rintro e w ⟨k, hk, h1, h3, h7, h32, h33, h34, hD, hC1, hC3, hMF, hx⟩
 have hm34 := h34
 refine We (Wb (Wa rfl (o_lt h34 h33 (Wc (We (Wn rfl (fun c35 => ?_) (fun c35 => ?_)))))))
 ·try simp only [cs8] at c35
  have hk1 : k < D.length := by omega
  obtain ⟨tb, to_, tc, rfl, htc, hty⟩ := hD.atk hk1
  have hnm := hlim.nm _ (List.getElem_mem hk1)
  refine Wp (We (W.block (We (Wb (Wa rfl (Wf h34 (Wa rfl (Wt TI22 TI38 h32 h34 (by omega) (Wa rfl (o_ldA TI38 rfl rfl htc rfl (Wa rfl (o_alB TI38 ?_))))))))))))
  intro wa hCa hxa hsa
  refine Wa rfl (Wg vI (WL.u (o_stA TI38 rfl (show _ = Value.agg (dcell D[k] (V k)).toArray from rfl) rfl (by simp only [dcell, List.toArray, Array.toList, List.all_cons, List.all_nil, sl_one1 hty]; rfl) hCa rfl ?_)))
  intro wb9 hC9 hob hsb
  have hxb := Ext.own hxa (Nat.le_refl _) hob
  obtain ⟨b9, hb9⟩ : ∃ b, b = w.heap.size := ⟨_, rfl⟩
  rw [← hb9] at hC9 ⊢
  clear hCa hxa hsa hob hsb
  replace hx := hx.tr hxb
  replace hD := hD.ext hxb
  replace hC1 := hxb.blk hC1 (fun h => h)
  replace hC3 := hxb.blk hC3 (fun h => h)
  replace hMF := hMF.ext hxb
  replace hty := hty.ext hxb
  clear hxb
  refine Wc (We (Wb (Wa rfl (Wf h7 (Wa rfl (Wl 0 TI38 rfl TI9 rfl rfl (Wa rfl (Wk TI9 rfl rfl (Wh hC9 rfl) (Wa rfl (o_lkO MT90 rfl hMF rfl (keyS Tryd.underlying9 (by rw [maxLen_eq]; omega)) (Wa rfl (Wf (by first | exact (show _ = Value.tuple _ from rfl) | exact rfl) (Wa rfl (o_ext rfl rfl (Wa rfl (o_ext rfl rfl (Wa rfl (Wg vI (Wa rfl (Wg vB (Wc (We (Wb (Wa rfl (Wf vB (Wa rfl (o_not' rfl (Wc (Wn rfl (fun c47 => ?_) (fun c47 => ?_))))))))))))))))))))))))))))))
  ·try simp only [cs8] at c47
   refine Wb (Wa rfl (Wf h7 (Wa rfl (Wl 0 TI38 rfl TI9 rfl rfl (Wa rfl (Wk TI9 rfl rfl (Wh hC9 rfl) (Wa rfl (Wf vI (WL.u (o_mu enS_inj MT90 rfl hMF rfl (keyS Tryd.underlying9 (by rw [maxLen_eq]; omega)) rfl (wf_i64 (by omega)) (by rw [maxLen_eq]; omega) ?_))))))))))
   intro wq hMq hoq hsq
   replace hC1 := hoq.blk hC1 (map_blk_ne hMF hC1)
   replace hC3 := hoq.blk hC3 (map_blk_ne hMF hC3)
   replace hx := hx.trans' hoq (fun _ h => h) (fun b hb he => by omega)
   replace hD := hD00.ext hx
   have hno : whereN (D.take k) D[k].name = none := by simpa using c47
   have hge : (fun c => if c = D[k].name then some (k : Int) else (whereN (D.take k) c).map Int.ofNat) = fun s => (whereN (D.take (k + 1)) s).map Int.ofNat := by
    funext s
    rw [where_take hk1]
    by_cases h : s = D[k].name
    ·subst h; rw [hno]; simp
    have h2 : ¬ D[k].name = s := fun e => h e.symm
    simp [h, h2]
   rw [hge] at hMq
   clear hMF
   have hMF := hMq
   clear hMq
   refine Wc (Wb (Wa rfl (o_addi h34 rfl (by omega) (Wa rfl (Wf vI (Wc (⟨⟨k + 1, by omega, h1, h3, h7, h32, h33, rfl, hD, hC1, hC3, hMF, hx⟩, ?_⟩)))))))
   show D.length - ((k : Int) + 1).toNat < _
   rw [hm34]; simp [intOf]; omega
  try simp only [cs8] at c47
  replace hMF := hMF.mono (Nat.le_succ k)
  have hge : (fun s => (whereN (D.take k) s).map Int.ofNat) = fun s => (whereN (D.take (k + 1)) s).map Int.ofNat := by
   funext s
   rw [where_take hk1]
   by_cases h : D[k].name = s
   ·have hs : (whereN (D.take k) s).isSome = true := by rw [← h]; simpa using c47
    cases hw : whereN (D.take k) s with
    | none => rw [hw] at hs; cases hs
    | some j => rfl
   simp [h]
  rw [hge] at hMF
  refine Wp (Wb (Wa rfl (o_addi h34 rfl (by omega) (Wa rfl (Wf vI (Wc (⟨⟨k + 1, by omega, h1, h3, h7, h32, h33, rfl, hD, hC1, hC3, hMF, hx⟩, ?_⟩)))))))
  show D.length - ((k : Int) + 1).toNat < _
  rw [hm34]; simp [intOf]; omega
 try simp only [cs8] at c35
 have hk1 : k = D.length := by omega
 rw [hk1, List.take_length] at hMF
 refine W.exit (We (We (Wb (Wa rfl (Wl 0 TI24 rfl TI22 rfl h1 (Wa rfl (Wk TI22 rfl rfl (Wh hC1 rfl) (Wa rfl (Ws TI22 rfl hD.row (Wa rfl (Wf vI (Wc (W.block (W.loop (fun e w => ∃ i : Nat, i ≤ D.length ∧ e 1 = .pointer (some ⟨b1, 0, none⟩) ∧ e 3 = .pointer (some ⟨c3, 0, none⟩) ∧ e 7 = .map (some fb) ∧ e 54 = dv ∧ e 55 = .int .i64 (D.length : Int) ∧ e 56 = .int .i64 (i : Int) ∧ (∀ j, j < i → defF D (TD D) j = none) ∧ DefR w D dv V ∧ w.heap[b1]? = some (.cells #[dv] 24 (0, 0)) ∧ w.heap[c3]? = some (.cells #[.int .i64 0, .int .i64 0] 32 (0, 0)) ∧ MapIs Tryd.prog 9 3 enS w fb D.length (fun s => (whereN D s).map Int.ofNat) ∧ Ext w0 w) (fun e w => D.length - (intOf (e 56)).toNat) ?_ ?_))))))))))))))
 ·exact ⟨0, Nat.zero_le _, h1, h3, h7, rfl, rfl, rfl, fun j hj => by omega, hD, hC1, hC3, hMF, hx⟩
 rintro e w ⟨i, hi, h1, h3, h7, h54, h55, h56, hno, hD, hC1, hC3, hMF, hx⟩
 have hm56 := h56
 refine We (Wb (Wa rfl (o_lt h56 h55 (Wc (We (Wn rfl (fun c57 => ?_) (fun c57 => ?_)))))))
 ·try simp only [cs8] at c57
  have hi1 : i < D.length := by omega
  obtain ⟨tb, to_, tc, rfl, htc, hty⟩ := hD.atk hi1
  have hnm := hlim.nm _ (List.getElem_mem hi1)
  have hex := hlim.ex _ (List.getElem_mem hi1)
  have htl := hlim.ty _ (List.getElem_mem hi1)
  obtain ⟨js, hjs, hji⟩ := where_self hi1
  refine Wp (We (W.block (We (Wb (Wa rfl (Wf h56 (Wa rfl (Wt TI22 TI38 h54 h56 (by omega) (Wa rfl (o_ldA TI38 rfl rfl htc rfl (Wa rfl (o_alB TI38 ?_))))))))))))
  intro wa hCa hxa hsa
  refine Wa rfl (Wg vI (WL.u (o_stA TI38 rfl (show _ = Value.agg (dcell D[i] (V i)).toArray from rfl) rfl (by simp only [dcell, List.toArray, Array.toList, List.all_cons, List.all_nil, sl_one1 hty]; rfl) hCa rfl ?_)))
  intro wb13 hC13 hob hsb
  have hxb := Ext.own hxa (Nat.le_refl _) hob
  obtain ⟨b13, hb13⟩ : ∃ b, b = w.heap.size := ⟨_, rfl⟩
  rw [← hb13] at hC13 ⊢
  clear hCa hxa hsa hob hsb
  replace hx := hx.tr hxb
  replace hD := hD.ext hxb
  replace hC1 := hxb.blk hC1 (fun h => h)
  replace hC3 := hxb.blk hC3 (fun h => h)
  replace hMF := hMF.ext hxb
  replace hty := hty.ext hxb
  clear hxb
  refine Wc (We (We (Wb (Wa rfl (Wf h7 (Wa rfl (Wl 0 TI38 rfl TI9 rfl rfl (Wa rfl (Wk TI9 rfl rfl (Wh hC13 rfl) (Wa rfl (o_lk MT90 rfl hMF rfl (keyS Tryd.underlying9 (by rw [maxLen_eq]; omega)) (Wa rfl (Wf vI (Wa rfl (o_ne rfl rfl (Wc (Wn rfl (fun c66 => ?_) (fun c66 => ?_))))))))))))))))))
  ·try simp only [cs8] at c66
   have hwi : ¬ whereN D D[i].name = some i := by intro h; simp [h] at c66
   refine We (Wb (Wa rfl (Wl 1 TI38 rfl TI3 rfl rfl (Wa rfl (Wk TI3 rfl rfl (Wh hC13 rfl) (Wa rfl (o_call Tryd.call61 (lc rfl (lc rfl ln)) ((fault_spec 80 D[i].at_ _).mono ?_))))))))
   rintro v69 w69 ⟨rfl, hx69⟩
   replace hx := hx.tr hx69
   replace hD := hD.ext hx69
   replace hC1 := hx69.blk hC1 (fun h => h)
   replace hC3 := hx69.blk hC3 (fun h => h)
   replace hMF := hMF.ext hx69
   refine Wa rfl (Wg (by first | exact (show _ = Value.pointer _ from rfl) | exact rfl) (WL.u (o_stA TI32 h3 (show _ = Value.agg #[.int .i64 80, .int .i64 D[i].at_] from rfl) rfl rfl hC3 rfl ?_)))
   intro wz hCz hoz hsz
   replace hx := hx.trans' hoz (fun _ h => h) (fun b hb he => by omega)
   refine Wc (Wm (retTC rfl TI32 rfl rfl h3 (show Cells _ c3 0 [.int .i64 80, .int .i64 D[i].at_] from Cells.of hCz 0 _ (by simp)) rfl ?_))
   exact .inl ⟨80, D[i].at_, rfl, (by rw [resA_ok hck]; exact resF_hit hi1 (defF_twice hi1 hwi) hno), by decide, hx⟩
  try simp only [cs8] at c66
  have hwi : whereN D D[i].name = some i := by rw [hjs] at c66 ⊢; simp at c66; rw [show js = i by omega]
  refine Wp (We ?_)
  have hfl := hMF.lt
  refine Wb (Wa rfl (o_mkM ?_))
  have hMA := MapIs.made Tryd.prog 3 3 enI wb13
  have hxm : Ext wb13 (wb13.alloc (.map #[] 0)) := Only.alloc wb13 _
  obtain ⟨ab, hab⟩ : ∃ b, b = wb13.heap.size := ⟨_, rfl⟩
  have hzab : w0.heap.size ≤ ab := by rw [hab]; exact hx.size
  rw [← hab] at hMA ⊢
  generalize wb13.alloc (.map #[] 0) = wab at hMA hxm ⊢
  replace hx := hx.tr hxm
  replace hD := hD.ext hxm
  replace hC1 := hxm.blk hC1 (fun h => h)
  replace hC3 := hxm.blk hC3 (fun h => h)
  replace hMF := hMF.ext hxm
  replace hC13 := hxm.blk hC13 (fun h => h)
  replace hty := hty.ext hxm
  clear hxm
  refine Wa rfl (Wo (Wc (We (Wb (Wa rfl (Wl 2 TI38 rfl TI36 rfl rfl (Wa rfl (Wk TI36 rfl rfl (Wh hC13 rfl) (Wa rfl (o_mv (Wa rfl (o_call Tryd.call71 (lc rfl (lc rfl (lc rfl ln))) ((twice_all _ (TD D i) (Nat.le_refl _) D[i].ty [] (V i) 0 ab 0 (fun _ => none) 0 0 _ (hT.wf i hi1) (by rw [hT.fl i hi1, tyD_at hi1, List.append_nil]; rfl) hty htl hMA (by rw [hT.fl i hi1, tyD_at hi1]; omega)).mono ?_)))))))))))))
  rintro v74 w74 ⟨rfl, ⟨ga, na, hna, hMA2, hga⟩, hoq⟩
  replace hC1 := hoq.blk hC1 (map_blk_ne hMA hC1)
  replace hC3 := hoq.blk hC3 (map_blk_ne hMA hC3)
  replace hC13 := hoq.blk hC13 (map_blk_ne hMA hC13)
  replace hMF := hMF.only hoq (fun h => by omega)
  replace hx := hx.trans' hoq (fun _ h => h) (fun b hb he => by omega)
  replace hD := hD00.ext hx
  replace hty := hD.tys i hi1
  rw [tyD_at hi1] at hty
  clear hMA
  have hMA := hMA2
  clear hMA2 hoq
  have hdup : ∀ q : Nat, (ga (q : Int)).isSome = decide (q ∈ dupT (TD D i) 0) := fun q => by
   rw [Bool.eq_iff_iff, hga, decide_eq_true_iff]
   constructor
   ·rintro (h | ⟨p, hp, hq⟩)
    ·cases h
    rw [show q = p by omega]; exact hp
   exact fun h => .inr ⟨q, h, rfl⟩
  refine Wc (We (Wb (Wa rfl (Wl 2 TI38 rfl TI36 rfl rfl (Wa rfl (Wk TI36 rfl rfl (Wh hC13 rfl) (Wa rfl (Ws TI36 rfl hty (Wa rfl (Wf vI (Wc (W.block (W.loop (fun e w => ∃ q : Nat, q ≤ D[i].ty.length ∧ e 1 = .pointer (some ⟨b1, 0, none⟩) ∧ e 3 = .pointer (some ⟨c3, 0, none⟩) ∧ e 7 = .map (some fb) ∧ e 14 = .map (some ab) ∧ e 54 = .slice (some ⟨tb, to_, none⟩) D.length tc ∧ e 55 = .int .i64 (D.length : Int) ∧ e 56 = .int .i64 (i : Int) ∧ e 76 = V i ∧ e 77 = .int .i64 (D[i].ty.length : Int) ∧ e 78 = .int .i64 (q : Int) ∧ (∀ j, j < q → nodeF D (dupT (TD D i) 0) D[i].ty j = none) ∧ MapIs Tryd.prog 3 3 enI w ab na ga ∧ Sl w 7 (V i) D[i].ty.length (exs D[i].ty) ∧ DefR w D (.slice (some ⟨tb, to_, none⟩) D.length tc) V ∧ w.heap[b1]? = some (.cells #[(.slice (some ⟨tb, to_, none⟩) D.length tc)] 24 (0, 0)) ∧ w.heap[c3]? = some (.cells #[.int .i64 0, .int .i64 0] 32 (0, 0)) ∧ MapIs Tryd.prog 9 3 enS w fb D.length (fun s => (whereN D s).map Int.ofNat) ∧ Ext w0 w) (fun e w => D[i].ty.length - (intOf (e 78)).toNat) ?_ ?_)))))))))))))
  ·exact ⟨0, Nat.zero_le _, h1, h3, h7, rfl, h54, h55, h56, rfl, rfl, rfl, fun j hj => by omega, hMA, hty, hD, hC1, hC3, hMF, hx⟩
  rintro e w ⟨q, hq, h1, h3, h7, h14, h54, h55, h56, h76, h77, h78, hnn, hMA, hty, hD, hC1, hC3, hMF, hx⟩
  have hm78 := h78
  refine We (Wb (Wa rfl (o_lt h78 h77 (Wc (We (Wn rfl (fun c79 => ?_) (fun c79 => ?_)))))))
  ·try simp only [cs8] at c79
   have hq1 : q < D[i].ty.length := by omega
   obtain ⟨ub, uo, uc, hV1, huc⟩ := Sl.exq hty hq1
   rw [hV1] at h76
   have hnk := (hex _ (List.getElem_mem hq1)).1
   have hnf := nodeF_at (D := D) (dup := dupT (TD D i) 0) hq1
   refine Wp (We (W.block (We (Wb (Wa rfl (Wf h78 (Wa rfl (Wt TI36 TI40 h76 h78 (by omega) (Wa rfl (o_ldA TI40 rfl rfl huc rfl (Wa rfl (o_alB TI40 ?_))))))))))))
   intro wa hCa hxa hsa
   refine Wa rfl (Wg vI (WL.u (o_stA TI40 rfl (show _ = Value.agg (exV D[i].ty[q]).toArray from rfl) rfl rfl hCa rfl ?_)))
   intro wb16 hC16 hob hsb
   have hxb := Ext.own hxa (Nat.le_refl _) hob
   obtain ⟨b16, hb16⟩ : ∃ b, b = w.heap.size := ⟨_, rfl⟩
   rw [← hb16] at hC16 ⊢
   clear hCa hxa hsa hob hsb
   replace hx := hx.tr hxb
   replace hD := hD.ext hxb
   replace hC1 := hxb.blk hC1 (fun h => h)
   replace hC3 := hxb.blk hC3 (fun h => h)
   replace hMF := hMF.ext hxb
   replace hty := hty.ext hxb
   replace hMA := hMA.ext hxb
   clear hxb
   refine Wc (We (Wb (Wa rfl (Wf h14 (Wa rfl (Wf vI (Wa rfl (o_lkO MT140 rfl hMA rfl (keyI Tryd.underlying3 (by omega)) (Wa rfl (Wf (by first | exact (show _ = Value.tuple _ from rfl) | exact rfl) (Wa rfl (o_ext rfl rfl (Wa rfl (o_ext rfl rfl (Wa rfl (Wg vI (Wa rfl (Wg vB (Wc (We (Wb (Wa rfl (Wf h7 (Wa rfl (Wl 2 TI40 rfl TI9 rfl rfl (Wa rfl (Wk TI9 rfl rfl (Wh hC16 rfl) (Wa rfl (o_lkO MT90 rfl hMF rfl (keyS Tryd.underlying9 (by rw [maxLen_eq]; omega)) (Wa rfl (Wf (by first | exact (show _ = Value.tuple _ from rfl) | exact rfl) (Wa rfl (o_ext rfl rfl (Wa rfl (o_ext rfl rfl (Wa rfl (Wg vI (Wa rfl (Wg vB (Wc (W.block (We (Wb (Wa rfl (Wf vB (Wa rfl (Wg vB (Wc (Wn rfl (fun c96 => ?_) (fun c96 => ?_))))))))))))))))))))))))))))))))))))))))))))))))))
   ·try simp only [cs8] at c96
    rw [hdup q] at c96
    replace c96 := of_decide_eq_true c96
    refine We (Wb (Wa rfl (Wl 6 TI40 rfl TI3 rfl rfl (Wa rfl (Wk TI3 rfl rfl (Wh hC16 rfl) (Wa rfl (o_call Tryd.call61 (lc rfl (lc rfl ln)) ((fault_spec 80 D[i].ty[q].at_ _).mono ?_))))))))
    rintro v100 w100 ⟨rfl, hx100⟩
    replace hx := hx.tr hx100
    replace hD := hD.ext hx100
    replace hC1 := hx100.blk hC1 (fun h => h)
    replace hC3 := hx100.blk hC3 (fun h => h)
    replace hMF := hMF.ext hx100
    refine Wa rfl (Wg (by first | exact (show _ = Value.pointer _ from rfl) | exact rfl) (WL.u (o_stA TI32 h3 (show _ = Value.agg #[.int .i64 80, .int .i64 D[i].ty[q].at_] from rfl) rfl rfl hC3 rfl ?_)))
    intro wz hCz hoz hsz
    replace hx := hx.trans' hoz (fun _ h => h) (fun b hb he => by omega)
    refine Wc (Wm (retTC rfl TI32 rfl rfl h3 (show Cells _ c3 0 [.int .i64 80, .int .i64 D[i].ty[q].at_] from Cells.of hCz 0 _ (by simp)) rfl ?_))
    exact .inl ⟨80, D[i].ty[q].at_, rfl, (by rw [resA_ok hck]; exact resF_hit hi1 (by rw [defF_nodes hi1 hwi]; exact firstN_hit hq1 (by rw [hnf, if_pos c96]) hnn) hno), by decide, hx⟩
   try simp only [cs8] at c96
   rw [hdup q] at c96
   replace c96 := of_decide_eq_false c96
   refine We ?_
   by_cases hk9 : D[i].ty[q].kind = 9
   ·skip
    skip
    refine Wb (Wa rfl (Wl 0 TI40 rfl TI3 rfl rfl (Wa rfl (Wk TI3 rfl rfl (Wh hC16 rfl) (Wa rfl (o_eq rfl rfl (Wa rfl (Wf vB (Wj rfl (by simp [hk9]) rfl (Wf vB (Wj rfl (by simp [hk9]) rfl (o_not' rfl (Wa rfl (Ww rfl rfl (Wa rfl (Wg vB (Wc (Wn rfl (fun c101 => ?_) (fun c101 => ?_)))))))))))))))))))
    ·try simp only [cs8] at c101
     have hwn : whereN D D[i].ty[q].name = none := by simpa [hk9] using c101
     refine We (Wb (Wa rfl (Wl 6 TI40 rfl TI3 rfl rfl (Wa rfl (Wk TI3 rfl rfl (Wh hC16 rfl) (Wa rfl (o_call Tryd.call61 (lc rfl (lc rfl ln)) ((fault_spec 81 D[i].ty[q].at_ _).mono ?_))))))))
     rintro v111 w111 ⟨rfl, hx111⟩
     replace hx := hx.tr hx111
     replace hD := hD.ext hx111
     replace hC1 := hx111.blk hC1 (fun h => h)
     replace hC3 := hx111.blk hC3 (fun h => h)
     replace hMF := hMF.ext hx111
     refine Wa rfl (Wg (by first | exact (show _ = Value.pointer _ from rfl) | exact rfl) (WL.u (o_stA TI32 h3 (show _ = Value.agg #[.int .i64 81, .int .i64 D[i].ty[q].at_] from rfl) rfl rfl hC3 rfl ?_)))
     intro wz hCz hoz hsz
     replace hx := hx.trans' hoz (fun _ h => h) (fun b hb he => by omega)
     refine Wc (Wm (retTC rfl TI32 rfl rfl h3 (show Cells _ c3 0 [.int .i64 81, .int .i64 D[i].ty[q].at_] from Cells.of hCz 0 _ (by simp)) rfl ?_))
     exact .inl ⟨81, D[i].ty[q].at_, rfl, (by rw [resA_ok hck]; exact resF_hit hi1 (by rw [defF_nodes hi1 hwi]; exact firstN_hit hq1 (by rw [hnf, if_neg c96, if_pos ⟨hk9, hwn⟩]) hnn) hno), by decide, hx⟩
    try simp only [cs8] at c101
    have hwn : ¬ whereN D D[i].ty[q].name = none := by
     have h1 := c101
     simp [hk9] at h1
     intro h
     rw [h] at h1
     simp at h1
    refine Wp ?_
    have hnq : nodeF D (dupT (TD D i) 0) D[i].ty q = none := by
     rw [hnf, if_neg c96, if_neg (by first | exact fun h => hwn h.2 | exact fun h => hk9 h.1)]
    refine Wb (Wa rfl (o_addi h78 rfl (by omega) (Wa rfl (Wf vI (Wc (⟨⟨q + 1, by omega, h1, h3, h7, h14, h54, h55, h56, h76.trans hV1.symm, h77, rfl, fun j hj => ?_, hMA, hty, hD, hC1, hC3, hMF, hx⟩, ?_⟩))))))
    ·rcases Nat.lt_or_ge j q with h | h
     ·exact hnn j h
     rw [show j = q by omega]; exact hnq
    show D[i].ty.length - ((q : Int) + 1).toNat < _
    rw [hm78]; simp [intOf]; omega
   skip
   skip
   refine Wb (Wa rfl (Wl 0 TI40 rfl TI3 rfl rfl (Wa rfl (Wk TI3 rfl rfl (Wh hC16 rfl) (Wa rfl (o_eq rfl rfl (Wa rfl (Wf vB (Wi rfl (by simp [hk9]) rfl (Wi rfl (by simp [hk9]) rfl (Wa rfl (Wv rfl (by simp [hk9]) (Wa rfl (Wg vB (Wc (W.condF' rfl (rfl) (Wp ?_)))))))))))))))))
   have hnq : nodeF D (dupT (TD D i) 0) D[i].ty q = none := by
    rw [hnf, if_neg c96, if_neg (by first | exact fun h => hwn h.2 | exact fun h => hk9 h.1)]
   refine Wb (Wa rfl (o_addi h78 rfl (by omega) (Wa rfl (Wf vI (Wc (⟨⟨q + 1, by omega, h1, h3, h7, h14, h54, h55, h56, h76.trans hV1.symm, h77, rfl, fun j hj => ?_, hMA, hty, hD, hC1, hC3, hMF, hx⟩, ?_⟩))))))
   ·rcases Nat.lt_or_ge j q with h | h
    ·exact hnn j h
    rw [show j = q by omega]; exact hnq
   show D[i].ty.length - ((q : Int) + 1).toNat < _
   rw [hm78]; simp [intOf]; omega
  try simp only [cs8] at c79
  have hq1 : q = D[i].ty.length := by omega
  rw [hq1] at hnn
  refine W.exit (Wb (Wa rfl (o_addi h56 rfl (by omega) (Wa rfl (Wf vI (Wc (⟨⟨i + 1, by omega, h1, h3, h7, h54, h55, rfl, fun j hj => ?_, hD, hC1, hC3, hMF, hx⟩, ?_⟩)))))))
  ·rcases Nat.lt_or_ge j i with h | h
   ·exact hno j h
   rw [show j = i by omega, defF_nodes hi1 hwi]; exact firstN_miss hnn
  show D.length - ((i : Int) + 1).toNat < _
  rw [hm56]; simp [intOf]; omega
 try simp only [cs8] at c57
 have hi1 : i = D.length := by omega
 have hnone : resA D = none := by rw [resA_ok hck]; exact resF_miss (fun j hj => hno j (by omega))
 refine W.exit (We ?_)
 have hdv1 := sl_one1 hD.row
 refine Wb (Wa rfl (Wl 0 TI24 rfl TI22 rfl h1 (Wa rfl (Wk TI22 rfl rfl (Wh hC1 rfl) (Wa rfl (Wf h7 (Wa rfl (o_bldC (cs := [dv, .map (some fb)]) TI132 (Sizes.cons TI22 (Sizes.cons TI90 Sizes.nil)) rfl (lcp (show _ = dv from rfl) (lcp (show _ = Value.map (some fb) from rfl) lnp)) (by simp only [List.all_cons, List.all_nil, hdv1]; rfl) rfl (Wa rfl (o_boxB rfl ?_))))))))))
 have hxq := hx
 have hC3w := hC3
 intro wp hCp hxp hsp
 replace hx := hx.tr hxp
 replace hD := hD.ext hxp
 replace hC1 := hxp.blk hC1 (fun h => h)
 replace hC3 := hxp.blk hC3 (fun h => h)
 replace hMF := hMF.ext hxp
 obtain ⟨pb, hpb⟩ : ∃ b, b = w.heap.size := ⟨_, rfl⟩
 rw [← hpb] at hCp ⊢
 have hzp : w0.heap.size ≤ pb := by rw [hpb]; exact hxq.size
 have hlp := (Array.getElem?_eq_some_iff.1 hC3w).1
 refine Wa rfl (o_bldC (cs := [(.int .i64 0), (.int .i64 0)]) TI32 (Sizes.cons TI30 (Sizes.cons TI3 Sizes.nil)) rfl lnp rfl rfl (Wa rfl (Wg (by first | exact (show _ = Value.pointer _ from rfl) | exact rfl) (WL.u (o_stA TI32 h3 (show _ = Value.agg #[.int .i64 0, .int .i64 0] from rfl) rfl rfl hC3 rfl ?_)))))
 intro wz hCz hoz hsz
 replace hx := hx.trans' hoz (fun _ h => h) (fun b hb he => by omega)
 refine Wc (Wm (retTC rfl TI32 rfl (show _ = Value.pointer (some ⟨pb, 0, none⟩) from rfl) h3 (show Cells _ c3 0 [.int .i64 0, .int .i64 0] from Cells.of hCz 0 _ (by simp)) rfl ?_))
 exact .inr ⟨hnone, hck, pb, fb, rfl, ⟨hoz.blk hCp (by omega), hD00.ext hx, hMF.only hoz (fun h => map_blk_ne hMF hC3 h.symm)⟩, hx⟩
end Go.Proofs.YtpbflfgigfdohaaDoor

namespace Go.Proofs.YtpbflfgigfdohaaDoor
open Go Go.Vc Go.RowKit Go.Proofs

section
open Go.Vc
theorem retTTC {fn : Func} {P : Program} {e : Env} {w : World} {R : Value → World → Prop} {t u a : Tmp} {T : TypeId} {d : TypeDesc} {s bs b o : Nat} {z v1 v2 : Value} {xs : List Value} (hr : fn.results = #[.tmp t, .tmp u, .cell a T]) (ht : Ty P T d s bs z) (hd : isAggD d = true) (h1 : e t = v1) (h3 : e u = v2) (h2 : e a = .pointer (some ⟨b, o, none⟩)) (hc : Cells w b o xs) (hl : xs.length = s)
  (h : R (.tuple #[v1, v2, .agg xs.toArray]) w) : Rt fn P R e w :=
 ⟨fun _ ac ha => ⟨.tuple #[v1, v2, .agg xs.toArray], by
  have g1 : ac.tmps.getD t undef = v1 := by rw [ha.get]; exact h1
  have g3 : ac.tmps.getD u undef = v2 := by rw [ha.get]; exact h3
  have g2 : ac.tmps.getD a undef = .pointer (some ⟨b, o, none⟩) := by rw [ha.get]; exact h2
  simp only [Array.getD_eq_getD_getElem?] at g1 g2 g3
  simp [results, hr, asAddr, g1, g2, g3, run_loadA ht hd hc hl], h⟩⟩
end
noncomputable def fA (D : List Df) : Option (Int × Int) := (resA D).or ((ringF D).or (deepF D (TD D)))
noncomputable def flt (D : List Df) : Int × Int := (fA D).getD (0, 0)
noncomputable def ordR (D : List Df) : List Nat := if fA D = none then ordN D else []
noncomputable def depR (D : List Df) : List Nat := if fA D = none then (List.range D.length).map (depN D (TD D)) else []
theorem PRes.form {D : List Df} {dv : Value} {V : Nat → Value} {w0 w' : World} {v : Value} (h : PRes D dv V w0 v w') : ∃ (pv : Value) (er at_ : Int), v = .tuple #[pv, .agg #[.int .i64 er, .int .i64 at_]] ∧ ((¬ er = 0 ∧ pv = .pointer none ∧ resA D = some (er, at_)) ∨ (er = 0 ∧ at_ = 0 ∧ resA D = none ∧ (chkS D).2.2 = 0 ∧ ∃ pb mb, pv = .pointer (some ⟨pb, 0, none⟩) ∧ Bk w' pb mb D dv V)) ∧ Ext w0 w' := by
 rcases h with ⟨er, at_, rfl, h1, h2, h3⟩ | ⟨h1, h2, pb, mb, rfl, h3, h4⟩
 ·exact ⟨_, er, at_, rfl, .inl ⟨h2, rfl, h1⟩, h3⟩
 exact ⟨_, 0, 0, rfl, .inr ⟨rfl, rfl, h1, h2, pb, mb, rfl, h3⟩, h4⟩
/-- what checked answers -/
def PChk (D : List Df) (dv : Value) (V : Nat → Value) (w0 : World) (v : Value) (w' : World) : Prop :=
 ∃ (pv dpv : Value) (er at_ : Int), v = .tuple #[pv, dpv, .agg #[.int .i64 er, .int .i64 at_]] ∧ flt D = (er, at_) ∧ ((¬ er = 0 ∧ ¬ fA D = none ∧ dpv = .slice none 0 0) ∨ (er = 0 ∧ fA D = none ∧ (chkS D).2.2 = 0 ∧ ∃ pb mb, pv = .pointer (some ⟨pb, 0, none⟩) ∧ Bk w' pb mb D dv V)) ∧ w'.ownsRow w0.heap.size 3 1 dpv (depR D).length ((depR D).map iv) ∧ Ext w0 w'
theorem kn9_of {D : List Df} (hr : resA D = none) (hck : (chkS D).2.2 = 0) : kn9 D := resF_known (by rw [← resA_ok hck]; exact hr)
theorem fA_res {D : List Df} {v : Int × Int} (h : resA D = some v) : fA D = some v := by unfold fA; rw [h]; rfl
theorem fA_ring {D : List Df} {i : Nat} (h : resA D = none) (hi : i < D.length) (ht : Relation.TransGen (Us (usesD D)) i i) (hb : ∀ j, j < i → ¬ Relation.TransGen (Us (usesD D)) j j) : fA D = some (82, D[i].at_) := by
 unfold fA ringF
 rw [h, Option.none_or, firstN_hit hi (v := (82, D[i].at_)) (by rw [if_pos ht, getD_at hi]) (fun j hj => if_neg (hb j hj))]
 rfl
theorem ring_none {D : List Df} (hb : ∀ j, j < D.length → ¬ Relation.TransGen (Us (usesD D)) j j) : ringF D = none := firstN_miss fun j hj => if_neg (hb j hj)
theorem fA_deep {D : List Df} {i : Nat} (h : resA D = none) (hr : ringF D = none) (hi : i < D.length) (ht : 64 < depN D (TD D) i) (hb : ∀ j, j < i → ¬ 64 < depN D (TD D) j) : fA D = some (83, D[i].at_) := by
 unfold fA deepF
 rw [h, hr, Option.none_or, Option.none_or]
 exact firstN_hit hi (by rw [if_pos ht, getD_at hi]) (fun j hj => if_neg (hb j hj))
theorem fA_none {D : List Df} (h : resA D = none) (hr : ringF D = none) (hb : ∀ j, j < D.length → ¬ 64 < depN D (TD D) j) : fA D = none := by
 unfold fA deepF
 rw [h, hr, Option.none_or, Option.none_or]
 exact firstN_miss (fun j hj => if_neg (hb j hj))
theorem fA_back {D : List Df} (h : fA D = none) : resA D = none ∧ ringF D = none ∧ deepF D (TD D) = none := by
 unfold fA at h
 cases h1 : resA D with
 | some v => rw [h1] at h; cases h
 | none =>
  rw [h1, Option.none_or] at h
  cases h2 : ringF D with
  | some v => rw [h2] at h; cases h
  | none => rw [h2, Option.none_or] at h; exact ⟨rfl, rfl, h⟩
theorem dps_map (n : Nat) (f : Nat → Nat) : dps n f = ((List.range n).map f).map iv := by unfold dps; rw [List.map_map]; rfl
theorem flt_some {D : List Df} {v : Int × Int} (h : fA D = some v) : flt D = v := by unfold flt; rw [h]; rfl
theorem flt_none {D : List Df} (h : fA D = none) : flt D = (0, 0) := by unfold flt; rw [h]; rfl
theorem depR_bad {D : List Df} (h : ¬ fA D = none) : depR D = [] := if_neg h
theorem depR_ok {D : List Df} (h : fA D = none) : depR D = (List.range D.length).map (depN D (TD D)) := if_pos h
theorem Bk.only {w w' : World} {pb mb c : Nat} {D : List Df} {dv : Value} {V : Nat → Value} {cs : Array Value} {fr : Nat × Nat} (h : Bk w pb mb D dv V) (ho : Only (fun k => k = c) w w') (hc : w.heap[c]? = some (.cells cs 32 fr)) (hd : DefR w' D dv V) : Bk w' pb mb D dv V :=
 ⟨ho.blk h.cell (fun e => by
  have h1 := h.cell
  rw [e, hc] at h1
  simp at h1), hd, h.mp.only ho (fun e => map_blk_ne h.mp hc e.symm)⟩
theorem some_ne {D : List Df} {v : Int × Int} (h : fA D = some v) : ¬ fA D = none := by rw [h]; simp

set_option maxHeartbeats 4000000 in
theorem names_checked_spec (D : List Df) (dv : Value) (V : Nat → Value) (w0 : World) (hD : DefR w0 D dv V) (hlim : DOk D) : Ca Tryd.prog 33 #[.agg #[dv]] w0 (PChk D dv V w0) := by
 have hlen := hlim.len
 have hD00 := hD
 refine Ca.of Tryd.func33 Tryd.ntmps33 rfl rfl (We (Wb (Wa rfl (o_boxB rfl ?_))))
 intro w1 hC1 hx1 hs1
 obtain ⟨b1, hb1⟩ : ∃ b, b = w0.heap.size := ⟨_, rfl⟩
 rw [← hb1] at hC1 ⊢
 replace hC1 : w1.heap[b1]? = some (.cells ([dv]).toArray 24 (0, 0)) := hC1
 have hx := hx1
 replace hD := hD.ext hx1
 refine Wa rfl (Wg (by first | exact (show _ = Value.pointer _ from rfl) | exact rfl) (Wa rfl (Wg (by first | exact vS | exact rfl) (Wa rfl (o_alB TI32 ?_)))))
 have hxq := hx
 intro wb hC4 hxb hsb
 replace hx := hx.tr hxb
 replace hD := hD.ext hxb
 replace hC1 := hxb.blk hC1 (fun h => h)
 obtain ⟨c4, hc4⟩ : ∃ c, c = w1.heap.size := ⟨_, rfl⟩
 rw [← hc4] at hC4 ⊢
 replace hC4 : wb.heap[c4]? = some (.cells #[.int .i64 0, .int .i64 0] 32 (0, 0)) := hC4
 have hz4 : w0.heap.size ≤ c4 := by rw [hc4]; exact hxq.size
 clear hxq hxb
 refine Wc (We (Wb (Wa rfl (o_ldA TI24 rfl rfl (show Cells _ b1 0 [dv] from Cells.of hC1 0 _ (by simp)) rfl (Wa rfl (o_call Tryd.call59 (lc rfl ln) ((resolved_spec D dv V _ hD hlim).mono ?_)))))))
 intro v14 w14 hP
 obtain ⟨pv, er, at_, rfl, hpv, hx14⟩ := hP.form
 clear hP
 replace hx := hx.tr hx14
 replace hD := hD.ext hx14
 replace hC1 := hx14.blk hC1 (fun h => h)
 replace hC4 := hx14.blk hC4 (fun h => h)
 refine Wa rfl (Wf (by first | exact (show _ = Value.tuple _ from rfl) | exact rfl) (Wa rfl (o_ext rfl rfl (Wa rfl (o_ext rfl rfl (Wa rfl (o_alB TI32 ?_)))))))
 intro wa hCa hxa hsa
 refine Wa rfl (Wg (by first | exact (show _ = Value.pointer _ from rfl) | exact rfl) (WL.u (o_stA TI32 rfl (show _ = Value.agg ([.int .i64 er, .int .i64 at_]).toArray from rfl) rfl rfl hCa rfl ?_)))
 intro wb6 hC6 hob hsb
 have hxb := Ext.own hxa (Nat.le_refl _) hob
 obtain ⟨b6, hb6⟩ : ∃ b, b = w14.heap.size := ⟨_, rfl⟩
 rw [← hb6] at hC6 ⊢
 clear hCa hxa hsa hob hsb
 replace hx := hx.tr hxb
 replace hD := hD.ext hxb
 replace hC1 := hxb.blk hC1 (fun h => h)
 replace hC4 := hxb.blk hC4 (fun h => h)
 have hx6b := hxb
 clear hxb
 refine Wc (We (We (Wb (Wa rfl (Wl 0 TI32 rfl TI30 rfl rfl (Wa rfl (Wk TI30 rfl rfl (Wh hC6 rfl) (Wa rfl (o_ne rfl rfl (Wc (Wn rfl (fun c19 => ?_) (fun c19 => ?_))))))))))))
 ·try simp only [cs8] at c19
  have hne : ¬ er = 0 := by simpa using c19
  obtain ⟨-, rfl, hra⟩ : _ ∧ pv = .pointer none ∧ resA D = some (er, at_) := by
   rcases hpv with h | h
   ·exact h
   exact absurd h.1 hne
  refine We (W.tail 3 rfl (by kernel_rfl) (WS.c rfl ((SO.o rfl (o_ldA TI32 rfl rfl (show Cells _ b6 0 [.int .i64 er, .int .i64 at_] from Cells.of hC6 0 _ (by simp)) rfl ⟨rfl, rfl⟩))) (WS.c rfl ((SO.o rfl (Wg (by first | exact (show _ = Value.pointer _ from rfl) | exact rfl) ⟨rfl, rfl⟩))) (WS.c rfl ((SO.o rfl (Wg (by first | exact vS | exact rfl) ⟨rfl, rfl⟩))) (WS.nil ?_)))))
  replace hx := hx.tr (Only.drew _)
  replace hC4 : (World.drew _).heap[c4]? = some (.cells #[.int .i64 0, .int .i64 0] 32 (0, 0)) := hC4
  refine WL.u (o_stA TI32 rfl (show _ = Value.agg #[.int .i64 er, .int .i64 at_] from rfl) rfl rfl hC4 rfl ?_)
  intro wz hCz hoz hsz
  replace hx := hx.trans' hoz (fun _ h => h) (fun b hb he => by omega)
  refine Wc (Wm (retTTC rfl TI32 rfl (show _ = Value.pointer none from rfl) (show _ = Value.slice none 0 0 from rfl) rfl (show Cells _ c4 0 [.int .i64 er, .int .i64 at_] from Cells.of hCz 0 _ (by simp)) rfl ?_))
  have hfa := fA_res hra
  exact ⟨_, _, er, at_, rfl, flt_some hfa, .inl ⟨by first | exact hne | decide, some_ne hfa, rfl⟩, by rw [depR_bad (some_ne hfa)]; exact World.ownsRow_nil _ _ _ _, hx⟩
 try simp only [cs8] at c19
 have her : er = 0 := by simpa using c19
 obtain ⟨hra, hck, pb, mb, rfl, hB14⟩ : resA D = none ∧ (chkS D).2.2 = 0 ∧ ∃ pb mb, pv = .pointer (some ⟨pb, 0, none⟩) ∧ Bk w14 pb mb D dv V := by
  rcases hpv with h | h
  ·exact absurd her h.1
  exact h.2.2
 have hB := hB14.ext hx6b
 have hT := trd_of hck
 have hkn := kn9_of hra hck
 have hU : ∀ i, i < D.length → ∀ j ∈ usesD D i, j < D.length := fun i hi => uses_lt hkn hi
 clear hD hC1
 refine Wp (We (We (Wb (Wa rfl (Wf (by first | exact (show _ = Value.pointer _ from rfl) | exact rfl) (Wa rfl (o_nil rfl (Wa rfl (Wl 0 TI132 rfl TI22 rfl rfl (Wa rfl (Wk TI22 rfl rfl (Wh hB.cell rfl) (Wa rfl (Ws TI22 rfl hB.rd.row (Wa rfl (Wf vI (Wc (W.block (W.loop (fun e w => ∃ i : Nat, i ≤ D.length ∧ e 4 = .pointer (some ⟨c4, 0, none⟩) ∧ e 5 = .pointer (some ⟨pb, 0, none⟩) ∧ e 24 = dv ∧ e 25 = .int .i64 (D.length : Int) ∧ e 26 = .int .i64 (i : Int) ∧ (∀ j, j < i → ¬ Relation.TransGen (Us (usesD D)) j j) ∧ Bk w pb mb D dv V ∧ w.heap[c4]? = some (.cells #[.int .i64 0, .int .i64 0] 32 (0, 0)) ∧ Ext w0 w) (fun e w => D.length - (intOf (e 26)).toNat) ?_ ?_))))))))))))))))))
 ·exact ⟨0, Nat.zero_le _, rfl, rfl, rfl, rfl, rfl, fun j hj => by omega, hB, hC4, hx⟩
 rintro e w ⟨i, hi, h4, h5, h24, h25, h26, hno, hB, hC4, hx⟩
 have hm26 := h26
 refine We (Wb (Wa rfl (o_lt h26 h25 (Wc (We (Wn rfl (fun c27 => ?_) (fun c27 => ?_)))))))
 ·try simp only [cs8] at c27
  have hi1 : i < D.length := by omega
  obtain ⟨tb, to_, tc, rfl, htc, hty⟩ := hB.rd.atk hi1
  refine Wp (We (W.block (We (Wb (Wa rfl (Wf h26 (Wa rfl (Wt TI22 TI38 h24 h26 (by omega) (Wa rfl (o_ldA TI38 rfl rfl htc rfl (Wa rfl (o_alB TI38 ?_))))))))))))
  intro wa hCa hxa hsa
  refine Wa rfl (Wg vI (WL.u (o_stA TI38 rfl (show _ = Value.agg (dcell D[i] (V i)).toArray from rfl) rfl (by simp only [dcell, List.toArray, Array.toList, List.all_cons, List.all_nil, sl_one1 hty]; rfl) hCa rfl ?_)))
  intro wb8 hC8 hob hsb
  have hxb := Ext.own hxa (Nat.le_refl _) hob
  obtain ⟨b8, hb8⟩ : ∃ b, b = w.heap.size := ⟨_, rfl⟩
  rw [← hb8] at hC8 ⊢
  clear hCa hxa hsa hob hsb
  replace hx := hx.tr hxb
  replace hB := hB.ext hxb
  replace hC4 := hxb.blk hC4 (fun h => h)
  replace hty := hty.ext hxb
  clear hxb
  refine Wc (We (Wb (Wa rfl (Wf h5 (Wa rfl (Wf vI (Wa rfl (o_call Tryd.call60 (lc rfl (lc rfl ln)) ((ringed_spec pb mb i D _ V _ hB hlim hU hi1).mono ?_)))))))))
  rintro v33 w33 ⟨⟨rb, rfl, hrb⟩, hx33⟩
  replace hx := hx.tr hx33
  replace hB := hB.ext hx33
  replace hC4 := hx33.blk hC4 (fun h => h)
  replace hC8 := hx33.blk hC8 (fun h => h)
  refine Wc (Wn rfl (fun c33 => ?_) (fun c33 => ?_))
  ·try simp only [cs8] at c33
   have hring := hrb.1 c33
   refine We (Wb (Wa rfl (Wl 1 TI38 rfl TI3 rfl rfl (Wa rfl (Wk TI3 rfl rfl (Wh hC8 rfl) (Wa rfl (o_call Tryd.call61 (lc rfl (lc rfl ln)) ((fault_spec 82 D[i].at_ _).mono ?_))))))))
   rintro v36 w36 ⟨rfl, hx36⟩
   replace hx := hx.tr hx36
   replace hB := hB.ext hx36
   replace hC4 := hx36.blk hC4 (fun h => h)
   refine Wa rfl (Wg (by first | exact (show _ = Value.pointer _ from rfl) | exact rfl) (Wa rfl (Wg (by first | exact vS | exact rfl) (WL.u (o_stA TI32 h4 (show _ = Value.agg #[.int .i64 82, .int .i64 D[i].at_] from rfl) rfl rfl hC4 rfl ?_)))))
   intro wz hCz hoz hsz
   replace hx := hx.trans' hoz (fun _ h => h) (fun b hb he => by omega)
   refine Wc (Wm (retTTC rfl TI32 rfl (show _ = Value.pointer none from rfl) (show _ = Value.slice none 0 0 from rfl) h4 (show Cells _ c4 0 [.int .i64 82, .int .i64 D[i].at_] from Cells.of hCz 0 _ (by simp)) rfl ?_))
   have hfa := fA_ring hra hi1 hring hno
   exact ⟨_, _, 82, D[i].at_, rfl, flt_some hfa, .inl ⟨by first | exact hne | decide, some_ne hfa, rfl⟩, by rw [depR_bad (some_ne hfa)]; exact World.ownsRow_nil _ _ _ _, hx⟩
  try simp only [cs8] at c33
  have hnr : ¬ Relation.TransGen (Us (usesD D)) i i := fun h => by have := hrb.2 h; rw [this] at c33; cases c33
  refine Wp (Wb (Wa rfl (o_addi h26 rfl (by omega) (Wa rfl (Wf vI (Wc (⟨⟨i + 1, by omega, h4, h5, h24, h25, rfl, fun j hj => ?_, hB, hC4, hx⟩, ?_⟩)))))))
  ·rcases Nat.lt_or_ge j i with h | h
   ·exact hno j h
   rw [show j = i by omega]; exact hnr
  show D.length - ((i : Int) + 1).toNat < _
  rw [hm26]; simp [intOf]; omega
 try simp only [cs8] at c27
 have hi1 : i = D.length := by omega
 rw [hi1] at hno
 have hrn := ring_none hno
 refine W.exit (We (Wb (Wa rfl (Wf h5 (Wa rfl (o_call Tryd.call62 (lc rfl ln) ((depths_spec pb mb D (TD D) dv V _ hB hlim hT hkn hno).mono ?_)))))))
 rintro v39 w39 ⟨hdp, hx39⟩
 replace hdp := own_mono hdp hx.size
 replace hx := hx.tr hx39
 replace hB := hB.ext hx39
 replace hC4 := hx39.blk hC4 (fun h => h)
 refine Wa rfl (Wg (by first | exact vS | exact rfl) (Wc (We (We (Wb (Wa rfl (Wf h5 (Wa rfl (o_nil rfl (Wa rfl (Wl 0 TI132 rfl TI22 rfl rfl (Wa rfl (Wk TI22 rfl rfl (Wh hB.cell rfl) (Wa rfl (Ws TI22 rfl hB.rd.row (Wa rfl (Wf vI (Wc (W.block (W.loop (fun e w => ∃ i : Nat, i ≤ D.length ∧ e 4 = .pointer (some ⟨c4, 0, none⟩) ∧ e 5 = .pointer (some ⟨pb, 0, none⟩) ∧ e 9 = v39 ∧ e 43 = dv ∧ e 44 = .int .i64 (D.length : Int) ∧ e 45 = .int .i64 (i : Int) ∧ (∀ j, j < i → ¬ 64 < depN D (TD D) j) ∧ w.ownsRow w0.heap.size 3 1 v39 D.length (dps D.length (depN D (TD D))) ∧ Bk w pb mb D dv V ∧ w.heap[c4]? = some (.cells #[.int .i64 0, .int .i64 0] 32 (0, 0)) ∧ Ext w0 w) (fun e w => D.length - (intOf (e 45)).toNat) ?_ ?_))))))))))))))))))))
 ·exact ⟨0, Nat.zero_le _, h4, h5, rfl, rfl, rfl, rfl, fun j hj => by omega, hdp, hB, hC4, hx⟩
 rintro e w ⟨i, hi, h4, h5, h9, h43, h44, h45, hnd, hdp, hB, hC4, hx⟩
 have hm45 := h45
 refine We (Wb (Wa rfl (o_lt h45 h44 (Wc (We (Wn rfl (fun c46 => ?_) (fun c46 => ?_)))))))
 ·try simp only [cs8] at c46
  have hi1 : i < D.length := by omega
  obtain ⟨tb, to_, tc, rfl, htc, hty⟩ := hB.rd.atk hi1
  obtain ⟨ub, uo, uc, hVd, hcell⟩ := Sl.at1 (Sl.own hdp) hi1 (dps_at hi1)
  rw [hVd] at h9
  have hdw := hdp
  refine Wp (We (W.block (We (Wb (Wa rfl (Wf h45 (Wa rfl (Wt TI22 TI38 h43 h45 (by omega) (Wa rfl (o_ldA TI38 rfl rfl htc rfl (Wa rfl (o_alB TI38 ?_))))))))))))
  intro wa hCa hxa hsa
  refine Wa rfl (Wg vI (WL.u (o_stA TI38 rfl (show _ = Value.agg (dcell D[i] (V i)).toArray from rfl) rfl (by simp only [dcell, List.toArray, Array.toList, List.all_cons, List.all_nil, sl_one1 hty]; rfl) hCa rfl ?_)))
  intro wb11 hC11 hob hsb
  have hxb := Ext.own hxa (Nat.le_refl _) hob
  obtain ⟨b11, hb11⟩ : ∃ b, b = w.heap.size := ⟨_, rfl⟩
  rw [← hb11] at hC11 ⊢
  clear hCa hxa hsa hob hsb
  replace hx := hx.tr hxb
  replace hB := hB.ext hxb
  replace hC4 := hxb.blk hC4 (fun h => h)
  replace hty := hty.ext hxb
  replace hdp := Wr hdp hxb
  clear hxb
  refine Wc (We (Wb (Wa rfl (Wf h9 (Wa rfl (Wf vI (Wa rfl (Wt (i := i) TI57 TI3 (show _ = Value.slice (some ⟨ub, uo, none⟩) D.length uc from rfl) rfl (by omega) ?_))))))))
  refine Wa rfl (Wk TI3 rfl rfl (by
    have hq := Sl.own hdp
    obtain ⟨ub2, uo2, uc2, hV2, hcell2⟩ := Sl.at1 hq hi1 (dps_at hi1)
    rw [hVd] at hV2
    simp only [Value.slice.injEq, Option.some.injEq, Addr.mk.injEq] at hV2
    obtain ⟨⟨rfl, rfl, -⟩, -, -⟩ := hV2
    exact hcell2) ?_)
  refine Wa rfl (o_gt rfl rfl (Wc (Wn rfl (fun c54 => ?_) (fun c54 => ?_))))
  ·try simp only [cs8] at c54
   have hdeep : 64 < depN D (TD D) i := by omega
   refine We (Wb (Wa rfl (Wl 1 TI38 rfl TI3 rfl rfl (Wa rfl (Wk TI3 rfl rfl (Wh hC11 rfl) (Wa rfl (o_call Tryd.call61 (lc rfl (lc rfl ln)) ((fault_spec 83 D[i].at_ _).mono ?_))))))))
   rintro v57 w57 ⟨rfl, hx57⟩
   replace hx := hx.tr hx57
   replace hB := hB.ext hx57
   replace hC4 := hx57.blk hC4 (fun h => h)
   refine Wa rfl (Wg (by first | exact (show _ = Value.pointer _ from rfl) | exact rfl) (Wa rfl (Wg (by first | exact vS | exact rfl) (WL.u (o_stA TI32 h4 (show _ = Value.agg #[.int .i64 83, .int .i64 D[i].at_] from rfl) rfl rfl hC4 rfl ?_)))))
   intro wz hCz hoz hsz
   replace hx := hx.trans' hoz (fun _ h => h) (fun b hb he => by omega)
   refine Wc (Wm (retTTC rfl TI32 rfl (show _ = Value.pointer none from rfl) (show _ = Value.slice none 0 0 from rfl) h4 (show Cells _ c4 0 [.int .i64 83, .int .i64 D[i].at_] from Cells.of hCz 0 _ (by simp)) rfl ?_))
   have hfa := fA_deep hra hrn hi1 hdeep hnd
   exact ⟨_, _, 83, D[i].at_, rfl, flt_some hfa, .inl ⟨by first | exact hne | decide, some_ne hfa, rfl⟩, by rw [depR_bad (some_ne hfa)]; exact World.ownsRow_nil _ _ _ _, hx⟩
  try simp only [cs8] at c54
  have hdeep : ¬ 64 < depN D (TD D) i := by omega
  refine Wp (Wb (Wa rfl (o_addi h45 rfl (by omega) (Wa rfl (Wf vI (Wc (⟨⟨i + 1, by omega, h4, h5, h9.trans hVd.symm, h43, h44, rfl, fun j hj => ?_, hdp, hB, hC4, hx⟩, ?_⟩)))))))
  ·rcases Nat.lt_or_ge j i with h | h
   ·exact hnd j h
   rw [show j = i by omega]; omega
  show D.length - ((i : Int) + 1).toNat < _
  rw [hm45]; simp [intOf]; omega
 try simp only [cs8] at c46
 have hi1 : i = D.length := by omega
 rw [hi1] at hnd
 have hfn := fA_none hra hrn hnd
 refine W.exit (We (Wb (Wa rfl (Wf h5 (Wa rfl (Wf h9 (Wa rfl (o_bldC (cs := [(.int .i64 0), (.int .i64 0)]) TI32 (Sizes.cons TI30 (Sizes.cons TI3 Sizes.nil)) rfl lnp rfl rfl (Wa rfl (Wg (by first | exact (show _ = Value.pointer _ from rfl) | exact rfl) (Wa rfl (Wg (by first | exact vS | exact rfl) (WL.u (o_stA TI32 h4 (show _ = Value.agg #[.int .i64 0, .int .i64 0] from rfl) rfl rfl hC4 rfl ?_))))))))))))))
 intro wz hCz hoz hsz
 replace hx := hx.trans' hoz (fun _ h => h) (fun b hb he => by omega)
 refine Wc (Wm ?_)
 have hB2 := hB.only hoz hC4 (hD00.ext hx)
 refine retTTC rfl TI32 rfl (show _ = Value.pointer (some ⟨pb, 0, none⟩) from rfl) (show _ = v39 from rfl) h4 (show Cells _ c4 0 [.int .i64 0, .int .i64 0] from Cells.of hCz 0 _ (by simp)) rfl ?_
 exact ⟨_, _, 0, 0, rfl, flt_none hfn, .inr ⟨rfl, hfn, hck, pb, mb, rfl, hB2⟩, by rw [depR_ok hfn, List.length_map, List.length_range, ← dps_map]; exact own_only hdp hoz (fun b hb he => by subst he; exact own_off hdp hC4 (by decide) hb), hx⟩
end Go.Proofs.YtpbflfgigfdohaaDoor
